/- A symbolic executor, checked once, and what it shows of the functions: part 9. -/
import Derived.Test.YtmjejlbmcefaoaaPkH
namespace Go.Proofs.Ytmjejlbmcefaoaa
open Go Sx

/-- a row's limb; 0 beyond. -/
def limbI (l : List Int) (i : Int) : Int := bif decide (0 ≤ i) && decide (i < (l.length : Int)) then l.getD i.toNat 0 else 0
def e216 : Entry := fun args ms => match args, ms with
  | [.c (.sl 0 0 n), .c (.v (.int .i64 i))], [⟨_, .ro, .ints .u64 l⟩] => some (⟨.w (.c (.v (.int .u64 (limbI l i)))), [], []⟩, [Nat.beq l.length n])
  | _, _ => none
theorem s216_1 (t : Nat) (l : List Int) (i : Int) (h1 : i < 0) : Sx.Spec Try.prog 216 [W.c (C.sl 0 0 (List.length l)), W.int IntKind.i64 i] [Blk.mk t Mode.ro (K.ints IntKind.u64 l)] ⟨V.int IntKind.u64 0, [], []⟩ :=
  spec_of_whole (tab_ok libn_ok) mixed Try.func216 [(7, true)] 1000000 [(0, none)] (by kernel_rfl) (by kernel_rfl) (by kernel_rfl) (by kernel_rfl) (by kernel_rfl) (by kernel_rfl)
    (ocons (decide_eq_true h1) onil)
theorem s216_2 (t : Nat) (l : List Int) (i : Int) (h1 : ¬i < 0) (h2 : i ≥ (↑(List.length l) : Int)) : Sx.Spec Try.prog 216 [W.c (C.sl 0 0 (List.length l)), W.int IntKind.i64 i] [Blk.mk t Mode.ro (K.ints IntKind.u64 l)] ⟨V.int IntKind.u64 0, [], []⟩ :=
  spec_of_whole (tab_ok libn_ok) mixed Try.func216 [(7, false), (12, true)] 1000000 [(0, none)] (by kernel_rfl) (by kernel_rfl) (by kernel_rfl) (by kernel_rfl) (by kernel_rfl) (by kernel_rfl)
    (ocons (ndec h1) (ocons (decide_eq_true h2) onil))
theorem s216_3 (t : Nat) (l : List Int) (i : Int) (h1 : ¬i < 0) (h2 : ¬i ≥ (↑(List.length l) : Int)) (h3 : 0 ≤ i) (h4 : i < (↑(List.length l) : Int)) (h5 : Int.toNat i < List.length l) : Sx.Spec Try.prog 216 [W.c (C.sl 0 0 (List.length l)), W.int IntKind.i64 i] [Blk.mk t Mode.ro (K.ints IntKind.u64 l)] ⟨V.int IntKind.u64 (List.getD l (Int.toNat i) 0), [], []⟩ :=
  spec_of_whole (tab_ok libn_ok) mixed Try.func216 [(7, false), (12, false)] 1000000 [(0, none)] (by kernel_rfl) (by kernel_rfl) (by kernel_rfl) (by kernel_rfl) (by kernel_rfl) (by kernel_rfl)
    (ocons (ndec h1) (ocons (ndec h2) (ocons (decide_eq_true h3) (ocons (decide_eq_true h4) (ocons (bltT h5) onil)))))


theorem limbI_of (l : List Int) (i : Nat) : limbI l (i : Nat) = l.getD i 0 := limbI_nat l i
theorem s216 (t : Nat) (l : List Int) (i : Int) : Sx.Spec Try.prog 216 [.c (.sl 0 0 l.length), W.int .i64 i] [⟨t, .ro, .ints .u64 l⟩] ⟨.w (.c (.v (.int .u64 (limbI l i)))), [], []⟩ := by
  by_cases h1 : i < 0
  · exact spec_res (s216_1 t l i h1) (by unfold limbI; rw [decide_eq_false (by omega), Bool.false_and]; rfl)
  · by_cases h2 : i ≥ (l.length : Int)
    · exact spec_res (s216_2 t l i h1 h2) (by unfold limbI; rw [decide_eq_false (p := i < (l.length : Int)) (by omega), Bool.and_false]; rfl)
    · exact spec_res (s216_3 t l i h1 h2 (by omega) (by omega) (by omega)) (by unfold limbI; rw [decide_eq_true (by omega), decide_eq_true (by omega)]; rfl)
theorem e216_ok : EntryOk Try.prog 216 e216 := by
  intro args ms r obs h ho
  unfold e216 at h
  split at h
  · rename_i n i t l
    cases h
    have hn : l.length = n := by simpa using ohead ho
    subst hn
    exact s216 t l i
  · cases h
def libg0 : List (Nat × Entry) := [(216, roE [.ints .u64, .val] e216)]
theorem libg0_ok : AllOk Try.prog libg0 := .cons (roE_ok e216_ok) (.nil _)
noncomputable def s83k0 : List Item := kAt Try.prog (tab libn) Try.f83 [] 0 [W.ints IntKind.u64 [0]] []
noncomputable def s83st0 (l : List Int) (t4 : Int) (b1_1 : List Int) : Cfg := cfg s83k0 [1, 3, 4] [V.w (W.c (C.ptr 0 0)), V.w (W.c (C.own 1)), V.int IntKind.i64 t4] [Blk.mk 79 Mode.rw (K.ints IntKind.u64 l), Blk.mk 22 (Mode.own 16) (K.ints IntKind.u64 b1_1)]
theorem s83_1 {ρ : Env} {w : World} {r : Res} (l : List Int) (hg : G (mkX Try.prog (tab libn) Try.f83 [] ρ w r) (s83st0 (l) (0) ([0, 0, 0, 0, 0, 0, 0, 0, 0, 0, 0, 0, 0, 0, 0, 0]))) : G (mkX Try.prog (tab libn) Try.f83 [] ρ w r) (cfg [.code (Try.f83.body.getD .skip)] (List.range 1) ([W.ints IntKind.u64 l].map V.w) []) :=
  G.seg (X := mkX Try.prog (tab libn) Try.f83 [] ρ w r) ⟨tab_ok libn_ok, mixed⟩ [] 1000000 0 [1, 3, 4] [(0, none), (8, none)] (k := s83k0) (vs := [V.w (W.c (C.ptr 0 0)), V.w (W.c (C.own 1)), V.int IntKind.i64 0]) (bs := [Blk.mk 79 Mode.rw (K.ints IntKind.u64 l), Blk.mk 22 (Mode.own 16) (K.ints IntKind.u64 [0, 0, 0, 0, 0, 0, 0, 0, 0, 0, 0, 0, 0, 0, 0, 0])]) (by kernel_rfl) (by kernel_rfl)
    (ocons rfl (ocons rfl (ocons rfl onil))) hg
theorem s83_2 {ρ : Env} {w : World} {r : Res} (l : List Int) (t4 : Int) (b1_1 : List Int) (h1 : t4 < 16) (h2 : 0 ≤ IntKind.wrap IntKind.i64 (Int.tdiv t4 4)) (h3 : IntKind.wrap IntKind.i64 (Int.tdiv t4 4) < 4) (h4 : Int.toNat (IntKind.wrap IntKind.i64 (Int.tdiv t4 4)) < List.length l) (h5 : 0 ≤ IntKind.wrap IntKind.i64 (16 * Int.tmod t4 4)) (h6 : 0 ≤ t4) (h7 : Int.toNat t4 + 0 < List.length b1_1) (hg : G (mkX Try.prog (tab libn) Try.f83 [] ρ w r) (s83st0 (l) (IntKind.wrap IntKind.i64 (t4 + 1)) (List.set b1_1 (Int.toNat t4 + 0) (Int.tmod (Int.fdiv (List.getD l (Int.toNat (IntKind.wrap IntKind.i64 (Int.tdiv t4 4))) 0) (2 ^ min (Int.toNat (IntKind.wrap IntKind.i64 (16 * Int.tmod t4 4))) 64)) 65536)))) : G (mkX Try.prog (tab libn) Try.f83 [] ρ w r) (s83st0 l t4 b1_1) :=
  G.seg (X := mkX Try.prog (tab libn) Try.f83 [] ρ w r) ⟨tab_ok libn_ok, mixed⟩ [(7, true)] 1000000 0 [1, 3, 4] [(0, none), (1, none)] (k := s83k0) (vs := [V.w (W.c (C.ptr 0 0)), V.w (W.c (C.own 1)), V.int IntKind.i64 (IntKind.wrap IntKind.i64 (t4 + 1))]) (bs := [Blk.mk 79 Mode.rw (K.ints IntKind.u64 l), Blk.mk 22 (Mode.own 16) (K.ints IntKind.u64 (List.set b1_1 (Int.toNat t4 + 0) (Int.tmod (Int.fdiv (List.getD l (Int.toNat (IntKind.wrap IntKind.i64 (Int.tdiv t4 4))) 0) (2 ^ min (Int.toNat (IntKind.wrap IntKind.i64 (16 * Int.tmod t4 4))) 64)) 65536)))]) (by kernel_rfl) (by kernel_rfl)
    (ocons (decide_eq_true h1) (ocons rfl (ocons (decide_eq_true h2) (ocons (decide_eq_true h3) (ocons (bltT h4) (ocons rfl (ocons (decide_eq_true h5) (ocons rfl (ocons (decide_eq_true h6) (ocons (decide_eq_true h1) (ocons rfl (ocons (bltT h7) onil)))))))))))) hg
theorem s83_3 {ρ : Env} {w : World} (l : List Int) (t4 : Int) (b1_1 : List Int) (h1 : ¬t4 < 16) : G (mkX Try.prog (tab libn) Try.f83 [] ρ w ⟨V.w (W.c (C.own 0)), [], [Blk.mk 22 (Mode.own 16) (K.ints IntKind.u64 b1_1)]⟩) (s83st0 l t4 b1_1) :=
  G.ends (tab_ok libn_ok) mixed [(7, false)] 1000000 [(1, none)] (by kernel_rfl) (by kernel_rfl) (by kernel_rfl) (by kernel_rfl)
    (ocons (ndec h1) onil)

noncomputable def s85k0 : List Item := kAt Try.prog (tab libg0) Try.f85 [] 0 [W.c (C.sl 0 0 1), W.c (C.sl 1 0 1)] [Blk.mk 1 Mode.ro (K.ints IntKind.u64 [0]), Blk.mk 1 Mode.ro (K.ints IntKind.u64 [0])]
noncomputable def s85st0 (t : Nat) (u : Nat) (l : List Int) (m : List Int) (t6 : Int) (t7 : Int) (b2_1 : List Int) : Cfg := cfg s85k0 [0, 1, 5, 6, 7] [V.w (W.c (C.sl 0 0 (List.length l))), V.w (W.c (C.sl 1 0 (List.length m))), V.w (W.c (C.own 2)), V.int IntKind.u64 t6, V.int IntKind.i64 t7] [Blk.mk t Mode.ro (K.ints IntKind.u64 l), Blk.mk u Mode.ro (K.ints IntKind.u64 m), Blk.mk 22 (Mode.own (Int.toNat (IntKind.wrap IntKind.i64 ((if (↑(List.length m) : Int) > (↑(List.length l) : Int) then (↑(List.length m) : Int) else (↑(List.length l) : Int)) + 1)))) (K.ints IntKind.u64 b2_1)]
theorem s85_1 {ρ : Env} {w : World} {r : Res} (t : Nat) (u : Nat) (l : List Int) (m : List Int) (h1 : 0 ≤ IntKind.wrap IntKind.i64 ((if (↑(List.length m) : Int) > (↑(List.length l) : Int) then (↑(List.length m) : Int) else (↑(List.length l) : Int)) + 1)) (h2 : IntKind.wrap IntKind.i64 ((if (↑(List.length m) : Int) > (↑(List.length l) : Int) then (↑(List.length m) : Int) else (↑(List.length l) : Int)) + 1) ≤ IntKind.wrap IntKind.i64 ((if (↑(List.length m) : Int) > (↑(List.length l) : Int) then (↑(List.length m) : Int) else (↑(List.length l) : Int)) + 1)) (h3 : IntKind.wrap IntKind.i64 ((if (↑(List.length m) : Int) > (↑(List.length l) : Int) then (↑(List.length m) : Int) else (↑(List.length l) : Int)) + 1) ≤ 1099511627776) (hg : G (mkX Try.prog (tab libg0) Try.f85 [Blk.mk t Mode.ro (K.ints IntKind.u64 l), Blk.mk u Mode.ro (K.ints IntKind.u64 m)] ρ w r) (s85st0 t u (l) (m) (0) (0) (List.replicate (Int.toNat (IntKind.wrap IntKind.i64 ((if (↑(List.length m) : Int) > (↑(List.length l) : Int) then (↑(List.length m) : Int) else (↑(List.length l) : Int)) + 1))) 0))) : G (mkX Try.prog (tab libg0) Try.f85 [Blk.mk t Mode.ro (K.ints IntKind.u64 l), Blk.mk u Mode.ro (K.ints IntKind.u64 m)] ρ w r) (cfg [.code (Try.f85.body.getD .skip)] (List.range 2) ([W.c (C.sl 0 0 (List.length l)), W.c (C.sl 1 0 (List.length m))].map V.w) [Blk.mk t Mode.ro (K.ints IntKind.u64 l), Blk.mk u Mode.ro (K.ints IntKind.u64 m)]) :=
  G.seg (X := mkX Try.prog (tab libg0) Try.f85 [Blk.mk t Mode.ro (K.ints IntKind.u64 l), Blk.mk u Mode.ro (K.ints IntKind.u64 m)] ρ w r) ⟨tab_ok libg0_ok, mixed⟩ [] 1000000 0 [0, 1, 5, 6, 7] [(0, none), (1, none), (30, none)] (k := s85k0) (vs := [V.w (W.c (C.sl 0 0 (List.length l))), V.w (W.c (C.sl 1 0 (List.length m))), V.w (W.c (C.own 2)), V.int IntKind.u64 0, V.int IntKind.i64 0]) (bs := [Blk.mk t Mode.ro (K.ints IntKind.u64 l), Blk.mk u Mode.ro (K.ints IntKind.u64 m), Blk.mk 22 (Mode.own (Int.toNat (IntKind.wrap IntKind.i64 ((if (↑(List.length m) : Int) > (↑(List.length l) : Int) then (↑(List.length m) : Int) else (↑(List.length l) : Int)) + 1)))) (K.ints IntKind.u64 (List.replicate (Int.toNat (IntKind.wrap IntKind.i64 ((if (↑(List.length m) : Int) > (↑(List.length l) : Int) then (↑(List.length m) : Int) else (↑(List.length l) : Int)) + 1))) 0))]) (by kernel_rfl) (by kernel_rfl)
    (ocons (decide_eq_true h1) (ocons (decide_eq_true h2) (ocons (decide_eq_true h3) onil))) hg
theorem s85_2 {ρ : Env} {w : World} {r : Res} (t : Nat) (u : Nat) (l : List Int) (m : List Int) (t6 : Int) (t7 : Int) (b2_1 : List Int) (h1 : t7 < (↑(Int.toNat (IntKind.wrap IntKind.i64 ((if (↑(List.length m) : Int) > (↑(List.length l) : Int) then (↑(List.length m) : Int) else (↑(List.length l) : Int)) + 1))) : Int)) (h2 : 0 ≤ t7) (h3 : Int.toNat t7 + 0 < List.length b2_1) (hg : G (mkX Try.prog (tab libg0) Try.f85 [Blk.mk t Mode.ro (K.ints IntKind.u64 l), Blk.mk u Mode.ro (K.ints IntKind.u64 m)] ρ w r) (s85st0 t u (l) (m) (IntKind.wrap IntKind.u64 (Int.tdiv (IntKind.wrap IntKind.u64 (IntKind.wrap IntKind.u64 (limbI l t7 + limbI m t7) + t6)) 65536)) (IntKind.wrap IntKind.i64 (t7 + 1)) (List.set b2_1 (Int.toNat t7 + 0) (Int.tmod (IntKind.wrap IntKind.u64 (IntKind.wrap IntKind.u64 (limbI l t7 + limbI m t7) + t6)) 65536)))) : G (mkX Try.prog (tab libg0) Try.f85 [Blk.mk t Mode.ro (K.ints IntKind.u64 l), Blk.mk u Mode.ro (K.ints IntKind.u64 m)] ρ w r) (s85st0 t u l m t6 t7 b2_1) :=
  G.seg (X := mkX Try.prog (tab libg0) Try.f85 [Blk.mk t Mode.ro (K.ints IntKind.u64 l), Blk.mk u Mode.ro (K.ints IntKind.u64 m)] ρ w r) ⟨tab_ok libg0_ok, mixed⟩ [(19, true)] 1000000 0 [0, 1, 5, 6, 7] [(0, none), (1, none), (2, none)] (k := s85k0) (vs := [V.w (W.c (C.sl 0 0 (List.length l))), V.w (W.c (C.sl 1 0 (List.length m))), V.w (W.c (C.own 2)), V.int IntKind.u64 (IntKind.wrap IntKind.u64 (Int.tdiv (IntKind.wrap IntKind.u64 (IntKind.wrap IntKind.u64 (limbI l t7 + limbI m t7) + t6)) 65536)), V.int IntKind.i64 (IntKind.wrap IntKind.i64 (t7 + 1))]) (bs := [Blk.mk t Mode.ro (K.ints IntKind.u64 l), Blk.mk u Mode.ro (K.ints IntKind.u64 m), Blk.mk 22 (Mode.own (Int.toNat (IntKind.wrap IntKind.i64 ((if (↑(List.length m) : Int) > (↑(List.length l) : Int) then (↑(List.length m) : Int) else (↑(List.length l) : Int)) + 1)))) (K.ints IntKind.u64 (List.set b2_1 (Int.toNat t7 + 0) (Int.tmod (IntKind.wrap IntKind.u64 (IntKind.wrap IntKind.u64 (limbI l t7 + limbI m t7) + t6)) 65536)))]) (by kernel_rfl) (by kernel_rfl)
    (ocons (decide_eq_true h1) (ocons (beqT (rfl : List.length l = List.length l)) (ocons (beqT (rfl : List.length m = List.length m)) (ocons rfl (ocons (decide_eq_true h2) (ocons (decide_eq_true h1) (ocons rfl (ocons (bltT h3) (ocons rfl onil))))))))) hg
theorem s85_3 {ρ : Env} {w : World} (t : Nat) (u : Nat) (l : List Int) (m : List Int) (t6 : Int) (t7 : Int) (b2_1 : List Int) (h1 : ¬t7 < (↑(Int.toNat (IntKind.wrap IntKind.i64 ((if (↑(List.length m) : Int) > (↑(List.length l) : Int) then (↑(List.length m) : Int) else (↑(List.length l) : Int)) + 1))) : Int)) : G (mkX Try.prog (tab libg0) Try.f85 [Blk.mk t Mode.ro (K.ints IntKind.u64 l), Blk.mk u Mode.ro (K.ints IntKind.u64 m)] ρ w ⟨V.w (W.c (C.own 2)), [], [Blk.mk 22 (Mode.own (Int.toNat (IntKind.wrap IntKind.i64 ((if (↑(List.length m) : Int) > (↑(List.length l) : Int) then (↑(List.length m) : Int) else (↑(List.length l) : Int)) + 1)))) (K.ints IntKind.u64 b2_1)]⟩) (s85st0 t u l m t6 t7 b2_1) :=
  G.ends (tab_ok libg0_ok) mixed [(19, false)] 1000000 [(0, none), (1, none), (2, none)] (by kernel_rfl) (by kernel_rfl) (by kernel_rfl) (by kernel_rfl)
    (ocons (ndec h1) onil)

noncomputable def s86k0 : List Item := kAt Try.prog (tab libg0) Try.f86 [] 0 [W.c (C.sl 0 0 1), W.int IntKind.i64 1] [Blk.mk 1 Mode.ro (K.ints IntKind.u64 [0])]
noncomputable def s86st0 (t : Nat) (l : List Int) (i : Int) (t6 : Int) (b2_0 : List Int) : Cfg := cfg s86k0 [0, 1, 4, 5, 6] [V.w (W.c (C.sl 0 0 (List.length l))), V.int IntKind.i64 i, V.w (W.c (C.ptr 1 0)), V.w (W.c (C.ptr 2 0)), V.int IntKind.i64 t6] [Blk.mk t Mode.ro (K.ints IntKind.u64 l), Blk.mk 79 Mode.rw (K.ints IntKind.u64 [0, 0, 0, 0]), Blk.mk 79 Mode.rw (K.ints IntKind.u64 b2_0)]
theorem s86_1 {ρ : Env} {w : World} {r : Res} (t : Nat) (l : List Int) (i : Int) (hg : G (mkX Try.prog (tab libg0) Try.f86 [Blk.mk t Mode.ro (K.ints IntKind.u64 l)] ρ w r) (s86st0 t (l) (i) (0) ([0, 0, 0, 0]))) : G (mkX Try.prog (tab libg0) Try.f86 [Blk.mk t Mode.ro (K.ints IntKind.u64 l)] ρ w r) (cfg [.code (Try.f86.body.getD .skip)] (List.range 2) ([W.c (C.sl 0 0 (List.length l)), W.int IntKind.i64 i].map V.w) [Blk.mk t Mode.ro (K.ints IntKind.u64 l)]) :=
  G.seg (X := mkX Try.prog (tab libg0) Try.f86 [Blk.mk t Mode.ro (K.ints IntKind.u64 l)] ρ w r) ⟨tab_ok libg0_ok, mixed⟩ [] 1000000 0 [0, 1, 4, 5, 6] [(0, none), (1, some IntKind.u64), (5, some IntKind.u64)] (k := s86k0) (vs := [V.w (W.c (C.sl 0 0 (List.length l))), V.int IntKind.i64 i, V.w (W.c (C.ptr 1 0)), V.w (W.c (C.ptr 2 0)), V.int IntKind.i64 0]) (bs := [Blk.mk t Mode.ro (K.ints IntKind.u64 l), Blk.mk 79 Mode.rw (K.ints IntKind.u64 [0, 0, 0, 0]), Blk.mk 79 Mode.rw (K.ints IntKind.u64 [0, 0, 0, 0])]) (by kernel_rfl) (by kernel_rfl)
    onil hg
theorem s86_2 {ρ : Env} {w : World} {r : Res} (t : Nat) (l : List Int) (i : Int) (t6 : Int) (b2_0 : List Int) (h1 : t6 < 16) (h2 : 0 ≤ IntKind.wrap IntKind.i64 (Int.tdiv t6 4)) (h3 : IntKind.wrap IntKind.i64 (Int.tdiv t6 4) < 4) (h4 : Int.toNat (IntKind.wrap IntKind.i64 (Int.tdiv t6 4)) < List.length b2_0) (h5 : 0 ≤ IntKind.wrap IntKind.i64 (16 * Int.tmod t6 4)) (h6 : Int.toNat (IntKind.wrap IntKind.i64 (Int.tdiv t6 4)) + 0 < List.length b2_0) (hg : G (mkX Try.prog (tab libg0) Try.f86 [Blk.mk t Mode.ro (K.ints IntKind.u64 l)] ρ w r) (s86st0 t (l) (i) (IntKind.wrap IntKind.i64 (t6 + 1)) (List.set b2_0 (Int.toNat (IntKind.wrap IntKind.i64 (Int.tdiv t6 4)) + 0) (orI IntKind.u64 (List.getD b2_0 (Int.toNat (IntKind.wrap IntKind.i64 (Int.tdiv t6 4))) 0) (shl IntKind.u64 (limbI l (IntKind.wrap IntKind.i64 (i + t6))) (IntKind.wrap IntKind.i64 (16 * Int.tmod t6 4))))))) : G (mkX Try.prog (tab libg0) Try.f86 [Blk.mk t Mode.ro (K.ints IntKind.u64 l)] ρ w r) (s86st0 t l i t6 b2_0) :=
  G.seg (X := mkX Try.prog (tab libg0) Try.f86 [Blk.mk t Mode.ro (K.ints IntKind.u64 l)] ρ w r) ⟨tab_ok libg0_ok, mixed⟩ [(8, true)] 1000000 0 [0, 1, 4, 5, 6] [(0, none), (1, none), (2, none)] (k := s86k0) (vs := [V.w (W.c (C.sl 0 0 (List.length l))), V.int IntKind.i64 i, V.w (W.c (C.ptr 1 0)), V.w (W.c (C.ptr 2 0)), V.int IntKind.i64 (IntKind.wrap IntKind.i64 (t6 + 1))]) (bs := [Blk.mk t Mode.ro (K.ints IntKind.u64 l), Blk.mk 79 Mode.rw (K.ints IntKind.u64 [0, 0, 0, 0]), Blk.mk 79 Mode.rw (K.ints IntKind.u64 (List.set b2_0 (Int.toNat (IntKind.wrap IntKind.i64 (Int.tdiv t6 4)) + 0) (orI IntKind.u64 (List.getD b2_0 (Int.toNat (IntKind.wrap IntKind.i64 (Int.tdiv t6 4))) 0) (shl IntKind.u64 (limbI l (IntKind.wrap IntKind.i64 (i + t6))) (IntKind.wrap IntKind.i64 (16 * Int.tmod t6 4))))))]) (by kernel_rfl) (by kernel_rfl)
    (ocons (decide_eq_true h1) (ocons rfl (ocons rfl (ocons (decide_eq_true h2) (ocons (decide_eq_true h3) (ocons (bltT h4) (ocons (beqT (rfl : List.length l = List.length l)) (ocons rfl (ocons (decide_eq_true h5) (ocons (decide_eq_true h2) (ocons (decide_eq_true h3) (ocons rfl (ocons (bltT h6) onil))))))))))))) hg
theorem s86_3 {ρ : Env} {w : World} (t : Nat) (l : List Int) (i : Int) (t6 : Int) (b2_0 : List Int) (h1 : ¬t6 < 16) (h2 : 0 < List.length b2_0) (h3 : 1 < List.length b2_0) (h4 : 2 < List.length b2_0) (h5 : 3 < List.length b2_0) (h6 : 3 < List.length (List.set (List.set (List.set [0, 0, 0, 0] 0 (List.getD b2_0 0 0)) 1 (List.getD b2_0 1 0)) 2 (List.getD b2_0 2 0))) (h7 : 0 < List.length (List.set (List.set (List.set (List.set [0, 0, 0, 0] 0 (List.getD b2_0 0 0)) 1 (List.getD b2_0 1 0)) 2 (List.getD b2_0 2 0)) 3 (List.getD b2_0 3 0))) (h8 : 1 < List.length (List.set (List.set (List.set (List.set [0, 0, 0, 0] 0 (List.getD b2_0 0 0)) 1 (List.getD b2_0 1 0)) 2 (List.getD b2_0 2 0)) 3 (List.getD b2_0 3 0))) (h9 : 2 < List.length (List.set (List.set (List.set (List.set [0, 0, 0, 0] 0 (List.getD b2_0 0 0)) 1 (List.getD b2_0 1 0)) 2 (List.getD b2_0 2 0)) 3 (List.getD b2_0 3 0))) (h10 : 3 < List.length (List.set (List.set (List.set (List.set [0, 0, 0, 0] 0 (List.getD b2_0 0 0)) 1 (List.getD b2_0 1 0)) 2 (List.getD b2_0 2 0)) 3 (List.getD b2_0 3 0))) : G (mkX Try.prog (tab libg0) Try.f86 [Blk.mk t Mode.ro (K.ints IntKind.u64 l)] ρ w ⟨V.w (W.agg [C.v (Value.int IntKind.u64 (List.getD (List.set (List.set (List.set (List.set [0, 0, 0, 0] 0 (List.getD b2_0 0 0)) 1 (List.getD b2_0 1 0)) 2 (List.getD b2_0 2 0)) 3 (List.getD b2_0 3 0)) 0 0)), C.v (Value.int IntKind.u64 (List.getD (List.set (List.set (List.set (List.set [0, 0, 0, 0] 0 (List.getD b2_0 0 0)) 1 (List.getD b2_0 1 0)) 2 (List.getD b2_0 2 0)) 3 (List.getD b2_0 3 0)) 1 0)), C.v (Value.int IntKind.u64 (List.getD (List.set (List.set (List.set (List.set [0, 0, 0, 0] 0 (List.getD b2_0 0 0)) 1 (List.getD b2_0 1 0)) 2 (List.getD b2_0 2 0)) 3 (List.getD b2_0 3 0)) 2 0)), C.v (Value.int IntKind.u64 (List.getD (List.set (List.set (List.set (List.set [0, 0, 0, 0] 0 (List.getD b2_0 0 0)) 1 (List.getD b2_0 1 0)) 2 (List.getD b2_0 2 0)) 3 (List.getD b2_0 3 0)) 3 0))]), [], []⟩) (s86st0 t l i t6 b2_0) :=
  G.ends (tab_ok libg0_ok) mixed [(8, false)] 1000000 [(0, none)] (by kernel_rfl) (by kernel_rfl) (by kernel_rfl) (by kernel_rfl)
    (ocons (ndec h1) (ocons (bltT h2) (ocons (bltT h3) (ocons (bltT h4) (ocons (bltT h5) (ocons rfl (ocons rfl (ocons rfl (ocons rfl (ocons (bltT h6) (ocons (bltT h7) (ocons (bltT h8) (ocons (bltT h9) (ocons (bltT h10) onil))))))))))))))

noncomputable def s88k0 : List Item := kAt Try.prog (tab libg0) Try.f88 [] 0 [W.c (C.sl 0 0 1), W.c (C.sl 1 0 1)] [Blk.mk 1 Mode.ro (K.ints IntKind.u64 [0]), Blk.mk 1 Mode.ro (K.ints IntKind.u64 [0])]
noncomputable def s88st0 (t : Nat) (u : Nat) (l : List Int) (m : List Int) (t5 : Int) : Cfg := cfg s88k0 [0, 1, 5] [V.w (W.c (C.sl 0 0 (List.length l))), V.w (W.c (C.sl 1 0 (List.length m))), V.int IntKind.i64 t5] [Blk.mk t Mode.ro (K.ints IntKind.u64 l), Blk.mk u Mode.ro (K.ints IntKind.u64 m)]
theorem s88_1 {ρ : Env} {w : World} {r : Res} (t : Nat) (u : Nat) (l : List Int) (m : List Int) (hg : G (mkX Try.prog (tab libg0) Try.f88 [Blk.mk t Mode.ro (K.ints IntKind.u64 l), Blk.mk u Mode.ro (K.ints IntKind.u64 m)] ρ w r) (s88st0 t u (l) (m) (IntKind.wrap IntKind.i64 ((if (↑(List.length m) : Int) > (↑(List.length l) : Int) then (↑(List.length m) : Int) else (↑(List.length l) : Int)) - 1)))) : G (mkX Try.prog (tab libg0) Try.f88 [Blk.mk t Mode.ro (K.ints IntKind.u64 l), Blk.mk u Mode.ro (K.ints IntKind.u64 m)] ρ w r) (cfg [.code (Try.f88.body.getD .skip)] (List.range 2) ([W.c (C.sl 0 0 (List.length l)), W.c (C.sl 1 0 (List.length m))].map V.w) [Blk.mk t Mode.ro (K.ints IntKind.u64 l), Blk.mk u Mode.ro (K.ints IntKind.u64 m)]) :=
  G.seg (X := mkX Try.prog (tab libg0) Try.f88 [Blk.mk t Mode.ro (K.ints IntKind.u64 l), Blk.mk u Mode.ro (K.ints IntKind.u64 m)] ρ w r) ⟨tab_ok libg0_ok, mixed⟩ [] 1000000 0 [0, 1, 5] [(0, none), (1, none)] (k := s88k0) (vs := [V.w (W.c (C.sl 0 0 (List.length l))), V.w (W.c (C.sl 1 0 (List.length m))), V.int IntKind.i64 (IntKind.wrap IntKind.i64 ((if (↑(List.length m) : Int) > (↑(List.length l) : Int) then (↑(List.length m) : Int) else (↑(List.length l) : Int)) - 1))]) (bs := [Blk.mk t Mode.ro (K.ints IntKind.u64 l), Blk.mk u Mode.ro (K.ints IntKind.u64 m)]) (by kernel_rfl) (by kernel_rfl)
    onil hg
theorem s88_2 {ρ : Env} {w : World} (t : Nat) (u : Nat) (l : List Int) (m : List Int) (t5 : Int) (h1 : t5 ≥ 0) (h2 : ¬limbI l t5 = limbI m t5) : G (mkX Try.prog (tab libg0) Try.f88 [Blk.mk t Mode.ro (K.ints IntKind.u64 l), Blk.mk u Mode.ro (K.ints IntKind.u64 m)] ρ w ⟨V.bool (decide (limbI l t5 < limbI m t5)), [], []⟩) (s88st0 t u l m t5) :=
  G.ends (tab_ok libg0_ok) mixed [(13, true), (22, true)] 1000000 [(0, none), (1, none)] (by kernel_rfl) (by kernel_rfl) (by kernel_rfl) (by kernel_rfl)
    (ocons (decide_eq_true h1) (ocons (beqT (rfl : List.length l = List.length l)) (ocons (beqT (rfl : List.length m = List.length m)) (ocons (bneI h2) (ocons (beqT (rfl : List.length l = List.length l)) (ocons (beqT (rfl : List.length m = List.length m)) onil))))))
theorem s88_3 {ρ : Env} {w : World} {r : Res} (t : Nat) (u : Nat) (l : List Int) (m : List Int) (t5 : Int) (h1 : t5 ≥ 0) (h2 : limbI l t5 = limbI m t5) (hg : G (mkX Try.prog (tab libg0) Try.f88 [Blk.mk t Mode.ro (K.ints IntKind.u64 l), Blk.mk u Mode.ro (K.ints IntKind.u64 m)] ρ w r) (s88st0 t u (l) (m) (IntKind.wrap IntKind.i64 (t5 - 1)))) : G (mkX Try.prog (tab libg0) Try.f88 [Blk.mk t Mode.ro (K.ints IntKind.u64 l), Blk.mk u Mode.ro (K.ints IntKind.u64 m)] ρ w r) (s88st0 t u l m t5) :=
  G.seg (X := mkX Try.prog (tab libg0) Try.f88 [Blk.mk t Mode.ro (K.ints IntKind.u64 l), Blk.mk u Mode.ro (K.ints IntKind.u64 m)] ρ w r) ⟨tab_ok libg0_ok, mixed⟩ [(13, true), (22, false)] 1000000 0 [0, 1, 5] [(0, none), (1, none)] (k := s88k0) (vs := [V.w (W.c (C.sl 0 0 (List.length l))), V.w (W.c (C.sl 1 0 (List.length m))), V.int IntKind.i64 (IntKind.wrap IntKind.i64 (t5 - 1))]) (bs := [Blk.mk t Mode.ro (K.ints IntKind.u64 l), Blk.mk u Mode.ro (K.ints IntKind.u64 m)]) (by kernel_rfl) (by kernel_rfl)
    (ocons (decide_eq_true h1) (ocons (beqT (rfl : List.length l = List.length l)) (ocons (beqT (rfl : List.length m = List.length m)) (ocons (nbneI h2) onil)))) hg
theorem s88_4 {ρ : Env} {w : World} (t : Nat) (u : Nat) (l : List Int) (m : List Int) (t5 : Int) (h1 : ¬t5 ≥ 0) : G (mkX Try.prog (tab libg0) Try.f88 [Blk.mk t Mode.ro (K.ints IntKind.u64 l), Blk.mk u Mode.ro (K.ints IntKind.u64 m)] ρ w ⟨V.bool false, [], []⟩) (s88st0 t u l m t5) :=
  G.ends (tab_ok libg0_ok) mixed [(13, false)] 1000000 [(0, none), (1, none)] (by kernel_rfl) (by kernel_rfl) (by kernel_rfl) (by kernel_rfl)
    (ocons (ndec h1) onil)

noncomputable def s221k0 : List Item := kAt Try.prog (tab libg0) Try.f221 [] 0 [W.c (C.sl 0 0 1), W.c (C.sl 1 0 1)] [Blk.mk 1 Mode.ro (K.ints IntKind.u64 [0]), Blk.mk 1 Mode.ro (K.ints IntKind.u64 [0])]
noncomputable def s221st0 (t : Nat) (u : Nat) (l : List Int) (m : List Int) (t6 : Int) (t7 : Int) (b2_1 : List Int) : Cfg := cfg s221k0 [0, 1, 5, 6, 7] [V.w (W.c (C.sl 0 0 (List.length l))), V.w (W.c (C.sl 1 0 (List.length m))), V.w (W.c (C.own 2)), V.int IntKind.u64 t6, V.int IntKind.i64 t7] [Blk.mk t Mode.ro (K.ints IntKind.u64 l), Blk.mk u Mode.ro (K.ints IntKind.u64 m), Blk.mk 22 (Mode.own (Int.toNat (↑(List.length l) : Int))) (K.ints IntKind.u64 b2_1)]
theorem s221_1 {ρ : Env} {w : World} {r : Res} (t : Nat) (u : Nat) (l : List Int) (m : List Int) (h1 : (↑(List.length l) : Int) ≤ (↑(List.length l) : Int)) (h2 : (↑(List.length l) : Int) ≤ 1099511627776) (hg : G (mkX Try.prog (tab libg0) Try.f221 [Blk.mk t Mode.ro (K.ints IntKind.u64 l), Blk.mk u Mode.ro (K.ints IntKind.u64 m)] ρ w r) (s221st0 t u (l) (m) (0) (0) (List.replicate (Int.toNat (↑(List.length l) : Int)) 0))) : G (mkX Try.prog (tab libg0) Try.f221 [Blk.mk t Mode.ro (K.ints IntKind.u64 l), Blk.mk u Mode.ro (K.ints IntKind.u64 m)] ρ w r) (cfg [.code (Try.f221.body.getD .skip)] (List.range 2) ([W.c (C.sl 0 0 (List.length l)), W.c (C.sl 1 0 (List.length m))].map V.w) [Blk.mk t Mode.ro (K.ints IntKind.u64 l), Blk.mk u Mode.ro (K.ints IntKind.u64 m)]) :=
  G.seg (X := mkX Try.prog (tab libg0) Try.f221 [Blk.mk t Mode.ro (K.ints IntKind.u64 l), Blk.mk u Mode.ro (K.ints IntKind.u64 m)] ρ w r) ⟨tab_ok libg0_ok, mixed⟩ [] 1000000 0 [0, 1, 5, 6, 7] [(0, none), (1, none), (14, none)] (k := s221k0) (vs := [V.w (W.c (C.sl 0 0 (List.length l))), V.w (W.c (C.sl 1 0 (List.length m))), V.w (W.c (C.own 2)), V.int IntKind.u64 0, V.int IntKind.i64 0]) (bs := [Blk.mk t Mode.ro (K.ints IntKind.u64 l), Blk.mk u Mode.ro (K.ints IntKind.u64 m), Blk.mk 22 (Mode.own (Int.toNat (↑(List.length l) : Int))) (K.ints IntKind.u64 (List.replicate (Int.toNat (↑(List.length l) : Int)) 0))]) (by kernel_rfl) (by kernel_rfl)
    (ocons rfl (ocons (decide_eq_true h1) (ocons (decide_eq_true h2) onil))) hg
theorem s221_2 {ρ : Env} {w : World} {r : Res} (t : Nat) (u : Nat) (l : List Int) (m : List Int) (t6 : Int) (t7 : Int) (b2_1 : List Int) (h1 : t7 < (↑(List.length l) : Int)) (h2 : 0 ≤ t7) (h3 : t7 < (↑(Int.toNat (↑(List.length l) : Int)) : Int)) (h4 : Int.toNat t7 + 0 < List.length b2_1) (hg : G (mkX Try.prog (tab libg0) Try.f221 [Blk.mk t Mode.ro (K.ints IntKind.u64 l), Blk.mk u Mode.ro (K.ints IntKind.u64 m)] ρ w r) (s221st0 t u (l) (m) (IntKind.wrap IntKind.u64 (1 - IntKind.wrap IntKind.u64 (Int.tdiv (IntKind.wrap IntKind.u64 (IntKind.wrap IntKind.u64 (IntKind.wrap IntKind.u64 (65536 + limbI l t7) - limbI m t7) - t6)) 65536))) (IntKind.wrap IntKind.i64 (t7 + 1)) (List.set b2_1 (Int.toNat t7 + 0) (Int.tmod (IntKind.wrap IntKind.u64 (IntKind.wrap IntKind.u64 (IntKind.wrap IntKind.u64 (65536 + limbI l t7) - limbI m t7) - t6)) 65536)))) : G (mkX Try.prog (tab libg0) Try.f221 [Blk.mk t Mode.ro (K.ints IntKind.u64 l), Blk.mk u Mode.ro (K.ints IntKind.u64 m)] ρ w r) (s221st0 t u l m t6 t7 b2_1) :=
  G.seg (X := mkX Try.prog (tab libg0) Try.f221 [Blk.mk t Mode.ro (K.ints IntKind.u64 l), Blk.mk u Mode.ro (K.ints IntKind.u64 m)] ρ w r) ⟨tab_ok libg0_ok, mixed⟩ [(15, true)] 1000000 0 [0, 1, 5, 6, 7] [(0, none), (1, none), (2, none)] (k := s221k0) (vs := [V.w (W.c (C.sl 0 0 (List.length l))), V.w (W.c (C.sl 1 0 (List.length m))), V.w (W.c (C.own 2)), V.int IntKind.u64 (IntKind.wrap IntKind.u64 (1 - IntKind.wrap IntKind.u64 (Int.tdiv (IntKind.wrap IntKind.u64 (IntKind.wrap IntKind.u64 (IntKind.wrap IntKind.u64 (65536 + limbI l t7) - limbI m t7) - t6)) 65536))), V.int IntKind.i64 (IntKind.wrap IntKind.i64 (t7 + 1))]) (bs := [Blk.mk t Mode.ro (K.ints IntKind.u64 l), Blk.mk u Mode.ro (K.ints IntKind.u64 m), Blk.mk 22 (Mode.own (Int.toNat (↑(List.length l) : Int))) (K.ints IntKind.u64 (List.set b2_1 (Int.toNat t7 + 0) (Int.tmod (IntKind.wrap IntKind.u64 (IntKind.wrap IntKind.u64 (IntKind.wrap IntKind.u64 (65536 + limbI l t7) - limbI m t7) - t6)) 65536)))]) (by kernel_rfl) (by kernel_rfl)
    (ocons (decide_eq_true h1) (ocons (beqT (rfl : List.length l = List.length l)) (ocons (beqT (rfl : List.length m = List.length m)) (ocons rfl (ocons (decide_eq_true h2) (ocons (decide_eq_true h3) (ocons rfl (ocons (bltT h4) (ocons rfl onil))))))))) hg
theorem s221_3 {ρ : Env} {w : World} (t : Nat) (u : Nat) (l : List Int) (m : List Int) (t6 : Int) (t7 : Int) (b2_1 : List Int) (h1 : ¬t7 < (↑(List.length l) : Int)) : G (mkX Try.prog (tab libg0) Try.f221 [Blk.mk t Mode.ro (K.ints IntKind.u64 l), Blk.mk u Mode.ro (K.ints IntKind.u64 m)] ρ w ⟨V.w (W.c (C.own 2)), [], [Blk.mk 22 (Mode.own (Int.toNat (↑(List.length l) : Int))) (K.ints IntKind.u64 b2_1)]⟩) (s221st0 t u l m t6 t7 b2_1) :=
  G.ends (tab_ok libg0_ok) mixed [(15, false)] 1000000 [(0, none), (1, none), (2, none)] (by kernel_rfl) (by kernel_rfl) (by kernel_rfl) (by kernel_rfl)
    (ocons (ndec h1) onil)

noncomputable def s90k0 : List Item := kAt Try.prog (tab libn) Try.f90 [] 0 [W.c (C.sl 0 0 1), W.c (C.sl 1 0 1)] [Blk.mk 1 Mode.ro (K.ints IntKind.u64 [0]), Blk.mk 1 Mode.ro (K.ints IntKind.u64 [0])]
noncomputable def s90st0 (t : Nat) (u : Nat) (l : List Int) (m : List Int) (t6h0 : Int) (b2_1h0 : List Int) : Cfg := cfg s90k0 [0, 1, 5, 6] [V.w (W.c (C.sl 0 0 (List.length l))), V.w (W.c (C.sl 1 0 (List.length m))), V.w (W.c (C.own 2)), V.int IntKind.i64 t6h0] [Blk.mk t Mode.ro (K.ints IntKind.u64 l), Blk.mk u Mode.ro (K.ints IntKind.u64 m), Blk.mk 22 (Mode.own (Int.toNat (IntKind.wrap IntKind.i64 ((↑(List.length l) : Int) + (↑(List.length m) : Int))))) (K.ints IntKind.u64 b2_1h0)]
noncomputable def s90k1 : List Item := kAt Try.prog (tab libn) Try.f90 [(19, true)] 1 [W.c (C.sl 0 0 1), W.c (C.sl 1 0 1)] [Blk.mk 1 Mode.ro (K.ints IntKind.u64 [0]), Blk.mk 1 Mode.ro (K.ints IntKind.u64 [0])]
noncomputable def s90st1 (t : Nat) (u : Nat) (l : List Int) (m : List Int) (t7h1 : Int) (t8h1 : Int) (b2_1h1 : List Int) (t6h0 : Int) : Cfg := cfg s90k1 [0, 1, 5, 6, 7, 8] [V.w (W.c (C.sl 0 0 (List.length l))), V.w (W.c (C.sl 1 0 (List.length m))), V.w (W.c (C.own 2)), V.int IntKind.i64 t6h0, V.int IntKind.u64 t7h1, V.int IntKind.i64 t8h1] [Blk.mk t Mode.ro (K.ints IntKind.u64 l), Blk.mk u Mode.ro (K.ints IntKind.u64 m), Blk.mk 22 (Mode.own (Int.toNat (IntKind.wrap IntKind.i64 ((↑(List.length l) : Int) + (↑(List.length m) : Int))))) (K.ints IntKind.u64 b2_1h1)]
theorem s90_1 {ρ : Env} {w : World} {r : Res} (t : Nat) (u : Nat) (l : List Int) (m : List Int) (h1 : 0 ≤ IntKind.wrap IntKind.i64 ((↑(List.length l) : Int) + (↑(List.length m) : Int))) (h2 : IntKind.wrap IntKind.i64 ((↑(List.length l) : Int) + (↑(List.length m) : Int)) ≤ IntKind.wrap IntKind.i64 ((↑(List.length l) : Int) + (↑(List.length m) : Int))) (h3 : IntKind.wrap IntKind.i64 ((↑(List.length l) : Int) + (↑(List.length m) : Int)) ≤ 1099511627776) (hg : G (mkX Try.prog (tab libn) Try.f90 [Blk.mk t Mode.ro (K.ints IntKind.u64 l), Blk.mk u Mode.ro (K.ints IntKind.u64 m)] ρ w r) (s90st0 t u (l) (m) (0) (List.replicate (Int.toNat (IntKind.wrap IntKind.i64 ((↑(List.length l) : Int) + (↑(List.length m) : Int)))) 0))) : G (mkX Try.prog (tab libn) Try.f90 [Blk.mk t Mode.ro (K.ints IntKind.u64 l), Blk.mk u Mode.ro (K.ints IntKind.u64 m)] ρ w r) (cfg [.code (Try.f90.body.getD .skip)] (List.range 2) ([W.c (C.sl 0 0 (List.length l)), W.c (C.sl 1 0 (List.length m))].map V.w) [Blk.mk t Mode.ro (K.ints IntKind.u64 l), Blk.mk u Mode.ro (K.ints IntKind.u64 m)]) :=
  G.seg (X := mkX Try.prog (tab libn) Try.f90 [Blk.mk t Mode.ro (K.ints IntKind.u64 l), Blk.mk u Mode.ro (K.ints IntKind.u64 m)] ρ w r) ⟨tab_ok libn_ok, mixed⟩ [] 1000000 0 [0, 1, 5, 6] [(0, none), (1, none), (26, none)] (k := s90k0) (vs := [V.w (W.c (C.sl 0 0 (List.length l))), V.w (W.c (C.sl 1 0 (List.length m))), V.w (W.c (C.own 2)), V.int IntKind.i64 0]) (bs := [Blk.mk t Mode.ro (K.ints IntKind.u64 l), Blk.mk u Mode.ro (K.ints IntKind.u64 m), Blk.mk 22 (Mode.own (Int.toNat (IntKind.wrap IntKind.i64 ((↑(List.length l) : Int) + (↑(List.length m) : Int))))) (K.ints IntKind.u64 (List.replicate (Int.toNat (IntKind.wrap IntKind.i64 ((↑(List.length l) : Int) + (↑(List.length m) : Int)))) 0))]) (by kernel_rfl) (by kernel_rfl)
    (ocons (decide_eq_true h1) (ocons (decide_eq_true h2) (ocons (decide_eq_true h3) onil))) hg
theorem s90_2 {ρ : Env} {w : World} {r : Res} (t : Nat) (u : Nat) (l : List Int) (m : List Int) (t6h0 : Int) (b2_1h0 : List Int) (h1 : t6h0 < (↑(List.length l) : Int)) (hg : G (mkX Try.prog (tab libn) Try.f90 [Blk.mk t Mode.ro (K.ints IntKind.u64 l), Blk.mk u Mode.ro (K.ints IntKind.u64 m)] ρ w r) (s90st1 t u (l) (m) (0) (0) (b2_1h0) (t6h0))) : G (mkX Try.prog (tab libn) Try.f90 [Blk.mk t Mode.ro (K.ints IntKind.u64 l), Blk.mk u Mode.ro (K.ints IntKind.u64 m)] ρ w r) (s90st0 t u l m t6h0 b2_1h0) :=
  G.seg (X := mkX Try.prog (tab libn) Try.f90 [Blk.mk t Mode.ro (K.ints IntKind.u64 l), Blk.mk u Mode.ro (K.ints IntKind.u64 m)] ρ w r) ⟨tab_ok libn_ok, mixed⟩ [(19, true)] 1000000 0 [0, 1, 5, 6, 7, 8] [(0, none), (1, none), (2, none)] (k := s90k1) (vs := [V.w (W.c (C.sl 0 0 (List.length l))), V.w (W.c (C.sl 1 0 (List.length m))), V.w (W.c (C.own 2)), V.int IntKind.i64 t6h0, V.int IntKind.u64 0, V.int IntKind.i64 0]) (bs := [Blk.mk t Mode.ro (K.ints IntKind.u64 l), Blk.mk u Mode.ro (K.ints IntKind.u64 m), Blk.mk 22 (Mode.own (Int.toNat (IntKind.wrap IntKind.i64 ((↑(List.length l) : Int) + (↑(List.length m) : Int))))) (K.ints IntKind.u64 b2_1h0)]) (by kernel_rfl) (by kernel_rfl)
    (ocons (decide_eq_true h1) onil) hg
theorem s90_3 {ρ : Env} {w : World} (t : Nat) (u : Nat) (l : List Int) (m : List Int) (t6h0 : Int) (b2_1h0 : List Int) (h1 : ¬t6h0 < (↑(List.length l) : Int)) : G (mkX Try.prog (tab libn) Try.f90 [Blk.mk t Mode.ro (K.ints IntKind.u64 l), Blk.mk u Mode.ro (K.ints IntKind.u64 m)] ρ w ⟨V.w (W.c (C.own 2)), [], [Blk.mk 22 (Mode.own (Int.toNat (IntKind.wrap IntKind.i64 ((↑(List.length l) : Int) + (↑(List.length m) : Int))))) (K.ints IntKind.u64 b2_1h0)]⟩) (s90st0 t u l m t6h0 b2_1h0) :=
  G.ends (tab_ok libn_ok) mixed [(19, false)] 1000000 [(0, none), (1, none), (2, none)] (by kernel_rfl) (by kernel_rfl) (by kernel_rfl) (by kernel_rfl)
    (ocons (ndec h1) onil)
theorem s90_4 {ρ : Env} {w : World} {r : Res} (t : Nat) (u : Nat) (l : List Int) (m : List Int) (t7h1 : Int) (t8h1 : Int) (b2_1h1 : List Int) (t6h0 : Int) (h1 : t8h1 < (↑(List.length m) : Int)) (h2 : 0 ≤ IntKind.wrap IntKind.i64 (t6h0 + t8h1)) (h3 : IntKind.wrap IntKind.i64 (t6h0 + t8h1) < (↑(Int.toNat (IntKind.wrap IntKind.i64 ((↑(List.length l) : Int) + (↑(List.length m) : Int)))) : Int)) (h4 : Int.toNat (IntKind.wrap IntKind.i64 (t6h0 + t8h1)) < List.length b2_1h1) (h5 : 0 ≤ t6h0) (h6 : t6h0 < (↑(List.length l) : Int)) (h7 : Int.toNat t6h0 < List.length l) (h8 : 0 ≤ t8h1) (h9 : Int.toNat t8h1 < List.length m) (h10 : Int.toNat (IntKind.wrap IntKind.i64 (t6h0 + t8h1)) + 0 < List.length b2_1h1) (hg : G (mkX Try.prog (tab libn) Try.f90 [Blk.mk t Mode.ro (K.ints IntKind.u64 l), Blk.mk u Mode.ro (K.ints IntKind.u64 m)] ρ w r) (s90st1 t u (l) (m) (IntKind.wrap IntKind.u64 (Int.tdiv (IntKind.wrap IntKind.u64 (IntKind.wrap IntKind.u64 (List.getD b2_1h1 (Int.toNat (IntKind.wrap IntKind.i64 (t6h0 + t8h1))) 0 + IntKind.wrap IntKind.u64 (List.getD l (Int.toNat t6h0) 0 * List.getD m (Int.toNat t8h1) 0)) + t7h1)) 65536)) (IntKind.wrap IntKind.i64 (t8h1 + 1)) (List.set b2_1h1 (Int.toNat (IntKind.wrap IntKind.i64 (t6h0 + t8h1)) + 0) (Int.tmod (IntKind.wrap IntKind.u64 (IntKind.wrap IntKind.u64 (List.getD b2_1h1 (Int.toNat (IntKind.wrap IntKind.i64 (t6h0 + t8h1))) 0 + IntKind.wrap IntKind.u64 (List.getD l (Int.toNat t6h0) 0 * List.getD m (Int.toNat t8h1) 0)) + t7h1)) 65536)) (t6h0))) : G (mkX Try.prog (tab libn) Try.f90 [Blk.mk t Mode.ro (K.ints IntKind.u64 l), Blk.mk u Mode.ro (K.ints IntKind.u64 m)] ρ w r) (s90st1 t u l m t7h1 t8h1 b2_1h1 t6h0) :=
  G.seg (X := mkX Try.prog (tab libn) Try.f90 [Blk.mk t Mode.ro (K.ints IntKind.u64 l), Blk.mk u Mode.ro (K.ints IntKind.u64 m)] ρ w r) ⟨tab_ok libn_ok, mixed⟩ [(25, true)] 1000000 0 [0, 1, 5, 6, 7, 8] [(0, none), (1, none), (2, none)] (k := s90k1) (vs := [V.w (W.c (C.sl 0 0 (List.length l))), V.w (W.c (C.sl 1 0 (List.length m))), V.w (W.c (C.own 2)), V.int IntKind.i64 t6h0, V.int IntKind.u64 (IntKind.wrap IntKind.u64 (Int.tdiv (IntKind.wrap IntKind.u64 (IntKind.wrap IntKind.u64 (List.getD b2_1h1 (Int.toNat (IntKind.wrap IntKind.i64 (t6h0 + t8h1))) 0 + IntKind.wrap IntKind.u64 (List.getD l (Int.toNat t6h0) 0 * List.getD m (Int.toNat t8h1) 0)) + t7h1)) 65536)), V.int IntKind.i64 (IntKind.wrap IntKind.i64 (t8h1 + 1))]) (bs := [Blk.mk t Mode.ro (K.ints IntKind.u64 l), Blk.mk u Mode.ro (K.ints IntKind.u64 m), Blk.mk 22 (Mode.own (Int.toNat (IntKind.wrap IntKind.i64 ((↑(List.length l) : Int) + (↑(List.length m) : Int))))) (K.ints IntKind.u64 (List.set b2_1h1 (Int.toNat (IntKind.wrap IntKind.i64 (t6h0 + t8h1)) + 0) (Int.tmod (IntKind.wrap IntKind.u64 (IntKind.wrap IntKind.u64 (List.getD b2_1h1 (Int.toNat (IntKind.wrap IntKind.i64 (t6h0 + t8h1))) 0 + IntKind.wrap IntKind.u64 (List.getD l (Int.toNat t6h0) 0 * List.getD m (Int.toNat t8h1) 0)) + t7h1)) 65536)))]) (by kernel_rfl) (by kernel_rfl)
    (ocons (decide_eq_true h1) (ocons (decide_eq_true h2) (ocons (decide_eq_true h3) (ocons (bltT h4) (ocons (decide_eq_true h5) (ocons (decide_eq_true h6) (ocons (bltT h7) (ocons (decide_eq_true h8) (ocons (decide_eq_true h1) (ocons (bltT h9) (ocons rfl (ocons (decide_eq_true h2) (ocons (decide_eq_true h3) (ocons rfl (ocons (bltT h10) (ocons rfl onil)))))))))))))))) hg
theorem s90_5 {ρ : Env} {w : World} {r : Res} (t : Nat) (u : Nat) (l : List Int) (m : List Int) (t7h1 : Int) (t8h1 : Int) (b2_1h1 : List Int) (t6h0 : Int) (h1 : ¬t8h1 < (↑(List.length m) : Int)) (h2 : 0 ≤ IntKind.wrap IntKind.i64 (t6h0 + (↑(List.length m) : Int))) (h3 : IntKind.wrap IntKind.i64 (t6h0 + (↑(List.length m) : Int)) < (↑(Int.toNat (IntKind.wrap IntKind.i64 ((↑(List.length l) : Int) + (↑(List.length m) : Int)))) : Int)) (h4 : Int.toNat (IntKind.wrap IntKind.i64 (t6h0 + (↑(List.length m) : Int))) + 0 < List.length b2_1h1) (hg : G (mkX Try.prog (tab libn) Try.f90 [Blk.mk t Mode.ro (K.ints IntKind.u64 l), Blk.mk u Mode.ro (K.ints IntKind.u64 m)] ρ w r) (s90st0 t u (l) (m) (IntKind.wrap IntKind.i64 (t6h0 + 1)) (List.set b2_1h1 (Int.toNat (IntKind.wrap IntKind.i64 (t6h0 + (↑(List.length m) : Int))) + 0) t7h1))) : G (mkX Try.prog (tab libn) Try.f90 [Blk.mk t Mode.ro (K.ints IntKind.u64 l), Blk.mk u Mode.ro (K.ints IntKind.u64 m)] ρ w r) (s90st1 t u l m t7h1 t8h1 b2_1h1 t6h0) :=
  G.seg (X := mkX Try.prog (tab libn) Try.f90 [Blk.mk t Mode.ro (K.ints IntKind.u64 l), Blk.mk u Mode.ro (K.ints IntKind.u64 m)] ρ w r) ⟨tab_ok libn_ok, mixed⟩ [(25, false)] 1000000 0 [0, 1, 5, 6] [(0, none), (1, none), (2, none)] (k := s90k0) (vs := [V.w (W.c (C.sl 0 0 (List.length l))), V.w (W.c (C.sl 1 0 (List.length m))), V.w (W.c (C.own 2)), V.int IntKind.i64 (IntKind.wrap IntKind.i64 (t6h0 + 1))]) (bs := [Blk.mk t Mode.ro (K.ints IntKind.u64 l), Blk.mk u Mode.ro (K.ints IntKind.u64 m), Blk.mk 22 (Mode.own (Int.toNat (IntKind.wrap IntKind.i64 ((↑(List.length l) : Int) + (↑(List.length m) : Int))))) (K.ints IntKind.u64 (List.set b2_1h1 (Int.toNat (IntKind.wrap IntKind.i64 (t6h0 + (↑(List.length m) : Int))) + 0) t7h1))]) (by kernel_rfl) (by kernel_rfl)
    (ocons (ndec h1) (ocons (decide_eq_true h2) (ocons (decide_eq_true h3) (ocons rfl (ocons (bltT h4) onil))))) hg

theorem s98_1 (t : Nat) (l : List Int) (i : Int) (h1 : 0 ≤ Int.tmod i 16) : Sx.Spec Try.prog 98 [W.c (C.sl 0 0 (List.length l)), W.int IntKind.i64 i] [Blk.mk t Mode.ro (K.ints IntKind.u64 l)] ⟨V.int IntKind.u64 (Int.tmod (Int.fdiv (limbI l (IntKind.wrap IntKind.i64 (Int.tdiv i 16))) (2 ^ min (Int.toNat (Int.tmod i 16)) 64)) 2), [], []⟩ :=
  spec_of_whole (tab_ok libg0_ok) mixed Try.func98 [] 1000000 [(0, none)] (by kernel_rfl) (by kernel_rfl) (by kernel_rfl) (by kernel_rfl) (by kernel_rfl) (by kernel_rfl)
    (ocons rfl (ocons (beqT (rfl : List.length l = List.length l)) (ocons rfl (ocons (decide_eq_true h1) (ocons rfl onil)))))


theorem tmodN (a b : Nat) : Int.tmod (a : Int) (b : Int) = ((a % b : Nat) : Int) := rfl
theorem limb_word (a j : Nat) (hj : j < 16) : Int.tmod (Int.fdiv (List.getD (wrow a) (Int.toNat (IntKind.wrap .i64 (Int.tdiv (j : Nat) 4))) 0) (2 ^ min (Int.toNat (IntKind.wrap .i64 (16 * Int.tmod (j : Nat) 4))) 64)) 65536 = ((a / 65536 ^ j % 65536 : Nat) : Int) := by
  have e1 : IntKind.wrap .i64 (Int.tdiv (j : Int) 4) = ((j / 4 : Nat) : Int) := by
    rw [Int.tdiv_eq_ediv_of_nonneg (by omega), i64w] <;> omega
  have e2 : IntKind.wrap .i64 (16 * Int.tmod (j : Int) 4) = ((16 * (j % 4) : Nat) : Int) := by
    rw [Int.tmod_eq_emod_of_nonneg (by omega), i64w] <;> omega
  rw [e1, e2, Int.toNat_natCast, Int.toNat_natCast, wrow_get a _ (by omega), show min (16 * (j % 4)) 64 = 16 * (j % 4) by omega]
  have ef : (wd a (j / 4)).fdiv (2 ^ (16 * (j % 4))) = ((a / 18446744073709551616 ^ (j / 4) % 18446744073709551616 / 2 ^ (16 * (j % 4)) : Nat) : Int) := by
    unfold wd
    rw [Int.fdiv_eq_ediv_of_nonneg _ (by exact_mod_cast Nat.zero_le _)]
    simp
  rw [ef]
  have := word_part a (j / 4) (16 * (j % 4)) 16 (by omega)
  rw [show (64 * (j / 4) + 16 * (j % 4)) = 16 * j by omega, show (2 : Nat) ^ (16 * j) = 65536 ^ j from by rw [Nat.pow_mul], show (2 : Nat) ^ 16 = 65536 from rfl] at this
  rw [← this]
  exact tmodN _ 65536
def r83 : List Nat → Res := fun ns => match ns with | [a] => ⟨.w (.c (.own 0)), [], [⟨22, .own 16, .ints .u64 (lim 16 a)⟩]⟩ | _ => ⟨.tup [], [], []⟩
theorem s83n (a : Nat) : Sx.Spec Try.prog 83 [.agg (numC a)] [] (r83 [a]) := by
  refine Spec.imps (bs := [.ints .u64 (wrow a)]) (.cons (fun _ _ => rw_row) .nil) ?_
  refine spec_body (tab := tab libn) Try.func83 (by kernel_rfl) (by kernel_rfl) (by kernel_rfl) fun ρ w => ?_
  have hl : (wrow a).length = 4 := rfl
  refine s83_1 _ ?_
  refine G.loop (fun j => s83st0 (wrow a) (j : Nat) (lim j a ++ List.replicate (16 - j) 0)) 16 (fun j hj hg => ?_) ?_
  · have e1 : IntKind.wrap .i64 (Int.tdiv (j : Int) 4) = ((j / 4 : Nat) : Int) := by
      rw [Int.tdiv_eq_ediv_of_nonneg (by omega), i64w] <;> omega
    have e2 : IntKind.wrap .i64 (16 * Int.tmod (j : Int) 4) = ((16 * (j % 4) : Nat) : Int) := by
      rw [Int.tmod_eq_emod_of_nonneg (by omega), i64w] <;> omega
    refine s83_2 _ _ _ (by omega) (by rw [e1]; omega) (by rw [e1]; omega) (by rw [e1, hl]; omega) (by rw [e2]; omega) (by omega) (by simp [lim_length]; omega) ?_
    rw [limb_word a j hj, i64s j (by omega), Int.toNat_natCast]
    simp only [Nat.add_zero]
    have hs := set_fill (lim j a) (15 - j) ((a / 65536 ^ j % 65536 : Nat) : Int)
    rw [lim_length, show 15 - j + 1 = 16 - j by omega] at hs
    rw [hs, ← lim_succ]
    simp only [show 16 - (j + 1) = 15 - j by omega] at hg
    exact hg
  · have : lim 16 a ++ List.replicate (16 - 16) 0 = lim 16 a := by simp
    rw [this]
    exact s83_3 _ _ _ (by decide)
theorem e83n_ok : EntryOk Try.prog 83 (numsE [1] r83) := numsE_ok fun ns h hl => by
  obtain ⟨a, rfl⟩ := ns1 h
  exact s83n a

/-- sums. -/
def maxN (a b : Nat) : Nat := max a b
theorem max_len (l m : List Int) : (if (m.length : Int) > (l.length : Int) then (m.length : Int) else (l.length : Int)) = ((maxN l.length m.length : Nat) : Int) := by
  unfold maxN
  split <;> omega
theorem fill_set (l : List Int) (k j : Nat) (hj : l.length = j) (hk : j < k) (x : Int) : (l ++ List.replicate (k - j) 0).set j x = (l ++ [x]) ++ List.replicate (k - (j + 1)) 0 := by
  have := set_fill l (k - j - 1) x
  rw [hj, show k - j - 1 + 1 = k - j by omega] at this
  rw [this, show k - j - 1 = k - (j + 1) by omega]
theorem s85n (t u : Nat) (l m : List Int) (hl : limOk l = true) (hm : limOk m = true) (hll : l.length ≤ 1000000000) (hml : m.length ≤ 1000000000) :
    Sx.Spec Try.prog 85 [.c (.sl 0 0 l.length), .c (.sl 1 0 m.length)] [⟨t, .ro, .ints .u64 l⟩, ⟨u, .ro, .ints .u64 m⟩] ⟨.w (.c (.own 2)), [], [⟨22, .own (maxN l.length m.length + 1), .ints .u64 (lim (maxN l.length m.length + 1) (valL l + valL m))⟩]⟩ := by
  refine spec_body (tab := tab libg0) Try.func85 (by kernel_rfl) (by kernel_rfl) (by kernel_rfl) fun ρ w => ?_
  have hk : maxN l.length m.length ≤ 1000000000 := by unfold maxN; omega
  have en : IntKind.wrap .i64 ((if (m.length : Int) > (l.length : Int) then (m.length : Int) else (l.length : Int)) + 1) = ((maxN l.length m.length + 1 : Nat) : Int) := by
    rw [max_len, i64w] <;> omega
  generalize hK : maxN l.length m.length + 1 = K at *
  refine s85_1 t u l m (by rw [en]; omega) (by omega) (by rw [en]; omega) ?_
  rw [en, Int.toNat_natCast]
  have hx := valL_get hl
  have hy := valL_get hm
  generalize hX : valL l = x at *
  generalize hY : valL m = y at *
  have h0 : (((x % 65536 ^ 0 + y % 65536 ^ 0) / 65536 ^ 0 : Nat) : Int) = 0 := by
    rw [Nat.pow_zero, Nat.mod_one, Nat.mod_one]
    rfl
  have hgo := G.loop (X := mkX Try.prog (tab libg0) Try.f85 [⟨t, .ro, .ints .u64 l⟩, ⟨u, .ro, .ints .u64 m⟩] ρ w ⟨.w (.c (.own 2)), [], [⟨22, .own K, .ints .u64 (lim K (x + y))⟩]⟩) (fun j => s85st0 t u l m (((x % 65536 ^ j + y % 65536 ^ j) / 65536 ^ j : Nat) : Int) (j : Nat) (lim j (x + y) ++ List.replicate (K - j) 0)) K (fun j hj hg => ?_) ?_
  · rw [h0] at hgo
    exact hgo
  · have hp : 0 < 65536 ^ j := Nat.pow_pos (by decide)
    have hc := carry_le x y (65536 ^ j) hp
    have hd := add_digit x y (65536 ^ j) hp
    have hcc := add_carry x y (65536 ^ j) hp
    rw [← Nat.pow_succ] at hcc
    refine s85_2 t u l m _ _ _ (by rw [en, Int.toNat_natCast]; omega) (by omega) (by simp [lim_length]; omega) ?_
    rw [limbI_of, limbI_of, hx, hy, Int.toNat_natCast]
    simp only [Nat.add_zero]
    generalize hA : x / 65536 ^ j % 65536 = A at *
    generalize hB : y / 65536 ^ j % 65536 = B at *
    have hA' : A < 65536 := by rw [← hA]; exact Nat.mod_lt _ (by omega)
    have hB' : B < 65536 := by rw [← hB]; exact Nat.mod_lt _ (by omega)
    generalize (x % 65536 ^ j + y % 65536 ^ j) / 65536 ^ j = c at *
    have es : IntKind.wrap .u64 (IntKind.wrap .u64 ((A : Int) + (B : Int)) + (c : Int)) = ((A + B + c : Nat) : Int) := by
      rw [wU, wU]; omega
    have ed : IntKind.wrap .u64 (Int.tdiv ((A + B + c : Nat) : Int) 65536) = (((A + B + c) / 65536 : Nat) : Int) := by
      rw [show Int.tdiv ((A + B + c : Nat) : Int) 65536 = (((A + B + c) / 65536 : Nat) : Int) from rfl, wU]; omega
    rw [es, ed, i64s j (by omega), show Int.tmod ((A + B + c : Nat) : Int) 65536 = (((A + B + c) % 65536 : Nat) : Int) from rfl, ← hd, ← hcc, fill_set _ _ _ (lim_length _ _) hj, ← lim_succ]
    exact hg
  · have : lim K (x + y) ++ List.replicate (K - K) 0 = lim K (x + y) := by simp
    rw [this]
    have h3 := s85_3 (ρ := ρ) (w := w) t u l m (((x % 65536 ^ K + y % 65536 ^ K) / 65536 ^ K : Nat) : Int) (K : Nat) (lim K (x + y)) (by rw [en, Int.toNat_natCast]; omega)
    rw [en, Int.toNat_natCast] at h3
    exact h3
def rowsOk2 (l m : List Int) (n k : Nat) : List Bool := [Nat.beq l.length n, Nat.beq m.length k, limOk l, limOk m, Nat.ble l.length 1000000000, Nat.ble m.length 1000000000]
def e85 : Entry := fun args ms => match args, ms with
  | [.c (.sl 0 0 n), .c (.sl 1 0 k)], [⟨_, .ro, .ints .u64 l⟩, ⟨_, .ro, .ints .u64 m⟩] => some (⟨.w (.c (.own 2)), [], [⟨22, .own (maxN n k + 1), .ints .u64 (lim (maxN n k + 1) (valL l + valL m))⟩]⟩, rowsOk2 l m n k)
  | _, _ => none
theorem rowsOk2_ok {l m : List Int} {n k : Nat} (h : ∀ b ∈ rowsOk2 l m n k, b = true) : l.length = n ∧ m.length = k ∧ limOk l = true ∧ limOk m = true ∧ l.length ≤ 1000000000 ∧ m.length ≤ 1000000000 := by
  simp only [rowsOk2, List.mem_cons, List.not_mem_nil, or_false, forall_eq_or_imp, forall_eq, Nat.beq_eq, Nat.ble_eq] at h
  exact h
theorem e85_ok : EntryOk Try.prog 85 e85 := by
  intro args ms r obs h ho
  unfold e85 at h
  split at h
  · rename_i n k t l u m
    cases h
    obtain ⟨rfl, rfl, h1, h2, h3, h4⟩ := rowsOk2_ok ho
    exact s85n t u l m h1 h2 h3 h4
  · cases h

/-- differences. -/
def subN (k x y : Nat) : Nat := x + 65536 ^ k - y % 65536 ^ k
theorem s221n (t u : Nat) (l m : List Int) (hl : limOk l = true) (hm : limOk m = true) (hll : l.length ≤ 1000000000) :
    Sx.Spec Try.prog 221 [.c (.sl 0 0 l.length), .c (.sl 1 0 m.length)] [⟨t, .ro, .ints .u64 l⟩, ⟨u, .ro, .ints .u64 m⟩] ⟨.w (.c (.own 2)), [], [⟨22, .own l.length, .ints .u64 (lim l.length (subN l.length (valL l) (valL m)))⟩]⟩ := by
  refine spec_body (tab := tab libg0) Try.func221 (by kernel_rfl) (by kernel_rfl) (by kernel_rfl) fun ρ w => ?_
  generalize hK : l.length = K at *
  have st : ∀ {c : Cfg} {r : Res}, l.length = K → True := fun _ => trivial
  refine (show G _ _ → _ from fun h => ?_) (?_ : G (mkX Try.prog (tab libg0) Try.f221 [⟨t, .ro, .ints .u64 l⟩, ⟨u, .ro, .ints .u64 m⟩] ρ w ⟨.w (.c (.own 2)), [], [⟨22, .own K, .ints .u64 (lim K (subN K (valL l) (valL m)))⟩]⟩) (s221st0 t u l m 0 0 (List.replicate K 0)))
  · rw [← hK]
    rw [← hK] at h
    exact s221_1 t u l m (by omega) (by omega) h
  have hx := valL_get hl
  have hy := valL_get hm
  generalize hX : valL l = x at *
  generalize hY : valL m = y at *
  have h0 : (0 : Int) = ((bor x y (65536 ^ 0) : Nat) : Int) := by
    unfold bor
    rw [Nat.pow_zero, Nat.mod_one, Nat.mod_one]
    rfl
  have := G.loop (X := mkX Try.prog (tab libg0) Try.f221 [⟨t, .ro, .ints .u64 l⟩, ⟨u, .ro, .ints .u64 m⟩] ρ w ⟨.w (.c (.own 2)), [], [⟨22, .own K, .ints .u64 (lim K (subN K x y))⟩]⟩) (fun j => s221st0 t u l m ((bor x y (65536 ^ j) : Nat) : Int) (j : Nat) (lim j (subN K x y) ++ List.replicate (K - j) 0)) K (fun j hj hg => ?_) ?_
  · rw [← h0] at this
    exact this
  · have hp : 0 < 65536 ^ j := Nat.pow_pos (by decide)
    have eK : (65536 : Nat) ^ K = 65536 ^ j * 65536 * 65536 ^ (K - j - 1) := by
      rw [← Nat.pow_succ, ← Nat.pow_add]
      congr 1
      omega
    have hd := sub_digit x y (65536 ^ (K - j - 1)) (65536 ^ j) hp (by rw [← eK]; have := Nat.mod_lt y (Nat.pow_pos (n := K) (show 0 < 65536 by decide)); omega)
    have hb := sub_borrow x y (65536 ^ j) hp
    rw [← eK] at hd
    rw [← Nat.pow_succ] at hb
    have hb1 : bor x y (65536 ^ j) ≤ 1 := by unfold bor; split <;> omega
    refine s221_2 t u l m _ _ _ (by rw [hK]; omega) (by omega) (by rw [hK]; omega) (by simp [lim_length]; omega) ?_
    rw [limbI_of, limbI_of, hx, hy, Int.toNat_natCast]
    simp only [Nat.add_zero]
    generalize hA : x / 65536 ^ j % 65536 = A at *
    generalize hB : y / 65536 ^ j % 65536 = B at *
    have hA' : A < 65536 := by rw [← hA]; exact Nat.mod_lt _ (by omega)
    have hB' : B < 65536 := by rw [← hB]; exact Nat.mod_lt _ (by omega)
    generalize bor x y (65536 ^ j) = c at *
    have es : IntKind.wrap .u64 (IntKind.wrap .u64 (IntKind.wrap .u64 (65536 + (A : Int)) - (B : Int)) - (c : Int)) = ((65536 + A - B - c : Nat) : Int) := by
      rw [wU, wU, wU]; omega
    have ed : IntKind.wrap .u64 (1 - IntKind.wrap .u64 (Int.tdiv ((65536 + A - B - c : Nat) : Int) 65536)) = ((1 - (65536 + A - B - c) / 65536 : Nat) : Int) := by
      rw [show Int.tdiv ((65536 + A - B - c : Nat) : Int) 65536 = (((65536 + A - B - c) / 65536 : Nat) : Int) from rfl, wU, wU]; omega
    rw [es, ed, i64s j (by omega), show Int.tmod ((65536 + A - B - c : Nat) : Int) 65536 = (((65536 + A - B - c) % 65536 : Nat) : Int) from rfl, ← hd, ← hb, fill_set _ _ _ (lim_length _ _) hj]
    rw [show x + 65536 ^ K - y % 65536 ^ K = subN K x y from rfl, ← lim_succ]
    exact hg
  · have : lim K (subN K x y) ++ List.replicate (K - K) 0 = lim K (subN K x y) := by simp
    rw [this]
    have h3 := s221_3 (ρ := ρ) (w := w) t u l m ((bor x y (65536 ^ K) : Nat) : Int) (K : Nat) (lim K (subN K x y)) (by rw [hK]; omega)
    rw [hK] at h3
    exact h3
def e221 : Entry := fun args ms => match args, ms with
  | [.c (.sl 0 0 n), .c (.sl 1 0 k)], [⟨_, .ro, .ints .u64 l⟩, ⟨_, .ro, .ints .u64 m⟩] => some (⟨.w (.c (.own 2)), [], [⟨22, .own n, .ints .u64 (lim n (subN n (valL l) (valL m)))⟩]⟩, rowsOk2 l m n k)
  | _, _ => none
theorem e221_ok : EntryOk Try.prog 221 e221 := by
  intro args ms r obs h ho
  unfold e221 at h
  split at h
  · rename_i n k t l u m
    cases h
    obtain ⟨rfl, rfl, h1, h2, h3, h4⟩ := rowsOk2_ok ho
    exact s221n t u l m h1 h2 h3
  · cases h

/-- order. -/
theorem s88n (t u : Nat) (l m : List Int) (hl : limOk l = true) (hm : limOk m = true) (hll : l.length ≤ 1000000000) (hml : m.length ≤ 1000000000) :
    Sx.Spec Try.prog 88 [.c (.sl 0 0 l.length), .c (.sl 1 0 m.length)] [⟨t, .ro, .ints .u64 l⟩, ⟨u, .ro, .ints .u64 m⟩] ⟨V.bool (Nat.blt (valL l) (valL m)), [], []⟩ := by
  refine spec_body (tab := tab libg0) Try.func88 (by kernel_rfl) (by kernel_rfl) (by kernel_rfl) fun ρ w => ?_
  refine s88_1 t u l m ?_
  rw [max_len]
  have hk : maxN l.length m.length ≤ 1000000000 := by unfold maxN; omega
  have hxl := valL_lt hl
  have hyl := valL_lt hm
  have hx := valL_get hl
  have hy := valL_get hm
  have hxk : valL l < 65536 ^ maxN l.length m.length := Nat.lt_of_lt_of_le hxl (Nat.pow_le_pow_right (by decide) (by unfold maxN; omega))
  have hyk : valL m < 65536 ^ maxN l.length m.length := Nat.lt_of_lt_of_le hyl (Nat.pow_le_pow_right (by decide) (by unfold maxN; omega))
  generalize maxN l.length m.length = K at *
  generalize hX : valL l = x at *
  generalize hY : valL m = y at *
  have key : ∀ n : Nat, n ≤ 1000000000 → x / 65536 ^ n = y / 65536 ^ n → G (mkX Try.prog (tab libg0) Try.f88 [⟨t, .ro, .ints .u64 l⟩, ⟨u, .ro, .ints .u64 m⟩] ρ w ⟨V.bool (Nat.blt x y), [], []⟩) (s88st0 t u l m ((n : Int) - 1)) := by
    intro n
    induction n with
    | zero =>
      intro _ he
      rw [Nat.pow_zero, Nat.div_one, Nat.div_one] at he
      have : Nat.blt x y = false := blt_f (by omega)
      rw [this]
      exact s88_4 t u l m _ (by omega)
    | succ n ih =>
      intro hn he
      rw [Nat.pow_succ] at he
      have hp : 0 < 65536 ^ n := Nat.pow_pos (by decide)
      rw [show ((n + 1 : Nat) : Int) - 1 = (n : Int) by omega]
      by_cases hd : x / 65536 ^ n % 65536 = y / 65536 ^ n % 65536
      · refine s88_3 t u l m _ (by omega) (by rw [limbI_of, limbI_of, hx, hy, hd]) ?_
        rw [show IntKind.wrap .i64 ((n : Int) - 1) = (n : Int) - 1 by rw [i64w] <;> omega]
        exact ih (by omega) (eq_digit he hd)
      · have h2 := s88_2 (ρ := ρ) (w := w) t u l m (n : Nat) (by omega) (by rw [limbI_of, limbI_of, hx, hy]; omega)
        rw [limbI_of, limbI_of, hx, hy] at h2
        have e : decide (((x / 65536 ^ n % 65536 : Nat) : Int) < ((y / 65536 ^ n % 65536 : Nat) : Int)) = Nat.blt x y := by
          have hlt := lt_digit hp he hd
          by_cases hxy : x < y
          · rw [Nat.blt_eq.mpr hxy]
            rw [hlt] at hxy
            exact decide_eq_true (by omega)
          · rw [blt_f hxy]
            rw [hlt] at hxy
            exact decide_eq_false (by omega)
        rw [e] at h2
        exact h2
  have ew : IntKind.wrap .i64 ((K : Int) - 1) = (K : Int) - 1 := by rw [i64w] <;> omega
  rw [ew]
  exact key K hk (by rw [Nat.div_eq_of_lt hxk, Nat.div_eq_of_lt hyk])
def e88 : Entry := fun args ms => match args, ms with
  | [.c (.sl 0 0 n), .c (.sl 1 0 k)], [⟨_, .ro, .ints .u64 l⟩, ⟨_, .ro, .ints .u64 m⟩] => some (⟨V.bool (Nat.blt (valL l) (valL m)), [], []⟩, rowsOk2 l m n k)
  | _, _ => none
theorem e88_ok : EntryOk Try.prog 88 e88 := by
  intro args ms r obs h ho
  unfold e88 at h
  split at h
  · rename_i n k t l u m
    cases h
    obtain ⟨rfl, rfl, h1, h2, h3, h4⟩ := rowsOk2_ok ho
    exact s88n t u l m h1 h2 h3 h4
  · cases h

/-- products. -/
theorem s90n (t u : Nat) (l m : List Int) (hl : limOk l = true) (hm : limOk m = true) (hll : l.length ≤ 1000000000) (hml : m.length ≤ 1000000000) :
    Sx.Spec Try.prog 90 [.c (.sl 0 0 l.length), .c (.sl 1 0 m.length)] [⟨t, .ro, .ints .u64 l⟩, ⟨u, .ro, .ints .u64 m⟩] ⟨.w (.c (.own 2)), [], [⟨22, .own (l.length + m.length), .ints .u64 (lim (l.length + m.length) (valL l * valL m))⟩]⟩ := by
  refine spec_body (tab := tab libn) Try.func90 (by kernel_rfl) (by kernel_rfl) (by kernel_rfl) fun ρ w => ?_
  have en : IntKind.wrap .i64 ((l.length : Int) + (m.length : Int)) = ((l.length + m.length : Nat) : Int) := by rw [i64w] <;> omega
  refine s90_1 t u l m (by rw [en]; omega) (by omega) (by rw [en]; omega) ?_
  rw [en, Int.toNat_natCast]
  have inner : ∀ (i : Nat), i < l.length → (∀ row o, LInv l m i m.length row o → G (mkX Try.prog (tab libn) Try.f90 [⟨t, .ro, .ints .u64 l⟩, ⟨u, .ro, .ints .u64 m⟩] ρ w ⟨.w (.c (.own 2)), [], [⟨22, .own (l.length + m.length), .ints .u64 (lim (l.length + m.length) (valL l * valL m))⟩]⟩) (s90st1 t u l m o (m.length : Nat) row i)) →
      ∀ (n k : Nat) (row : List Int) (o : Int), k + n = m.length → LInv l m i k row o → G (mkX Try.prog (tab libn) Try.f90 [⟨t, .ro, .ints .u64 l⟩, ⟨u, .ro, .ints .u64 m⟩] ρ w ⟨.w (.c (.own 2)), [], [⟨22, .own (l.length + m.length), .ints .u64 (lim (l.length + m.length) (valL l * valL m))⟩]⟩) (s90st1 t u l m o (k : Nat) row (i : Nat)) := by
    intro i hi fin n
    induction n with
    | zero =>
      intro k row o hk hI
      have : k = m.length := by omega
      subst this
      exact fin row o hI
    | succ n ih =>
      intro k row o hk hI
      have e1 : IntKind.wrap .i64 ((i : Int) + (k : Int)) = ((i + k : Nat) : Int) := by rw [i64w] <;> omega
      have e2 : IntKind.wrap .i64 ((k : Int) + 1) = ((k + 1 : Nat) : Int) := i64s k (by omega)
      refine s90_4 t u l m o (k : Nat) row (i : Nat) (by omega) (by rw [e1]; omega) (by rw [e1, en, Int.toNat_natCast]; omega) (by rw [e1, hI.len]; omega) (by omega) (by omega) (by omega) (by omega) (by omega) (by rw [e1, hI.len]; omega) ?_
      rw [e1, e2]
      simp only [Int.toNat_natCast, Nat.add_zero]
      have r1 := hI.rng (i + k)
      have r2 := limOk_get hl i
      have r3 := limOk_get hm k
      have r4 := hI.o0
      have r5 := hI.o1
      obtain ⟨x, hx⟩ := nat_of r1.1
      obtain ⟨a, ha⟩ := nat_of r2.1
      obtain ⟨b, hb⟩ := nat_of r3.1
      obtain ⟨c, rfl⟩ := nat_of r4
      have hab : a * b ≤ 65535 * 65535 := Nat.mul_le_mul (by omega) (by omega)
      have es : IntKind.wrap .u64 (IntKind.wrap .u64 (row.getD (i + k) 0 + IntKind.wrap .u64 (l.getD i 0 * m.getD k 0)) + (c : Int)) = ((x + a * b + c : Nat) : Int) := by
        rw [hx, ha, hb, ← Int.natCast_mul]
        generalize a * b = p at *
        rw [wU, wU, wU]; omega
      have hlt : x + a * b + c < 4294967296 := by omega
      rw [es]
      have ed : IntKind.wrap .u64 (Int.tdiv ((x + a * b + c : Nat) : Int) 65536) = (((x + a * b + c) / 65536 : Nat) : Int) := by
        rw [show Int.tdiv ((x + a * b + c : Nat) : Int) 65536 = (((x + a * b + c) / 65536 : Nat) : Int) from rfl, wU]
        generalize x + a * b + c = p at *
        omega
      rw [ed, show Int.tmod ((x + a * b + c : Nat) : Int) 65536 = (((x + a * b + c) % 65536 : Nat) : Int) from rfl]
      refine ih (k + 1) _ _ (by omega) (hI.turn hi (by omega) ⟨?_, ?_⟩ ⟨?_, ?_⟩ ?_)
      · omega
      · omega
      · omega
      · generalize x + a * b + c = p at *
        omega
      · rw [hx, ha, hb, ← Int.natCast_mul]
        generalize a * b = p at *
        omega
  have outer : ∀ (n i : Nat) (row : List Int), i + n = l.length → row.length = l.length + m.length → (∀ j, 0 ≤ row.getD j 0 ∧ row.getD j 0 < 65536) → (∀ j, i + m.length ≤ j → row.getD j 0 = 0) → valI row = valI (l.take i) * valI m →
      G (mkX Try.prog (tab libn) Try.f90 [⟨t, .ro, .ints .u64 l⟩, ⟨u, .ro, .ints .u64 m⟩] ρ w ⟨.w (.c (.own 2)), [], [⟨22, .own (l.length + m.length), .ints .u64 (lim (l.length + m.length) (valL l * valL m))⟩]⟩) (s90st0 t u l m (i : Nat) row) := by
    intro n
    induction n with
    | zero =>
      intro i row hi hlen hrng _ hval
      have : i = l.length := by omega
      subst this
      have hrow : limOk row = true := by
        unfold limOk
        rw [List.all_eq_true]
        intro a ha
        obtain ⟨i, hi, rfl⟩ := List.getElem_of_mem ha
        have := hrng i
        rw [List.getD_eq_getElem?_getD, List.getElem?_eq_getElem hi] at this
        simp only [Option.getD_some] at this
        rw [Bool.and_eq_true, decide_eq_true_eq, decide_eq_true_eq]
        exact this
      rw [List.take_length, valI_nat hl, valI_nat hm, valI_nat hrow] at hval
      have hv : valL row = valL l * valL m := by
        have : ((valL row : Nat) : Int) = ((valL l * valL m : Nat) : Int) := by rw [hval, Int.natCast_mul]
        omega
      have h3 := s90_3 (ρ := ρ) (w := w) t u l m (l.length : Nat) row (by omega)
      rw [en, Int.toNat_natCast] at h3
      rw [← hv, ← hlen, ← lim_valL hrow, hlen]
      exact h3
    | succ n ih =>
      intro i row hi hlen hrng hzer hval
      refine s90_2 t u l m (i : Nat) row (by omega) ?_
      refine inner i (by omega) (fun row o hI => ?_) m.length 0 row 0 (by omega) ⟨hlen, hrng, hzer, by omega, by omega, ?_⟩
      · have e1 : IntKind.wrap .i64 ((i : Int) + (m.length : Int)) = ((i + m.length : Nat) : Int) := by rw [i64w] <;> omega
        have e2 : IntKind.wrap .i64 ((i : Int) + 1) = ((i + 1 : Nat) : Int) := i64s i (by omega)
        refine s90_5 t u l m o (m.length : Nat) row (i : Nat) (by omega) (by rw [e1]; omega) (by rw [e1, en, Int.toNat_natCast]; omega) (by rw [e1, hI.len]; omega) ?_
        rw [e1, e2]
        simp only [Int.toNat_natCast, Nat.add_zero]
        refine ih (i + 1) _ (by omega) (by simp [hI.len]) (fun j => ?_) (fun j hj => ?_) ?_
        · rw [getD_set _ _ _ _ (by rw [hI.len]; omega)]
          split
          · exact ⟨hI.o0, hI.o1⟩
          · exact hI.rng j
        · rw [getD_set _ _ _ _ (by rw [hI.len]; omega), if_neg (by omega)]
          exact hI.zer j (by omega)
        · have hv := hI.val
          have hz := hI.zer (i + m.length) (by omega)
          rw [List.take_length] at hv
          rw [valI_set _ _ _ (by rw [hI.len]; omega), hz, Int.sub_zero, hv, valI_take_succ l i (by omega)]
          grind
      · rw [List.take_zero]
        simp only [valI, Int.mul_zero, Int.zero_mul, Int.add_zero]
        exact hval
  refine outer l.length 0 _ (by omega) (by simp) (fun j => ?_) (fun j _ => ?_) ?_
  · have : (List.replicate (l.length + m.length) (0 : Int)).getD j 0 = 0 := by
      rw [List.getD_eq_getElem?_getD, List.getElem?_replicate]; split <;> rfl
    rw [this]; exact ⟨by decide, by decide⟩
  · rw [List.getD_eq_getElem?_getD, List.getElem?_replicate]; split <;> rfl
  · have : ∀ k, valI (List.replicate k 0) = 0 := by
      intro k
      induction k with
      | zero => rfl
      | succ k ih => rw [List.replicate_succ]; simp [valI, ih]
    rw [this, List.take_zero]
    simp [valI]
def e90 : Entry := fun args ms => match args, ms with
  | [.c (.sl 0 0 n), .c (.sl 1 0 k)], [⟨_, .ro, .ints .u64 l⟩, ⟨_, .ro, .ints .u64 m⟩] => some (⟨.w (.c (.own 2)), [], [⟨22, .own (n + k), .ints .u64 (lim (n + k) (valL l * valL m))⟩]⟩, rowsOk2 l m n k)
  | _, _ => none
theorem e90_ok : EntryOk Try.prog 90 e90 := by
  intro args ms r obs h ho
  unfold e90 at h
  split at h
  · rename_i n k t l u m
    cases h
    obtain ⟨rfl, rfl, h1, h2, h3, h4⟩ := rowsOk2_ok ho
    exact s90n t u l m h1 h2 h3 h4
  · cases h

/-- from limbs to words. -/
def toN (l : List Int) (i : Int) : Nat := valL l / 65536 ^ i.toNat
theorem s86n (t : Nat) (l : List Int) (i : Nat) (hl : limOk l = true) (hi : i ≤ 1000000000) :
    Sx.Spec Try.prog 86 [.c (.sl 0 0 l.length), W.int .i64 (i : Nat)] [⟨t, .ro, .ints .u64 l⟩] ⟨.w (.agg (numC (valL l / 65536 ^ i))), [], []⟩ := by
  refine spec_body (tab := tab libg0) Try.func86 (by kernel_rfl) (by kernel_rfl) (by kernel_rfl) fun ρ w => ?_
  refine s86_1 t l (i : Nat) ?_
  have hx := valL_get hl
  generalize hX : valL l = x at *
  generalize hV : x / 65536 ^ i = v
  have hdig : ∀ j, l.getD (i + j) 0 = ((v / 65536 ^ j % 65536 : Nat) : Int) := by
    intro j
    rw [hx, Nat.pow_add, ← Nat.div_div_eq_div_mul, hV]
  have hz : wrow (v % 65536 ^ 0) = [0, 0, 0, 0] := by
    rw [Nat.pow_zero, Nat.mod_one]
    decide
  rw [← hz]
  refine G.loop (fun j => s86st0 t l (i : Nat) (j : Nat) (wrow (v % 65536 ^ j))) 16 (fun j hj hg => ?_) ?_
  · have e1 : IntKind.wrap .i64 (Int.tdiv (j : Int) 4) = ((j / 4 : Nat) : Int) := by
      rw [Int.tdiv_eq_ediv_of_nonneg (by omega), i64w] <;> omega
    have e2 : IntKind.wrap .i64 (16 * Int.tmod (j : Int) 4) = ((16 * (j % 4) : Nat) : Int) := by
      rw [Int.tmod_eq_emod_of_nonneg (by omega), i64w] <;> omega
    have e3 : IntKind.wrap .i64 ((i : Int) + (j : Int)) = ((i + j : Nat) : Int) := by rw [i64w] <;> omega
    have hlen : (wrow (v % 65536 ^ j)).length = 4 := rfl
    refine s86_2 t l (i : Nat) _ _ (by omega) (by rw [e1]; omega) (by rw [e1]; omega) (by rw [e1, hlen]; omega) (by rw [e2]; omega) (by rw [e1, hlen]; omega) ?_
    rw [e1, e2, e3, limbI_of, hdig, i64s j (by omega)]
    simp only [Int.toNat_natCast, Nat.add_zero]
    rw [wrow_get _ _ (by omega)]
    have hb : v / 65536 ^ j % 65536 < 65536 := Nat.mod_lt _ (by omega)
    have hsucc : v % 65536 ^ (j + 1) = v % 65536 ^ j + (v / 65536 ^ j % 65536) * 65536 ^ j := by
      rw [Nat.pow_succ, Nat.mod_mul, Nat.mul_comm (65536 ^ j)]
    have hVj : v % 65536 ^ j < 65536 ^ j := Nat.mod_lt _ (Nat.pow_pos (by decide))
    generalize v / 65536 ^ j % 65536 = b at *
    have ep : (65536 : Nat) ^ j = 65536 ^ (j % 4) * 18446744073709551616 ^ (j / 4) := by
      rw [show (18446744073709551616 : Nat) = 65536 ^ 4 from by decide, ← Nat.pow_mul, ← Nat.pow_add, show j % 4 + 4 * (j / 4) = j by omega]
    have hp : 65536 * 65536 ^ (j % 4) ≤ 18446744073709551616 := by
      rw [← Nat.pow_succ', show (18446744073709551616 : Nat) = 65536 ^ 4 from by decide]
      exact Nat.pow_le_pow_right (by decide) (by omega)
    have hbp : b * 65536 ^ (j % 4) + 65536 ^ (j % 4) ≤ 18446744073709551616 := by
      have : (b + 1) * 65536 ^ (j % 4) ≤ 65536 * 65536 ^ (j % 4) := Nat.mul_le_mul_right _ hb
      rw [Nat.add_mul, Nat.one_mul] at this
      omega
    rw [ep] at hVj
    have hd : v % 65536 ^ j / 18446744073709551616 ^ (j / 4) < 65536 ^ (j % 4) := Nat.div_lt_of_lt_mul (by rw [Nat.mul_comm, ep]; exact hVj)
    have ew : wd (v % 65536 ^ j) (j / 4) = ((v % 65536 ^ j / 18446744073709551616 ^ (j / 4) : Nat) : Int) := by
      unfold wd
      rw [Nat.mod_eq_of_lt (b := 18446744073709551616) (by omega)]
    have eor := or_low un64 (v % 65536 ^ j / 18446744073709551616 ^ (j / 4)) b (2 * (j % 4)) (by rw [Nat.pow_mul]; exact hd) (by rw [Nat.pow_mul, bits64, show (2 : Nat) ^ 64 = 18446744073709551616 from rfl]; show _ + b * 65536 ^ (j % 4) < 18446744073709551616; omega)
    rw [show 8 * (2 * (j % 4)) = 16 * (j % 4) by omega, show (256 : Nat) ^ (2 * (j % 4)) = 65536 ^ (j % 4) from by rw [Nat.pow_mul]] at eor
    rw [ew, eor]
    have ht := of_turn (V := v % 65536 ^ j) (c := b * 65536 ^ (j % 4)) (p := 65536 ^ (j % 4)) (q := j / 4) (by omega) (by rw [Nat.mul_comm, ep]; exact hVj) hbp
    rw [ht, Nat.mul_assoc, ← ep, ← hsucc]
    exact hg
  · refine G.resv (fun ρ y => ?_) (s86_3 t l (i : Nat) 16 (wrow (v % 65536 ^ 16)) (by decide) (by simp [wrow]) (by simp [wrow]) (by simp [wrow]) (by simp [wrow]) (by simp) (by simp) (by simp) (by simp) (by simp))
    refine rv_w fun h => ?_
    have hc := rw_numI.1 h
    rw [show (65536 : Nat) ^ 16 = 115792089237316195423570985008687907853269984665640564039457584007913129639936 from rfl, ← d4_num] at hc
    refine rw4 (fun y h => ?_) (fun y h => ?_) (fun y h => ?_) (fun y h => ?_) hc
    all_goals
      show y = _
      rw [show y = _ from h]
      congr 2
      unfold d4 num4
      omega
def e86 : Entry := fun args ms => match args, ms with
  | [.c (.sl 0 0 n), .c (.v (.int .i64 i))], [⟨_, .ro, .ints .u64 l⟩] => some (⟨.w (.agg (numC (toN l i))), [], []⟩, [Nat.beq l.length n, limOk l, decide (0 ≤ i), decide (i ≤ 1000000000)])
  | _, _ => none
theorem e86_ok : EntryOk Try.prog 86 e86 := by
  intro args ms r obs h ho
  unfold e86 at h
  split at h
  · rename_i n i t l
    cases h
    simp only [List.mem_cons, List.not_mem_nil, or_false, forall_eq_or_imp, forall_eq, Nat.beq_eq, decide_eq_true_eq] at ho
    obtain ⟨rfl, h1, h2, h3⟩ := ho
    obtain ⟨k, rfl⟩ := nat_of h2
    exact s86n t l k h1 (by omega)
  · cases h

/-- bits. -/
def bitL (l : List Int) (i : Int) : Nat := valL l / 2 ^ i.toNat % 2
theorem s98n (t : Nat) (l : List Int) (i : Nat) (hl : limOk l = true) (hi : i ≤ 16000000000) :
    Sx.Spec Try.prog 98 [.c (.sl 0 0 l.length), W.int .i64 (i : Nat)] [⟨t, .ro, .ints .u64 l⟩] ⟨.w (.c (.v (.int .u64 ((bitL l (i : Nat) : Nat) : Int)))), [], []⟩ := by
  have e1 : IntKind.wrap .i64 (Int.tdiv (i : Int) 16) = ((i / 16 : Nat) : Int) := by
    rw [Int.tdiv_eq_ediv_of_nonneg (by omega), i64w] <;> omega
  have e2 : Int.tmod (i : Int) 16 = ((i % 16 : Nat) : Int) := rfl
  have hs := s98_1 t l (i : Nat) (by rw [e2]; omega)
  rw [e1, e2, limbI_of, valL_get hl, Int.toNat_natCast, show min (i % 16) 64 = i % 16 by omega] at hs
  have ef : ((valL l / 65536 ^ (i / 16) % 65536 : Nat) : Int).fdiv (2 ^ (i % 16)) = ((valL l / 65536 ^ (i / 16) % 65536 / 2 ^ (i % 16) : Nat) : Int) := by
    rw [Int.fdiv_eq_ediv_of_nonneg _ (by exact_mod_cast Nat.zero_le _)]
    simp
  rw [ef, show Int.tmod ((valL l / 65536 ^ (i / 16) % 65536 / 2 ^ (i % 16) : Nat) : Int) 2 = ((valL l / 65536 ^ (i / 16) % 65536 / 2 ^ (i % 16) % 2 : Nat) : Int) from rfl] at hs
  unfold bitL
  rw [Int.toNat_natCast]
  have ep : (65536 : Nat) ^ (i / 16) = 2 ^ (16 * (i / 16)) := by rw [Nat.pow_mul]
  have e : (65536 : Nat) = 2 ^ (i % 16) * (2 * 2 ^ (15 - i % 16)) := by
    rw [← Nat.mul_assoc, ← Nat.pow_succ, ← Nat.pow_add, show (i % 16).succ + (15 - i % 16) = 16 by omega]
  rw [ep] at hs
  have e5 : valL l / 2 ^ (16 * (i / 16)) % 65536 / 2 ^ (i % 16) % 2 = valL l / 2 ^ i % 2 := by
    conv => lhs; rw [e]
    rw [Nat.mod_mul_right_div_self, Nat.mod_mul_right_mod, Nat.div_div_eq_div_mul, ← Nat.pow_add, show 16 * (i / 16) + i % 16 = i by omega]
  rw [e5] at hs
  exact hs
def e98 : Entry := fun args ms => match args, ms with
  | [.c (.sl 0 0 n), .c (.v (.int .i64 i))], [⟨_, .ro, .ints .u64 l⟩] => some (⟨.w (.c (.v (.int .u64 ((bitL l i : Nat) : Int)))), [], []⟩, [Nat.beq l.length n, limOk l, decide (0 ≤ i), decide (i ≤ 16000000000)])
  | _, _ => none
theorem e98_ok : EntryOk Try.prog 98 e98 := by
  intro args ms r obs h ho
  unfold e98 at h
  split at h
  · rename_i n i t l
    cases h
    simp only [List.mem_cons, List.not_mem_nil, or_false, forall_eq_or_imp, forall_eq, Nat.beq_eq, decide_eq_true_eq] at ho
    obtain ⟨rfl, h1, h2, h3⟩ := ho
    obtain ⟨k, rfl⟩ := nat_of h2
    exact s98n t l k h1 (by omega)
  · cases h
end Go.Proofs.Ytmjejlbmcefaoaa
namespace Go.Proofs.Ytmjejlbmcefaoaa
open Go Sx

def libW0 : List (Nat × Entry) := [(83, numsE [1] r83), (84, numsE [1, 1] r84), (85, roE [.ints .u64, .ints .u64] e85), (86, roE [.ints .u64, .val] e86), (87, numsE [1, 1] r87), (88, roE [.ints .u64, .ints .u64] e88), (89, numsE [1, 1] r89), (90, roE [.ints .u64, .ints .u64] e90),
  (91, numsE [1, 1] r91), (93, numsE [1, 1, 1] r93), (94, numsE [1] r94), (96, e96n), (97, numsE [1] r97), (98, roE [.ints .u64, .val] e98), (100, numsE [1] r100), (101, e101n), (102, e102n), (221, roE [.ints .u64, .ints .u64] e221)]
theorem libW0_ok : AllOk Try.prog libW0 := .cons e83n_ok (.cons e84n_ok (.cons (roE_ok e85_ok) (.cons (roE_ok e86_ok) (.cons e87n_ok (.cons (roE_ok e88_ok) (.cons e89n_ok (.cons (roE_ok e90_ok)
  (.cons e91n_ok (.cons e93n_ok (.cons e94n_ok (.cons e96n_ok (.cons e97n_ok (.cons (roE_ok e98_ok) (.cons e100n_ok (.cons e101n_ok (.cons e102n_ok (.cons (roE_ok e221_ok) (.nil _))))))))))))))))))
def e92 : Entry := fun args ms => match args, ms with
  | [], [] => some (⟨V.bool true, [], []⟩, [])
  | _, _ => none
theorem s92_1 : Sx.Spec Try.prog 92 [] [] ⟨V.bool true, [], []⟩ :=
  spec_of_whole (tab_ok libW0_ok) mixed Try.func92 [] 1000000 [] (by kernel_rfl) (by kernel_rfl) (by kernel_rfl) (by kernel_rfl) (by kernel_rfl) (by kernel_rfl)
    (ocons rfl (ocons rfl (ocons rfl (ocons rfl (ocons rfl (ocons rfl (ocons rfl (ocons rfl (ocons rfl (ocons rfl (ocons rfl (ocons rfl (ocons rfl (ocons rfl (ocons rfl (ocons rfl (ocons rfl (ocons rfl onil))))))))))))))))))
theorem e92_ok : EntryOk Try.prog 92 e92 := by
  intro args ms r obs h ho
  unfold e92 at h
  split at h
  · cases h
    exact s92_1
  · cases h
def libW : List (Nat × Entry) := (92, e92) :: libW0
theorem libW_ok : AllOk Try.prog libW := .cons e92_ok libW0_ok
end Go.Proofs.Ytmjejlbmcefaoaa
namespace Go.Proofs.Ytmjejlbmcefaoaa
open Go Sx

def libj0 : List (Nat × Entry) := [(62, e62), (63, e63)]
theorem libj0_ok : AllOk Try.prog libj0 := .cons e62_ok (.cons e63_ok (.nil _))
theorem s99_1 (l : List Int) (h1 : 0 < List.length l) (h2 : 1 < List.length l) (h3 : ByteArray.size (strOf (put8 (List.getD l 1 0))) ≤ 1000000000) (h4 : 8 + ByteArray.size (strOf (List.reverse (bytesOf (strOf (put8 (List.getD l 1 0)))))) ≤ 9223372036854775807) (h5 : 2 < List.length l) (h6 : ByteArray.size (strOf (put8 (List.getD l 2 0))) ≤ 1000000000) (h7 : ByteArray.size (ByteArray.mk #[] ++ strOf (List.reverse (bytesOf (strOf (put8 (List.getD l 0 0))))) ++ strOf (List.reverse (bytesOf (strOf (put8 (List.getD l 1 0)))))) + ByteArray.size (strOf (List.reverse (bytesOf (strOf (put8 (List.getD l 2 0)))))) ≤ 9223372036854775807) (h8 : 3 < List.length l) (h9 : ByteArray.size (strOf (put8 (List.getD l 3 0))) ≤ 1000000000) (h10 : ByteArray.size (ByteArray.mk #[] ++ strOf (List.reverse (bytesOf (strOf (put8 (List.getD l 0 0))))) ++ strOf (List.reverse (bytesOf (strOf (put8 (List.getD l 1 0))))) ++ strOf (List.reverse (bytesOf (strOf (put8 (List.getD l 2 0)))))) + ByteArray.size (strOf (List.reverse (bytesOf (strOf (put8 (List.getD l 3 0)))))) ≤ 9223372036854775807) : Sx.Spec Try.prog 99 [W.ints IntKind.u64 l] [] ⟨V.str (ByteArray.mk #[] ++ strOf (List.reverse (bytesOf (strOf (put8 (List.getD l 0 0))))) ++ strOf (List.reverse (bytesOf (strOf (put8 (List.getD l 1 0))))) ++ strOf (List.reverse (bytesOf (strOf (put8 (List.getD l 2 0))))) ++ strOf (List.reverse (bytesOf (strOf (put8 (List.getD l 3 0)))))), [], []⟩ :=
  spec_of_whole (tab_ok libj0_ok) mixed Try.func99 [] 1000000 [] (by kernel_rfl) (by kernel_rfl) (by kernel_rfl) (by kernel_rfl) (by kernel_rfl) (by kernel_rfl)
    (ocons rfl (ocons rfl (ocons (bltT h1) (ocons rfl (ocons rfl (ocons rfl (ocons rfl (ocons (bltT h2) (ocons (bleT h3) (ocons (bleT h4) (ocons rfl (ocons rfl (ocons (bltT h5) (ocons (bleT h6) (ocons (bleT h7) (ocons rfl (ocons rfl (ocons (bltT h8) (ocons (bleT h9) (ocons (bleT h10) onil))))))))))))))))))))

theorem leB_leL : ∀ k n : Nat, leB k n = leL k (n : Int)
  | 0, n => rfl
  | k + 1, n => by
    rw [leL, show ((n : Int) / 256) = ((n / 256 : Nat) : Int) from rfl, ← leB_leL k (n / 256)]
    unfold leB
    rw [List.range_succ_eq_map, List.map_cons, List.map_map, Nat.pow_zero, Nat.div_one]
    congr 1
    refine List.map_congr_left fun i _ => ?_
    show ((n / 256 ^ (i + 1) % 256 : Nat) : Int) = _
    rw [Nat.pow_succ', ← Nat.div_div_eq_div_mul]
theorem leB_range (k n : Nat) : ∀ b ∈ leB k n, 0 ≤ b ∧ b < 256 := by
  intro b hb
  obtain ⟨i, _, rfl⟩ := List.mem_map.1 hb
  have : n / 256 ^ i % 256 < 256 := Nat.mod_lt _ (by omega)
  generalize n / 256 ^ i % 256 = x at *
  omega
theorem leN_lt (s : ByteArray) : leN s < 256 ^ s.size ∧ ((leN s : Nat) : Int) = leV (bytesOf s) := by
  have h := leP_lt s s.size (Nat.le_refl _)
  have e : leP s s.size = leN s := by
    unfold leP leN
    rw [List.take_of_length_le (by rw [bytesOf_length]; exact Nat.le_refl _)]
  rw [e, List.take_of_length_le (by rw [bytesOf_length]; exact Nat.le_refl _)] at h
  exact h
theorem ofN_lt (s : ByteArray) : ofN s < P256 := by
  unfold ofN
  by_cases h : s.size = 32
  · rw [h]
    have := (leN_lt s).1
    rw [h] at this
    exact this
  · rw [beq_f h]
    exact (by decide : 0 < P256)
theorem ofE_32 {s : ByteArray} (h : s.size = 32) : ofE s = 0 := by
  unfold ofE; rw [h]; rfl
theorem ofE_not {s : ByteArray} (h : ¬ s.size = 32) : ofE s = 1 := by
  unfold ofE; rw [beq_f h]; rfl
theorem leB_add (j k n : Nat) : leB (j + k) n = leB j n ++ leB k (n / 256 ^ j) := by
  unfold leB
  rw [List.range_add, List.map_append, List.map_map]
  congr 1
  refine List.map_congr_left fun i _ => ?_
  show ((n / 256 ^ (j + i) % 256 : Nat) : Int) = _
  rw [Nat.pow_add, ← Nat.div_div_eq_div_mul]
theorem leB_mod (k n : Nat) : leB k (n % 256 ^ k) = leB k n := by
  unfold leB
  refine List.map_congr_left fun i hi => ?_
  have hi := List.mem_range.1 hi
  have e : (256 : Nat) ^ k = 256 ^ i * (256 * 256 ^ (k - i - 1)) := by
    rw [← Nat.pow_succ', ← Nat.pow_add]
    congr 1
    omega
  rw [e, Nat.mod_mul_right_div_self, Nat.mod_mul_right_mod]
theorem word_bytes (n i : Nat) : strOf (List.reverse (bytesOf (strOf (put8 (wd n i))))) = strOf (leB 8 (n / 18446744073709551616 ^ i)) := by
  have hr := wd_range n i
  rw [put8_eq hr.1 hr.2]
  have hb : ∀ b ∈ beL 8 (wd n i), 0 ≤ b ∧ b < 256 := by
    intro b hb
    rw [← List.mem_reverse, be_rev] at hb
    unfold wd at hb
    rw [← leB_leL] at hb
    exact leB_range _ _ b hb
  rw [bytesOf_strOf hb, be_rev]
  unfold wd
  rw [← leB_leL]
  have := leB_mod 8 (n / 18446744073709551616 ^ i)
  rw [show (256 : Nat) ^ 8 = 18446744073709551616 from rfl] at this
  rw [this]
theorem s99n (a : Nat) : Sx.Spec Try.prog 99 [.agg (numC a)] [] (r97 [a]) := by
  refine Spec.imps (bs := [.ints .u64 (wrow a)]) (.cons (fun _ _ => rw_row) .nil) ?_
  have hl : (wrow a).length = 4 := rfl
  have e0 : List.getD (wrow a) 0 0 = wd a 0 := rfl
  have e1 : List.getD (wrow a) 1 0 = wd a 1 := rfl
  have e2 : List.getD (wrow a) 2 0 = wd a 2 := rfl
  have e3 : List.getD (wrow a) 3 0 = wd a 3 := rfl
  have sz : ∀ x, (strOf (put8 x)).size = 8 := fun x => by rw [strOf_size]; rfl
  have sz2 : ∀ n, (strOf (leB 8 n)).size = 8 := fun n => by rw [strOf_size, leB_length]
  have key : ByteArray.mk #[] ++ strOf (leB 8 (a / 18446744073709551616 ^ 0)) ++ strOf (leB 8 (a / 18446744073709551616 ^ 1)) ++ strOf (leB 8 (a / 18446744073709551616 ^ 2)) ++ strOf (leB 8 (a / 18446744073709551616 ^ 3)) = bytesN a := by
    rw [show (ByteArray.mk #[]) = ByteArray.empty from rfl, empty_append, ← strOf_append, ← strOf_append, ← strOf_append]
    unfold bytesN
    congr 1
    rw [show 32 = 8 + 8 + 8 + 8 from rfl, leB_add (8 + 8 + 8) 8, leB_add (8 + 8) 8, leB_add 8 8, Nat.pow_zero, Nat.div_one]
  have sa : (ByteArray.mk #[] ++ strOf (leB 8 (a / 18446744073709551616 ^ 0)) ++ strOf (leB 8 (a / 18446744073709551616 ^ 1))).size = 16 := by
    rw [show (ByteArray.mk #[]) = ByteArray.empty from rfl, empty_append, ByteArray.size_append, sz2, sz2]
  have sb : (ByteArray.mk #[] ++ strOf (leB 8 (a / 18446744073709551616 ^ 0)) ++ strOf (leB 8 (a / 18446744073709551616 ^ 1)) ++ strOf (leB 8 (a / 18446744073709551616 ^ 2))).size = 24 := by
    rw [ByteArray.size_append, sa, sz2]
  have h := s99_1 (wrow a) (by rw [hl]; decide) (by rw [hl]; decide) (by rw [sz]; decide) (by rw [e1, word_bytes, sz2]; decide) (by rw [hl]; decide) (by rw [sz]; decide) (by rw [e0, e1, e2, word_bytes, word_bytes, word_bytes, sa, sz2]; decide) (by rw [hl]; decide) (by rw [sz]; decide) (by rw [e0, e1, e2, e3, word_bytes, word_bytes, word_bytes, word_bytes, sb, sz2]; decide)
  rw [e0, e1, e2, e3, word_bytes, word_bytes, word_bytes, word_bytes, key] at h
  exact h
def e99n : Entry := numsE [1] r97
theorem e99n_ok : EntryOk Try.prog 99 e99n := numsE_ok fun ns h hl => by
  obtain ⟨a, rfl⟩ := ns1 h
  exact s99n a
def libJ : List (Nat × Entry) := (99, e99n) :: libW
theorem libJ_ok : AllOk Try.prog libJ := .cons e99n_ok libW_ok
end Go.Proofs.Ytmjejlbmcefaoaa
namespace Go.Proofs.Ytmjejlbmcefaoaa
open Go Sx
def libk0 : List (Nat × Entry) := [(85, roE [.ints .u64, .ints .u64] e85), (88, roE [.ints .u64, .ints .u64] e88), (98, roE [.ints .u64, .val] e98), (221, roE [.ints .u64, .ints .u64] e221)]
theorem libk0_ok : AllOk Try.prog libk0 := .cons (roE_ok e85_ok) (.cons (roE_ok e88_ok) (.cons (roE_ok e98_ok) (.cons (roE_ok e221_ok) (.nil _))))
noncomputable def s95k0 : List Item := kAt Try.prog (tab libk0) Try.f95 [(43, true)] 0 [W.c (C.sl 0 0 1), W.c (C.sl 1 0 1)] [Blk.mk 1 Mode.ro (K.ints IntKind.u64 [0]), Blk.mk 1 Mode.ro (K.ints IntKind.u64 [0])]
noncomputable def s95st0 (t : Nat) (u : Nat) (l : List Int) (m : List Int) (t6 : Int) (b2_0 : Nat) (b2_1 : List Int) : Cfg := cfg s95k0 [0, 1, 5, 6] [V.w (W.c (C.sl 0 0 (List.length l))), V.w (W.c (C.sl 1 0 (List.length m))), V.w (W.c (C.own 2)), V.int IntKind.i64 t6] [Blk.mk t Mode.ro (K.ints IntKind.u64 l), Blk.mk u Mode.ro (K.ints IntKind.u64 m), Blk.mk 22 (Mode.own b2_0) (K.ints IntKind.u64 b2_1)]
theorem s95_1 {ρ : Env} {w : World} {r : Res} (t : Nat) (u : Nat) (l : List Int) (m : List Int) (hg : G (mkX Try.prog (tab libk0) Try.f95 [Blk.mk t Mode.ro (K.ints IntKind.u64 l), Blk.mk u Mode.ro (K.ints IntKind.u64 m)] ρ w r) (s95st0 t u (l) (m) (IntKind.wrap IntKind.i64 (IntKind.wrap IntKind.i64 (16 * (↑(List.length l) : Int)) - 1)) (0) ([]))) : G (mkX Try.prog (tab libk0) Try.f95 [Blk.mk t Mode.ro (K.ints IntKind.u64 l), Blk.mk u Mode.ro (K.ints IntKind.u64 m)] ρ w r) (cfg [.code (Try.f95.body.getD .skip)] (List.range 2) ([W.c (C.sl 0 0 (List.length l)), W.c (C.sl 1 0 (List.length m))].map V.w) [Blk.mk t Mode.ro (K.ints IntKind.u64 l), Blk.mk u Mode.ro (K.ints IntKind.u64 m)]) :=
  G.seg (X := mkX Try.prog (tab libk0) Try.f95 [Blk.mk t Mode.ro (K.ints IntKind.u64 l), Blk.mk u Mode.ro (K.ints IntKind.u64 m)] ρ w r) ⟨tab_ok libk0_ok, mixed⟩ [(43, true)] 1000000 0 [0, 1, 5, 6] [(0, none), (1, none)] (k := s95k0) (vs := [V.w (W.c (C.sl 0 0 (List.length l))), V.w (W.c (C.sl 1 0 (List.length m))), V.w (W.c (C.v (Value.slice none 0 0))), V.int IntKind.i64 (IntKind.wrap IntKind.i64 (IntKind.wrap IntKind.i64 (16 * (↑(List.length l) : Int)) - 1))]) (bs := [Blk.mk t Mode.ro (K.ints IntKind.u64 l), Blk.mk u Mode.ro (K.ints IntKind.u64 m)]) (by kernel_rfl) (by kernel_rfl)
    onil (G.nilOwn 2 22 (K.ints IntKind.u64 []) rfl rfl rfl (Nat.le_of_ble_eq_true rfl) hg)
theorem s95_2 {ρ : Env} {w : World} {r : Res} (t : Nat) (u : Nat) (l : List Int) (m : List Int) (t6 : Int) (b2_0 : Nat) (b2_1 : List Int) (h1 : t6 ≥ 0) (h2 : List.length b2_1 = b2_0) (h3 : limOk b2_1 = true) (h4 : List.length b2_1 ≤ 1000000000) (h5 : 0 < (↑(maxN b2_0 b2_0 + 1) : Int)) (h6 : 0 < List.length (lim (maxN b2_0 b2_0 + 1) (valL b2_1 + valL b2_1))) (h7 : limOk l = true) (h8 : 0 ≤ t6) (h9 : t6 ≤ 16000000000) (h10 : List.length (List.set (lim (maxN b2_0 b2_0 + 1) (valL b2_1 + valL b2_1)) 0 (IntKind.wrap IntKind.u64 (List.getD (lim (maxN b2_0 b2_0 + 1) (valL b2_1 + valL b2_1)) 0 0 + (↑(bitL l t6) : Int)))) = maxN b2_0 b2_0 + 1) (h11 : limOk (List.set (lim (maxN b2_0 b2_0 + 1) (valL b2_1 + valL b2_1)) 0 (IntKind.wrap IntKind.u64 (List.getD (lim (maxN b2_0 b2_0 + 1) (valL b2_1 + valL b2_1)) 0 0 + (↑(bitL l t6) : Int)))) = true) (h12 : limOk m = true) (h13 : List.length (List.set (lim (maxN b2_0 b2_0 + 1) (valL b2_1 + valL b2_1)) 0 (IntKind.wrap IntKind.u64 (List.getD (lim (maxN b2_0 b2_0 + 1) (valL b2_1 + valL b2_1)) 0 0 + (↑(bitL l t6) : Int)))) ≤ 1000000000) (h14 : List.length m ≤ 1000000000) (h15 : (!Nat.blt (valL (List.set (lim (maxN b2_0 b2_0 + 1) (valL b2_1 + valL b2_1)) 0 (IntKind.wrap IntKind.u64 (List.getD (lim (maxN b2_0 b2_0 + 1) (valL b2_1 + valL b2_1)) 0 0 + (↑(bitL l t6) : Int))))) (valL m)) = true) (h16 : (↑(maxN b2_0 b2_0 + 1) : Int) > (↑(List.length m) : Int)) (h17 : (↑(List.length m) : Int) ≤ (↑(maxN b2_0 b2_0 + 1) : Int)) (hg : G (mkX Try.prog (tab libk0) Try.f95 [Blk.mk t Mode.ro (K.ints IntKind.u64 l), Blk.mk u Mode.ro (K.ints IntKind.u64 m)] ρ w r) (s95st0 t u (l) (m) (IntKind.wrap IntKind.i64 (t6 - 1)) (Int.toNat (↑(List.length m) : Int)) (List.take (Int.toNat (↑(List.length m) : Int)) (lim (maxN b2_0 b2_0 + 1) (subN (maxN b2_0 b2_0 + 1) (valL (List.set (lim (maxN b2_0 b2_0 + 1) (valL b2_1 + valL b2_1)) 0 (IntKind.wrap IntKind.u64 (List.getD (lim (maxN b2_0 b2_0 + 1) (valL b2_1 + valL b2_1)) 0 0 + (↑(bitL l t6) : Int))))) (valL m)))))) : G (mkX Try.prog (tab libk0) Try.f95 [Blk.mk t Mode.ro (K.ints IntKind.u64 l), Blk.mk u Mode.ro (K.ints IntKind.u64 m)] ρ w r) (s95st0 t u l m t6 b2_0 b2_1) :=
  G.seg (X := mkX Try.prog (tab libk0) Try.f95 [Blk.mk t Mode.ro (K.ints IntKind.u64 l), Blk.mk u Mode.ro (K.ints IntKind.u64 m)] ρ w r) ⟨tab_ok libk0_ok, mixed⟩ [(43, true), (13, true), (31, true), (39, true)] 1000000 0 [0, 1, 5, 6] [(0, none), (1, none), (131, none)] (k := s95k0) (vs := [V.w (W.c (C.sl 0 0 (List.length l))), V.w (W.c (C.sl 1 0 (List.length m))), V.w (W.c (C.own 2)), V.int IntKind.i64 (IntKind.wrap IntKind.i64 (t6 - 1))]) (bs := [Blk.mk t Mode.ro (K.ints IntKind.u64 l), Blk.mk u Mode.ro (K.ints IntKind.u64 m), Blk.mk 22 (Mode.own (Int.toNat (↑(List.length m) : Int))) (K.ints IntKind.u64 (List.take (Int.toNat (↑(List.length m) : Int)) (lim (maxN b2_0 b2_0 + 1) (subN (maxN b2_0 b2_0 + 1) (valL (List.set (lim (maxN b2_0 b2_0 + 1) (valL b2_1 + valL b2_1)) 0 (IntKind.wrap IntKind.u64 (List.getD (lim (maxN b2_0 b2_0 + 1) (valL b2_1 + valL b2_1)) 0 0 + (↑(bitL l t6) : Int))))) (valL m)))))]) (by kernel_rfl) (by kernel_rfl)
    (ocons (decide_eq_true h1) (ocons (beqT h2) (ocons (beqT h2) (ocons h3 (ocons h3 (ocons (bleT h4) (ocons (bleT h4) (ocons rfl (ocons (decide_eq_true h5) (ocons (bltT h6) (ocons (beqT (rfl : List.length l = List.length l)) (ocons h7 (ocons (decide_eq_true h8) (ocons (decide_eq_true h9) (ocons rfl (ocons (decide_eq_true h5) (ocons rfl (ocons (bltT h6) (ocons (beqT h10) (ocons (beqT (rfl : List.length m = List.length m)) (ocons h11 (ocons h12 (ocons (bleT h13) (ocons (bleT h14) (ocons h15 (ocons (beqT h10) (ocons (beqT (rfl : List.length m = List.length m)) (ocons h11 (ocons h12 (ocons (bleT h13) (ocons (bleT h14) (ocons (decide_eq_true h16) (ocons rfl (ocons (decide_eq_true h17) onil)))))))))))))))))))))))))))))))))) hg
theorem s95_3 {ρ : Env} {w : World} {r : Res} (t : Nat) (u : Nat) (l : List Int) (m : List Int) (t6 : Int) (b2_0 : Nat) (b2_1 : List Int) (h1 : t6 ≥ 0) (h2 : List.length b2_1 = b2_0) (h3 : limOk b2_1 = true) (h4 : List.length b2_1 ≤ 1000000000) (h5 : 0 < (↑(maxN b2_0 b2_0 + 1) : Int)) (h6 : 0 < List.length (lim (maxN b2_0 b2_0 + 1) (valL b2_1 + valL b2_1))) (h7 : limOk l = true) (h8 : 0 ≤ t6) (h9 : t6 ≤ 16000000000) (h10 : List.length (List.set (lim (maxN b2_0 b2_0 + 1) (valL b2_1 + valL b2_1)) 0 (IntKind.wrap IntKind.u64 (List.getD (lim (maxN b2_0 b2_0 + 1) (valL b2_1 + valL b2_1)) 0 0 + (↑(bitL l t6) : Int)))) = maxN b2_0 b2_0 + 1) (h11 : limOk (List.set (lim (maxN b2_0 b2_0 + 1) (valL b2_1 + valL b2_1)) 0 (IntKind.wrap IntKind.u64 (List.getD (lim (maxN b2_0 b2_0 + 1) (valL b2_1 + valL b2_1)) 0 0 + (↑(bitL l t6) : Int)))) = true) (h12 : limOk m = true) (h13 : List.length (List.set (lim (maxN b2_0 b2_0 + 1) (valL b2_1 + valL b2_1)) 0 (IntKind.wrap IntKind.u64 (List.getD (lim (maxN b2_0 b2_0 + 1) (valL b2_1 + valL b2_1)) 0 0 + (↑(bitL l t6) : Int)))) ≤ 1000000000) (h14 : List.length m ≤ 1000000000) (h15 : (!Nat.blt (valL (List.set (lim (maxN b2_0 b2_0 + 1) (valL b2_1 + valL b2_1)) 0 (IntKind.wrap IntKind.u64 (List.getD (lim (maxN b2_0 b2_0 + 1) (valL b2_1 + valL b2_1)) 0 0 + (↑(bitL l t6) : Int))))) (valL m)) = true) (h16 : ¬(↑(maxN b2_0 b2_0 + 1) : Int) > (↑(List.length m) : Int)) (hg : G (mkX Try.prog (tab libk0) Try.f95 [Blk.mk t Mode.ro (K.ints IntKind.u64 l), Blk.mk u Mode.ro (K.ints IntKind.u64 m)] ρ w r) (s95st0 t u (l) (m) (IntKind.wrap IntKind.i64 (t6 - 1)) (maxN b2_0 b2_0 + 1) (lim (maxN b2_0 b2_0 + 1) (subN (maxN b2_0 b2_0 + 1) (valL (List.set (lim (maxN b2_0 b2_0 + 1) (valL b2_1 + valL b2_1)) 0 (IntKind.wrap IntKind.u64 (List.getD (lim (maxN b2_0 b2_0 + 1) (valL b2_1 + valL b2_1)) 0 0 + (↑(bitL l t6) : Int))))) (valL m))))) : G (mkX Try.prog (tab libk0) Try.f95 [Blk.mk t Mode.ro (K.ints IntKind.u64 l), Blk.mk u Mode.ro (K.ints IntKind.u64 m)] ρ w r) (s95st0 t u l m t6 b2_0 b2_1) :=
  G.seg (X := mkX Try.prog (tab libk0) Try.f95 [Blk.mk t Mode.ro (K.ints IntKind.u64 l), Blk.mk u Mode.ro (K.ints IntKind.u64 m)] ρ w r) ⟨tab_ok libk0_ok, mixed⟩ [(43, true), (13, true), (31, true), (39, false)] 1000000 0 [0, 1, 5, 6] [(0, none), (1, none), (91, none)] (k := s95k0) (vs := [V.w (W.c (C.sl 0 0 (List.length l))), V.w (W.c (C.sl 1 0 (List.length m))), V.w (W.c (C.own 2)), V.int IntKind.i64 (IntKind.wrap IntKind.i64 (t6 - 1))]) (bs := [Blk.mk t Mode.ro (K.ints IntKind.u64 l), Blk.mk u Mode.ro (K.ints IntKind.u64 m), Blk.mk 22 (Mode.own (maxN b2_0 b2_0 + 1)) (K.ints IntKind.u64 (lim (maxN b2_0 b2_0 + 1) (subN (maxN b2_0 b2_0 + 1) (valL (List.set (lim (maxN b2_0 b2_0 + 1) (valL b2_1 + valL b2_1)) 0 (IntKind.wrap IntKind.u64 (List.getD (lim (maxN b2_0 b2_0 + 1) (valL b2_1 + valL b2_1)) 0 0 + (↑(bitL l t6) : Int))))) (valL m))))]) (by kernel_rfl) (by kernel_rfl)
    (ocons (decide_eq_true h1) (ocons (beqT h2) (ocons (beqT h2) (ocons h3 (ocons h3 (ocons (bleT h4) (ocons (bleT h4) (ocons rfl (ocons (decide_eq_true h5) (ocons (bltT h6) (ocons (beqT (rfl : List.length l = List.length l)) (ocons h7 (ocons (decide_eq_true h8) (ocons (decide_eq_true h9) (ocons rfl (ocons (decide_eq_true h5) (ocons rfl (ocons (bltT h6) (ocons (beqT h10) (ocons (beqT (rfl : List.length m = List.length m)) (ocons h11 (ocons h12 (ocons (bleT h13) (ocons (bleT h14) (ocons h15 (ocons (beqT h10) (ocons (beqT (rfl : List.length m = List.length m)) (ocons h11 (ocons h12 (ocons (bleT h13) (ocons (bleT h14) (ocons (ndec h16) onil)))))))))))))))))))))))))))))))) hg
theorem s95_4 {ρ : Env} {w : World} {r : Res} (t : Nat) (u : Nat) (l : List Int) (m : List Int) (t6 : Int) (b2_0 : Nat) (b2_1 : List Int) (h1 : t6 ≥ 0) (h2 : List.length b2_1 = b2_0) (h3 : limOk b2_1 = true) (h4 : List.length b2_1 ≤ 1000000000) (h5 : 0 < (↑(maxN b2_0 b2_0 + 1) : Int)) (h6 : 0 < List.length (lim (maxN b2_0 b2_0 + 1) (valL b2_1 + valL b2_1))) (h7 : limOk l = true) (h8 : 0 ≤ t6) (h9 : t6 ≤ 16000000000) (h10 : List.length (List.set (lim (maxN b2_0 b2_0 + 1) (valL b2_1 + valL b2_1)) 0 (IntKind.wrap IntKind.u64 (List.getD (lim (maxN b2_0 b2_0 + 1) (valL b2_1 + valL b2_1)) 0 0 + (↑(bitL l t6) : Int)))) = maxN b2_0 b2_0 + 1) (h11 : limOk (List.set (lim (maxN b2_0 b2_0 + 1) (valL b2_1 + valL b2_1)) 0 (IntKind.wrap IntKind.u64 (List.getD (lim (maxN b2_0 b2_0 + 1) (valL b2_1 + valL b2_1)) 0 0 + (↑(bitL l t6) : Int)))) = true) (h12 : limOk m = true) (h13 : List.length (List.set (lim (maxN b2_0 b2_0 + 1) (valL b2_1 + valL b2_1)) 0 (IntKind.wrap IntKind.u64 (List.getD (lim (maxN b2_0 b2_0 + 1) (valL b2_1 + valL b2_1)) 0 0 + (↑(bitL l t6) : Int)))) ≤ 1000000000) (h14 : List.length m ≤ 1000000000) (h15 : (!!Nat.blt (valL (List.set (lim (maxN b2_0 b2_0 + 1) (valL b2_1 + valL b2_1)) 0 (IntKind.wrap IntKind.u64 (List.getD (lim (maxN b2_0 b2_0 + 1) (valL b2_1 + valL b2_1)) 0 0 + (↑(bitL l t6) : Int))))) (valL m)) = true) (h16 : (↑(maxN b2_0 b2_0 + 1) : Int) > (↑(List.length m) : Int)) (h17 : (↑(List.length m) : Int) ≤ (↑(maxN b2_0 b2_0 + 1) : Int)) (hg : G (mkX Try.prog (tab libk0) Try.f95 [Blk.mk t Mode.ro (K.ints IntKind.u64 l), Blk.mk u Mode.ro (K.ints IntKind.u64 m)] ρ w r) (s95st0 t u (l) (m) (IntKind.wrap IntKind.i64 (t6 - 1)) (Int.toNat (↑(List.length m) : Int)) (List.take (Int.toNat (↑(List.length m) : Int)) (List.set (lim (maxN b2_0 b2_0 + 1) (valL b2_1 + valL b2_1)) 0 (IntKind.wrap IntKind.u64 (List.getD (lim (maxN b2_0 b2_0 + 1) (valL b2_1 + valL b2_1)) 0 0 + (↑(bitL l t6) : Int))))))) : G (mkX Try.prog (tab libk0) Try.f95 [Blk.mk t Mode.ro (K.ints IntKind.u64 l), Blk.mk u Mode.ro (K.ints IntKind.u64 m)] ρ w r) (s95st0 t u l m t6 b2_0 b2_1) :=
  G.seg (X := mkX Try.prog (tab libk0) Try.f95 [Blk.mk t Mode.ro (K.ints IntKind.u64 l), Blk.mk u Mode.ro (K.ints IntKind.u64 m)] ρ w r) ⟨tab_ok libk0_ok, mixed⟩ [(43, true), (13, true), (31, false), (39, true)] 1000000 0 [0, 1, 5, 6] [(0, none), (1, none), (115, none)] (k := s95k0) (vs := [V.w (W.c (C.sl 0 0 (List.length l))), V.w (W.c (C.sl 1 0 (List.length m))), V.w (W.c (C.own 2)), V.int IntKind.i64 (IntKind.wrap IntKind.i64 (t6 - 1))]) (bs := [Blk.mk t Mode.ro (K.ints IntKind.u64 l), Blk.mk u Mode.ro (K.ints IntKind.u64 m), Blk.mk 22 (Mode.own (Int.toNat (↑(List.length m) : Int))) (K.ints IntKind.u64 (List.take (Int.toNat (↑(List.length m) : Int)) (List.set (lim (maxN b2_0 b2_0 + 1) (valL b2_1 + valL b2_1)) 0 (IntKind.wrap IntKind.u64 (List.getD (lim (maxN b2_0 b2_0 + 1) (valL b2_1 + valL b2_1)) 0 0 + (↑(bitL l t6) : Int))))))]) (by kernel_rfl) (by kernel_rfl)
    (ocons (decide_eq_true h1) (ocons (beqT h2) (ocons (beqT h2) (ocons h3 (ocons h3 (ocons (bleT h4) (ocons (bleT h4) (ocons rfl (ocons (decide_eq_true h5) (ocons (bltT h6) (ocons (beqT (rfl : List.length l = List.length l)) (ocons h7 (ocons (decide_eq_true h8) (ocons (decide_eq_true h9) (ocons rfl (ocons (decide_eq_true h5) (ocons rfl (ocons (bltT h6) (ocons (beqT h10) (ocons (beqT (rfl : List.length m = List.length m)) (ocons h11 (ocons h12 (ocons (bleT h13) (ocons (bleT h14) (ocons h15 (ocons (decide_eq_true h16) (ocons rfl (ocons (decide_eq_true h17) onil)))))))))))))))))))))))))))) hg
theorem s95_5 {ρ : Env} {w : World} {r : Res} (t : Nat) (u : Nat) (l : List Int) (m : List Int) (t6 : Int) (b2_0 : Nat) (b2_1 : List Int) (h1 : t6 ≥ 0) (h2 : List.length b2_1 = b2_0) (h3 : limOk b2_1 = true) (h4 : List.length b2_1 ≤ 1000000000) (h5 : 0 < (↑(maxN b2_0 b2_0 + 1) : Int)) (h6 : 0 < List.length (lim (maxN b2_0 b2_0 + 1) (valL b2_1 + valL b2_1))) (h7 : limOk l = true) (h8 : 0 ≤ t6) (h9 : t6 ≤ 16000000000) (h10 : List.length (List.set (lim (maxN b2_0 b2_0 + 1) (valL b2_1 + valL b2_1)) 0 (IntKind.wrap IntKind.u64 (List.getD (lim (maxN b2_0 b2_0 + 1) (valL b2_1 + valL b2_1)) 0 0 + (↑(bitL l t6) : Int)))) = maxN b2_0 b2_0 + 1) (h11 : limOk (List.set (lim (maxN b2_0 b2_0 + 1) (valL b2_1 + valL b2_1)) 0 (IntKind.wrap IntKind.u64 (List.getD (lim (maxN b2_0 b2_0 + 1) (valL b2_1 + valL b2_1)) 0 0 + (↑(bitL l t6) : Int)))) = true) (h12 : limOk m = true) (h13 : List.length (List.set (lim (maxN b2_0 b2_0 + 1) (valL b2_1 + valL b2_1)) 0 (IntKind.wrap IntKind.u64 (List.getD (lim (maxN b2_0 b2_0 + 1) (valL b2_1 + valL b2_1)) 0 0 + (↑(bitL l t6) : Int)))) ≤ 1000000000) (h14 : List.length m ≤ 1000000000) (h15 : (!!Nat.blt (valL (List.set (lim (maxN b2_0 b2_0 + 1) (valL b2_1 + valL b2_1)) 0 (IntKind.wrap IntKind.u64 (List.getD (lim (maxN b2_0 b2_0 + 1) (valL b2_1 + valL b2_1)) 0 0 + (↑(bitL l t6) : Int))))) (valL m)) = true) (h16 : ¬(↑(maxN b2_0 b2_0 + 1) : Int) > (↑(List.length m) : Int)) (hg : G (mkX Try.prog (tab libk0) Try.f95 [Blk.mk t Mode.ro (K.ints IntKind.u64 l), Blk.mk u Mode.ro (K.ints IntKind.u64 m)] ρ w r) (s95st0 t u (l) (m) (IntKind.wrap IntKind.i64 (t6 - 1)) (maxN b2_0 b2_0 + 1) (List.set (lim (maxN b2_0 b2_0 + 1) (valL b2_1 + valL b2_1)) 0 (IntKind.wrap IntKind.u64 (List.getD (lim (maxN b2_0 b2_0 + 1) (valL b2_1 + valL b2_1)) 0 0 + (↑(bitL l t6) : Int)))))) : G (mkX Try.prog (tab libk0) Try.f95 [Blk.mk t Mode.ro (K.ints IntKind.u64 l), Blk.mk u Mode.ro (K.ints IntKind.u64 m)] ρ w r) (s95st0 t u l m t6 b2_0 b2_1) :=
  G.seg (X := mkX Try.prog (tab libk0) Try.f95 [Blk.mk t Mode.ro (K.ints IntKind.u64 l), Blk.mk u Mode.ro (K.ints IntKind.u64 m)] ρ w r) ⟨tab_ok libk0_ok, mixed⟩ [(43, true), (13, true), (31, false), (39, false)] 1000000 0 [0, 1, 5, 6] [(0, none), (1, none), (19, none)] (k := s95k0) (vs := [V.w (W.c (C.sl 0 0 (List.length l))), V.w (W.c (C.sl 1 0 (List.length m))), V.w (W.c (C.own 2)), V.int IntKind.i64 (IntKind.wrap IntKind.i64 (t6 - 1))]) (bs := [Blk.mk t Mode.ro (K.ints IntKind.u64 l), Blk.mk u Mode.ro (K.ints IntKind.u64 m), Blk.mk 22 (Mode.own (maxN b2_0 b2_0 + 1)) (K.ints IntKind.u64 (List.set (lim (maxN b2_0 b2_0 + 1) (valL b2_1 + valL b2_1)) 0 (IntKind.wrap IntKind.u64 (List.getD (lim (maxN b2_0 b2_0 + 1) (valL b2_1 + valL b2_1)) 0 0 + (↑(bitL l t6) : Int)))))]) (by kernel_rfl) (by kernel_rfl)
    (ocons (decide_eq_true h1) (ocons (beqT h2) (ocons (beqT h2) (ocons h3 (ocons h3 (ocons (bleT h4) (ocons (bleT h4) (ocons rfl (ocons (decide_eq_true h5) (ocons (bltT h6) (ocons (beqT (rfl : List.length l = List.length l)) (ocons h7 (ocons (decide_eq_true h8) (ocons (decide_eq_true h9) (ocons rfl (ocons (decide_eq_true h5) (ocons rfl (ocons (bltT h6) (ocons (beqT h10) (ocons (beqT (rfl : List.length m = List.length m)) (ocons h11 (ocons h12 (ocons (bleT h13) (ocons (bleT h14) (ocons h15 (ocons (ndec h16) onil)))))))))))))))))))))))))) hg
theorem s95_6 {ρ : Env} {w : World} (t : Nat) (u : Nat) (l : List Int) (m : List Int) (t6 : Int) (b2_0 : Nat) (b2_1 : List Int) (h1 : ¬t6 ≥ 0) : G (mkX Try.prog (tab libk0) Try.f95 [Blk.mk t Mode.ro (K.ints IntKind.u64 l), Blk.mk u Mode.ro (K.ints IntKind.u64 m)] ρ w ⟨V.w (W.c (C.own 2)), [], [Blk.mk 22 (Mode.own b2_0) (K.ints IntKind.u64 b2_1)]⟩) (s95st0 t u l m t6 b2_0 b2_1) :=
  G.ends (tab_ok libk0_ok) mixed [(43, true), (13, false)] 1000000 [(0, none), (1, none), (2, none)] (by kernel_rfl) (by kernel_rfl) (by kernel_rfl) (by kernel_rfl)
    (ocons (ndec h1) onil)

theorem maxN_self (k : Nat) : maxN k k = k := by unfold maxN; omega
theorem lim_take (j k n : Nat) (h : j ≤ k) : (lim k n).take j = lim j n := by
  unfold lim
  rw [← List.map_take, List.take_range, Nat.min_eq_left h]
theorem valL_add0 : ∀ (l : List Int) (b : Nat), 0 < l.length → (0 ≤ l.getD 0 0) → valL (l.set 0 (l.getD 0 0 + b)) = valL l + b
  | [], b, h, _ => by simp at h
  | a :: l, b, _, h => by
    simp only [List.getD_cons_zero] at h ⊢
    simp only [List.set_cons_zero, valL]
    omega
theorem limOk_set {l : List Int} {j : Nat} {x : Int} (h : limOk l = true) (h0 : 0 ≤ x) (h1 : x < 65536) : limOk (l.set j x) = true := by
  unfold limOk at *
  rw [List.all_eq_true] at *
  intro a ha
  rcases List.mem_or_eq_of_mem_set ha with ha | rfl
  · exact h a ha
  · rw [Bool.and_eq_true, decide_eq_true_eq, decide_eq_true_eq]
    exact ⟨h0, h1⟩
theorem s95n (t u : Nat) (l m : List Int) (hl : limOk l = true) (hm : limOk m = true) (hll : l.length ≤ 100000000) (hml : m.length ≤ 100000000) (hY : 0 < valL m) :
    Sx.Spec Try.prog 95 [.c (.sl 0 0 l.length), .c (.sl 1 0 m.length)] [⟨t, .ro, .ints .u64 l⟩, ⟨u, .ro, .ints .u64 m⟩] ⟨.w (.c (.own 2)), [], [⟨22, .own (min (16 * l.length) m.length), .ints .u64 (lim (min (16 * l.length) m.length) (valL l % valL m))⟩]⟩ := by
  refine spec_body (tab := tab libk0) Try.func95 (by kernel_rfl) (by kernel_rfl) (by kernel_rfl) fun ρ w => ?_
  refine s95_1 t u l m ?_
  have hX := valL_lt hl
  have hYl := valL_lt hm
  generalize hx : valL l = X at *
  generalize hy : valL m = Y at *
  generalize hN : 16 * l.length = N at *
  have hXN : X < 2 ^ N := by
    rw [← hN, Nat.pow_mul]
    exact hX
  have ei : IntKind.wrap .i64 (IntKind.wrap .i64 (16 * (l.length : Int)) - 1) = (N : Int) - 1 := by
    rw [i64w (n := 16 * (l.length : Int)) (by omega) (by omega), i64w] <;> omega
  rw [ei]
  have key : ∀ (n : Nat), n ≤ N → ∀ (k : Nat) (row : List Int), k = min (N - n) m.length → row.length = k → limOk row = true → valL row = X / 2 ^ n % Y →
      G (mkX Try.prog (tab libk0) Try.f95 [⟨t, .ro, .ints .u64 l⟩, ⟨u, .ro, .ints .u64 m⟩] ρ w ⟨.w (.c (.own 2)), [], [⟨22, .own (min N m.length), .ints .u64 (lim (min N m.length) (X % Y))⟩]⟩) (s95st0 t u l m ((n : Int) - 1) k row) := by
    intro n
    induction n with
    | zero =>
      intro _ k row hk hlen hok hv
      rw [Nat.pow_zero, Nat.div_one] at hv
      rw [Nat.sub_zero] at hk
      rw [← hk, ← hv, ← hlen, ← lim_valL hok, hlen]
      exact s95_6 t u l m _ k row (by omega)
    | succ n ih =>
      intro hn k row hk hlen hok hv
      rw [show (((n + 1 : Nat) : Int) - 1) = (n : Int) by omega]
      have hb : bitL l (n : Nat) = X / 2 ^ n % 2 := by
        unfold bitL
        rw [hx, Int.toNat_natCast]
      have hb2 : X / 2 ^ n % 2 < 2 := Nat.mod_lt _ (by decide)
      have hrY : valL row < Y := by rw [hv]; exact Nat.mod_lt _ hY
      have hkb : k ≤ 100000000 := by omega
      -- the row of twice the rest
      have hD : (lim (k + 1) (valL row + valL row)).length = k + 1 := lim_length _ _
      have hrow := valL_lt hok
      rw [hlen] at hrow
      have hrow1 : 65536 ^ (k + 1) = 65536 ^ k * 65536 := Nat.pow_succ ..
      have hDv : valL (lim (k + 1) (valL row + valL row)) = valL row + valL row := by
        rw [valL_lim, Nat.mod_eq_of_lt (by omega)]
      have hD0 : List.getD (lim (k + 1) (valL row + valL row)) 0 0 = (((valL row + valL row) % 65536 : Nat) : Int) := by
        rw [valL_get (limOk_lim _ _), hDv, Nat.pow_zero, Nat.div_one]
      have ew : IntKind.wrap .u64 (List.getD (lim (k + 1) (valL row + valL row)) 0 0 + ((bitL l (n : Nat) : Nat) : Int)) = List.getD (lim (k + 1) (valL row + valL row)) 0 0 + ((X / 2 ^ n % 2 : Nat) : Int) := by
        rw [hb, hD0, wU]
        omega
      have hSv := valL_add0 (lim (k + 1) (valL row + valL row)) (X / 2 ^ n % 2) (by omega) (by rw [hD0]; omega)
      have hSok : limOk (List.set (lim (k + 1) (valL row + valL row)) 0 (List.getD (lim (k + 1) (valL row + valL row)) 0 0 + ((X / 2 ^ n % 2 : Nat) : Int))) = true := limOk_set (limOk_lim _ _) (by rw [hD0]; omega) (by rw [hD0]; omega)
      have hSl : (List.set (lim (k + 1) (valL row + valL row)) 0 (List.getD (lim (k + 1) (valL row + valL row)) 0 0 + ((X / 2 ^ n % 2 : Nat) : Int))).length = k + 1 := by rw [List.length_set, hD]
      rw [hDv] at hSv
      have hnext : X / 2 ^ n % Y = (valL row + valL row + X / 2 ^ n % 2) % Y := by rw [rem_bit X Y n hY, hv]
      have el := lim_valL hSok
      rw [hSl, hSv] at el
      generalize hb' : X / 2 ^ n % 2 = b at *
      generalize hr : valL row = r at *
      have en : IntKind.wrap .i64 ((n : Int) - 1) = (n : Int) - 1 := by rw [i64w] <;> omega
      by_cases hge : r + r + b < Y
      · have hmod : (r + r + b) % Y = r + r + b := Nat.mod_eq_of_lt hge
        have g15 : (!!Nat.blt (r + r + b) Y) = true := by rw [Nat.blt_eq.mpr hge]; rfl
        by_cases hcut : k + 1 > m.length
        · refine s95_4 t u l m (n : Nat) k row (by omega) hlen hok (by omega) ?_ ?_ hl (by omega) (by omega) ?_ ?_ hm ?_ (by omega) ?_ ?_ ?_ ?_
          all_goals rw [maxN_self]
          all_goals (try rw [hr])
          all_goals (try rw [ew])
          · omega
          · rw [hD]; omega
          · exact hSl
          · exact hSok
          · rw [hSl]; omega
          · rw [hSv, hy]; exact g15
          · omega
          · omega
          · rw [en, Int.toNat_natCast, el, lim_take _ _ _ (by omega)]
            refine ih (by omega) _ _ (by omega) (lim_length _ _) (limOk_lim _ _) ?_
            rw [valL_lim, Nat.mod_eq_of_lt (by omega), hnext, hmod]
        · refine s95_5 t u l m (n : Nat) k row (by omega) hlen hok (by omega) ?_ ?_ hl (by omega) (by omega) ?_ ?_ hm ?_ (by omega) ?_ ?_ ?_
          all_goals rw [maxN_self]
          all_goals (try rw [hr])
          all_goals (try rw [ew])
          · omega
          · rw [hD]; omega
          · exact hSl
          · exact hSok
          · rw [hSl]; omega
          · rw [hSv, hy]; exact g15
          · omega
          · rw [en]
            refine ih (by omega) _ _ (by omega) hSl hSok ?_
            rw [hSv, hnext, hmod]
      · have hS2 : r + r + b < 65536 ^ (k + 1) := by omega
        have hmod : (r + r + b) % Y = r + r + b - Y := by rw [Nat.mod_eq_sub_mod (by omega), Nat.mod_eq_of_lt (by omega)]
        have g15 : (!Nat.blt (r + r + b) Y) = true := by rw [blt_f hge]; rfl
        have esub : lim (k + 1) (subN (k + 1) (r + r + b) Y) = lim (k + 1) (r + r + b - Y) := by
          unfold subN
          rw [Nat.mod_eq_of_lt (a := Y) (by omega), ← lim_mod (k + 1) (r + r + b + 65536 ^ (k + 1) - Y), show r + r + b + 65536 ^ (k + 1) - Y = (r + r + b - Y) + 65536 ^ (k + 1) by omega, Nat.add_mod_right, lim_mod]
        by_cases hcut : k + 1 > m.length
        · refine s95_2 t u l m (n : Nat) k row (by omega) hlen hok (by omega) ?_ ?_ hl (by omega) (by omega) ?_ ?_ hm ?_ (by omega) ?_ ?_ ?_ ?_
          all_goals rw [maxN_self]
          all_goals (try rw [hr])
          all_goals (try rw [ew])
          · omega
          · rw [hD]; omega
          · exact hSl
          · exact hSok
          · rw [hSl]; omega
          · rw [hSv, hy]; exact g15
          · omega
          · omega
          · rw [en, Int.toNat_natCast, hSv, hy, esub, lim_take _ _ _ (by omega)]
            refine ih (by omega) _ _ (by omega) (lim_length _ _) (limOk_lim _ _) ?_
            rw [valL_lim, Nat.mod_eq_of_lt (by omega), hnext, hmod]
        · refine s95_3 t u l m (n : Nat) k row (by omega) hlen hok (by omega) ?_ ?_ hl (by omega) (by omega) ?_ ?_ hm ?_ (by omega) ?_ ?_ ?_
          all_goals rw [maxN_self]
          all_goals (try rw [hr])
          all_goals (try rw [ew])
          · omega
          · rw [hD]; omega
          · exact hSl
          · exact hSok
          · rw [hSl]; omega
          · rw [hSv, hy]; exact g15
          · omega
          · rw [en, hSv, hy, esub]
            refine ih (by omega) _ _ (by omega) (lim_length _ _) (limOk_lim _ _) ?_
            rw [valL_lim, Nat.mod_eq_of_lt (by omega), hnext, hmod]
  refine key N (Nat.le_refl _) 0 [] (by omega) rfl rfl ?_
  rw [Nat.div_eq_of_lt hXN, Nat.zero_mod]
  rfl
def minN (a b : Nat) : Nat := min a b
def e95 : Entry := fun args ms => match args, ms with
  | [.c (.sl 0 0 n), .c (.sl 1 0 k)], [⟨_, .ro, .ints .u64 l⟩, ⟨_, .ro, .ints .u64 m⟩] => some (⟨.w (.c (.own 2)), [], [⟨22, .own (minN (16 * n) k), .ints .u64 (lim (minN (16 * n) k) (valL l % valL m))⟩]⟩,
      [Nat.beq l.length n, Nat.beq m.length k, limOk l, limOk m, Nat.ble l.length 100000000, Nat.ble m.length 100000000, Nat.blt 0 (valL m)])
  | _, _ => none
theorem e95_ok : EntryOk Try.prog 95 e95 := by
  intro args ms r obs h ho
  unfold e95 at h
  split at h
  · rename_i n k t l u m
    cases h
    simp only [List.mem_cons, List.not_mem_nil, or_false, forall_eq_or_imp, forall_eq, Nat.beq_eq, Nat.ble_eq, Nat.blt_eq] at ho
    obtain ⟨rfl, rfl, h1, h2, h3, h4, h5⟩ := ho
    exact s95n t u l m h1 h2 h3 h4 h5
  · cases h
def libK : List (Nat × Entry) := (95, roE [.ints .u64, .ints .u64] e95) :: libJ
theorem libK_ok : AllOk Try.prog libK := .cons (roE_ok e95_ok) libJ_ok
end Go.Proofs.Ytmjejlbmcefaoaa
namespace Go.Proofs.Ytmjejlbmcefaoaa
open Go Sx

def nm1 (f : Nat → V) : List Nat → Res := fun ns => match ns with | [a] => ⟨f a, [], []⟩ | _ => ⟨.tup [], [], []⟩
def nm2 (f : Nat → Nat → V) : List Nat → Res := fun ns => match ns with | [a, b] => ⟨f a b, [], []⟩ | _ => ⟨.tup [], [], []⟩
def vN (n : Nat) : V := .w (.agg (numC n))
def e125 : Entry := numsE [] (fun _ => ⟨vN 57896044618658097711785492504343953926634992332820282019728792003956564819949, [], []⟩)
/-- a word that is handed over, by its number. -/
def wordE (R : Nat → Res) : Entry := fun args ms => match args, ms with
  | [.c c], [] => match wOf c with
    | some (x, o) => some (R x, o)
    | none => none
  | _, _ => none
def e227 : Entry := numsE [1] (nm1 fun a => vN (a % 57896044618658097711785492504343953926634992332820282019728792003956564819949))
def e121 : Entry := wordE fun x => ⟨vN x, [], []⟩
theorem s125_1 : Sx.Spec Try.prog 125 [] [] ⟨V.w (W.agg [C.v (Value.int IntKind.u64 18446744073709551597), C.v (Value.int IntKind.u64 18446744073709551615), C.v (Value.int IntKind.u64 18446744073709551615), C.v (Value.int IntKind.u64 9223372036854775807)]), [], []⟩ :=
  spec_of_whole (tab_ok libn_ok) mixed Try.func125 [] 1000000 [] (by kernel_rfl) (by kernel_rfl) (by kernel_rfl) (by kernel_rfl) (by kernel_rfl) (by kernel_rfl)
    (ocons rfl onil)

theorem s126_1 : Sx.Spec Try.prog 126 [] [] ⟨V.w (W.agg [C.v (Value.int IntKind.u64 18446744073709551597), C.v (Value.int IntKind.u64 18446744073709551615), C.v (Value.int IntKind.u64 18446744073709551615), C.v (Value.int IntKind.u64 9223372036854775807)]), [], []⟩ :=
  spec_of_whole (tab_ok libn_ok) mixed Try.func126 [] 1000000 [] (by kernel_rfl) (by kernel_rfl) (by kernel_rfl) (by kernel_rfl) (by kernel_rfl) (by kernel_rfl)
    (ocons rfl (ocons rfl onil))


theorem lit4 {a b c d : Int} {n : Nat} (h0 : a = wd n 0) (h1 : b = wd n 1) (h2 : c = wd n 2) (h3 : d = wd n 3) {ρ : Env} {y : Value} (h : RV ρ (.w (.agg [.v (.int .u64 a), .v (.int .u64 b), .v (.int .u64 c), .v (.int .u64 d)])) y) : RV ρ (vN n) y := by
  subst h0; subst h1; subst h2; subst h3
  exact rw_numI.1 h
theorem e125_ok : EntryOk Try.prog 125 e125 := numsE_ok fun ns h hl => by
  match ns, h with
  | [], _ => exact Spec.resv (fun ρ y h => lit4 (by decide) (by decide) (by decide) (by decide) h) s125_1
def e126 : Entry := numsE [] (fun _ => ⟨vN 57896044618658097711785492504343953926634992332820282019728792003956564819949, [], []⟩)
theorem e126_ok : EntryOk Try.prog 126 e126 := numsE_ok fun ns h hl => by
  match ns, h with
  | [], _ => exact Spec.resv (fun ρ y h => lit4 (by decide) (by decide) (by decide) (by decide) h) s126_1
def libp1 : List (Nat × Entry) := (125, e125) :: libK
theorem libp1_ok : AllOk Try.prog libp1 := .cons e125_ok libK_ok
noncomputable def s227k0 : List Item := kAt Try.prog (tab libp1) Try.f227 [] 0 [W.agg [C.u 1, C.u 0, C.u 0, C.u 0]] []
noncomputable def s227st0 (b0_0 : Nat) (b0_1 : Nat) (b0_2 : Nat) (b0_3 : Nat) : Cfg := cfg s227k0 [1, 2] [V.w (W.c (C.ptr 0 0)), V.w (W.c (C.ptr 1 0))] [Blk.mk 80 Mode.rw (K.cs [C.u b0_0, C.u b0_1, C.u b0_2, C.u b0_3]), Blk.mk 106 Mode.rw (K.cs [C.u 0, C.u 0, C.u 0, C.u 0])]
theorem s227_1 {ρ : Env} {w : World} {r : Res} (a : Nat) (hg : G (mkX Try.prog (tab libp1) Try.f227 [] ρ w r) (s227st0 (a) (a / 18446744073709551616) (a / 340282366920938463463374607431768211456) (a / 6277101735386680763835789423207666416102355444464034512896))) : G (mkX Try.prog (tab libp1) Try.f227 [] ρ w r) (cfg [.code (Try.f227.body.getD .skip)] (List.range 1) ([W.agg (numC a)].map V.w) []) :=
  G.seg (X := mkX Try.prog (tab libp1) Try.f227 [] ρ w r) ⟨tab_ok libp1_ok, mixed⟩ [] 1000000 0 [1, 2] [(0, none), (4, none)] (k := s227k0) (vs := [V.w (W.c (C.ptr 0 0)), V.w (W.c (C.ptr 1 0))]) (bs := [Blk.mk 80 Mode.rw (K.cs (numC a)), Blk.mk 106 Mode.rw (K.cs [C.u 0, C.u 0, C.u 0, C.u 0])]) (by kernel_rfl) (by kernel_rfl)
    onil hg
theorem s227_2 {ρ : Env} {w : World} (a : Nat) (b0_0 : Nat) (b0_1 : Nat) (b0_2 : Nat) (b0_3 : Nat) (h1 : (bif true then Nat.beq (b2n (Nat.blt (num4 (b0_0 % 18446744073709551616) (b0_1 % 18446744073709551616) (b0_2 % 18446744073709551616) (b0_3 % 18446744073709551616)) 57896044618658097711785492504343953926634992332820282019728792003956564819949) % 18446744073709551616) 1 else false) = true) : G (mkX Try.prog (tab libp1) Try.f227 [] ρ w ⟨V.w (W.agg [C.u b0_0, C.u b0_1, C.u b0_2, C.u b0_3]), [], []⟩) (s227st0 b0_0 b0_1 b0_2 b0_3) :=
  G.ends (tab_ok libp1_ok) mixed [(12, true)] 1000000 [] (by kernel_rfl) (by kernel_rfl) (by kernel_rfl) (by kernel_rfl)
    (ocons rfl (ocons h1 (ocons rfl onil)))
theorem s227_3 {ρ : Env} {w : World} {r : Res} (a : Nat) (b0_0 : Nat) (b0_1 : Nat) (b0_2 : Nat) (b0_3 : Nat) (h1 : (!bif true then Nat.beq (b2n (Nat.blt (num4 (b0_0 % 18446744073709551616) (b0_1 % 18446744073709551616) (b0_2 % 18446744073709551616) (b0_3 % 18446744073709551616)) 57896044618658097711785492504343953926634992332820282019728792003956564819949) % 18446744073709551616) 1 else false) = true) (hg : G (mkX Try.prog (tab libp1) Try.f227 [] ρ w r) (s227st0 (num4 (b0_0 % 18446744073709551616) (b0_1 % 18446744073709551616) (b0_2 % 18446744073709551616) (b0_3 % 18446744073709551616) + 57896044618658097711785492504343953926634992332820282019728792003956564819987) ((num4 (b0_0 % 18446744073709551616) (b0_1 % 18446744073709551616) (b0_2 % 18446744073709551616) (b0_3 % 18446744073709551616) + 57896044618658097711785492504343953926634992332820282019728792003956564819987) / 18446744073709551616) ((num4 (b0_0 % 18446744073709551616) (b0_1 % 18446744073709551616) (b0_2 % 18446744073709551616) (b0_3 % 18446744073709551616) + 57896044618658097711785492504343953926634992332820282019728792003956564819987) / 340282366920938463463374607431768211456) ((num4 (b0_0 % 18446744073709551616) (b0_1 % 18446744073709551616) (b0_2 % 18446744073709551616) (b0_3 % 18446744073709551616) + 57896044618658097711785492504343953926634992332820282019728792003956564819987) / 6277101735386680763835789423207666416102355444464034512896))) : G (mkX Try.prog (tab libp1) Try.f227 [] ρ w r) (s227st0 b0_0 b0_1 b0_2 b0_3) :=
  G.seg (X := mkX Try.prog (tab libp1) Try.f227 [] ρ w r) ⟨tab_ok libp1_ok, mixed⟩ [(12, false)] 1000000 0 [1, 2] [(0, none), (1, none)] (k := s227k0) (vs := [V.w (W.c (C.ptr 0 0)), V.w (W.c (C.ptr 1 0))]) (bs := [Blk.mk 80 Mode.rw (K.cs [C.u (num4 (b0_0 % 18446744073709551616) (b0_1 % 18446744073709551616) (b0_2 % 18446744073709551616) (b0_3 % 18446744073709551616) + 57896044618658097711785492504343953926634992332820282019728792003956564819987), C.u ((num4 (b0_0 % 18446744073709551616) (b0_1 % 18446744073709551616) (b0_2 % 18446744073709551616) (b0_3 % 18446744073709551616) + 57896044618658097711785492504343953926634992332820282019728792003956564819987) / 18446744073709551616), C.u ((num4 (b0_0 % 18446744073709551616) (b0_1 % 18446744073709551616) (b0_2 % 18446744073709551616) (b0_3 % 18446744073709551616) + 57896044618658097711785492504343953926634992332820282019728792003956564819987) / 340282366920938463463374607431768211456), C.u ((num4 (b0_0 % 18446744073709551616) (b0_1 % 18446744073709551616) (b0_2 % 18446744073709551616) (b0_3 % 18446744073709551616) + 57896044618658097711785492504343953926634992332820282019728792003956564819987) / 6277101735386680763835789423207666416102355444464034512896)]), Blk.mk 106 Mode.rw (K.cs [C.u 0, C.u 0, C.u 0, C.u 0])]) (by kernel_rfl) (by kernel_rfl)
    (ocons rfl (ocons h1 (ocons rfl onil))) hg


theorem b2n_beq (b : Bool) : (bif true then Nat.beq (b2n b % 18446744073709551616) 1 else false) = b := by cases b <;> rfl
theorem s227n {a : Nat} (ha : a < P256) : Sx.Spec Try.prog 227 [.agg (numC a)] [] ⟨vN (a % 57896044618658097711785492504343953926634992332820282019728792003956564819949), [], []⟩ := by
  refine spec_body (tab := tab libp1) Try.func227 (by kernel_rfl) (by kernel_rfl) (by kernel_rfl) fun ρ w => ?_
  refine s227_1 a ?_
  have key : ∀ (f n : Nat), n < 115792089237316195423570985008687907853269984665640564039457584007913129639936 → n ≤ f * 57896044618658097711785492504343953926634992332820282019728792003956564819949 → n % 57896044618658097711785492504343953926634992332820282019728792003956564819949 = a % 57896044618658097711785492504343953926634992332820282019728792003956564819949 → ∀ c0 c1 c2 c3, d4 c0 c1 c2 c3 = n → G (mkX Try.prog (tab libp1) Try.f227 [] ρ w ⟨vN (a % 57896044618658097711785492504343953926634992332820282019728792003956564819949), [], []⟩) (s227st0 c0 c1 c2 c3) := by
    intro f
    induction f with
    | zero =>
      intro n _ hn hm c0 c1 c2 c3 hc
      have : n = 0 := by omega
      subst this
      refine G.resv (r := ⟨.w (.agg [.u c0, .u c1, .u c2, .u c3]), [], []⟩) (fun ρ y h => ?_) (s227_2 a c0 c1 c2 c3 ?_)
      · rw [← hm, Nat.zero_mod, ← hc]
        exact rw_d4 y h
      · rw [b2n_beq]
        exact Nat.blt_eq.mpr (by rw [show num4 _ _ _ _ = d4 c0 c1 c2 c3 from rfl, hc]; decide)
    | succ f ih =>
      intro n hP hn hm c0 c1 c2 c3 hc
      by_cases hlt : n < 57896044618658097711785492504343953926634992332820282019728792003956564819949
      · refine G.resv (r := ⟨.w (.agg [.u c0, .u c1, .u c2, .u c3]), [], []⟩) (fun ρ y h => ?_) (s227_2 a c0 c1 c2 c3 ?_)
        · rw [← hm, Nat.mod_eq_of_lt hlt, ← hc]
          exact rw_d4 y h
        · rw [b2n_beq]
          exact Nat.blt_eq.mpr (by rw [show num4 _ _ _ _ = d4 c0 c1 c2 c3 from rfl, hc]; exact hlt)
      · refine s227_3 a c0 c1 c2 c3 ?_ ?_
        · rw [b2n_beq]
          rw [show num4 _ _ _ _ = d4 c0 c1 c2 c3 from rfl, hc, blt_f hlt]
          rfl
        · rw [show num4 _ _ _ _ = d4 c0 c1 c2 c3 from rfl, hc]
          refine ih (n - 57896044618658097711785492504343953926634992332820282019728792003956564819949) (by omega) (by omega) (by omega) _ _ _ _ ?_
          rw [d4_num]
          omega
  exact key 3 a ha (by unfold P256 at ha; omega) rfl _ _ _ _ (by rw [d4_num]; exact Nat.mod_eq_of_lt ha)
theorem e227_ok : EntryOk Try.prog 227 e227 := numsE_ok fun ns h hl => by
  obtain ⟨a, rfl⟩ := ns1 h
  exact s227n (hl a (by simp))
def libp2 : List (Nat × Entry) := (227, e227) :: libp1
theorem libp2_ok : AllOk Try.prog libp2 := .cons e227_ok libp1_ok
theorem s226_1 (a : Nat) (b : Nat) (h1 : (bif true then Nat.beq ((nn (nn (nn a * nn b) + nn (nn (nn a * nn b / 115792089237316195423570985008687907853269984665640564039457584007913129639936) * 38)) + nn (38 * (nn (nn a * nn b / 115792089237316195423570985008687907853269984665640564039457584007913129639936) * 38 / 115792089237316195423570985008687907853269984665640564039457584007913129639936 + (nn (nn a * nn b) + nn (nn (nn a * nn b / 115792089237316195423570985008687907853269984665640564039457584007913129639936) * 38)) / 115792089237316195423570985008687907853269984665640564039457584007913129639936) % 18446744073709551616)) / 115792089237316195423570985008687907853269984665640564039457584007913129639936 % 18446744073709551616) 1 else false) = true) : Sx.Spec Try.prog 226 [W.agg (numC a), W.agg (numC b)] [] ⟨V.w (W.agg (numC (nn (nn (nn (nn (nn a * nn b) + nn (nn (nn a * nn b / 115792089237316195423570985008687907853269984665640564039457584007913129639936) * 38)) + nn (38 * (nn (nn a * nn b / 115792089237316195423570985008687907853269984665640564039457584007913129639936) * 38 / 115792089237316195423570985008687907853269984665640564039457584007913129639936 + (nn (nn a * nn b) + nn (nn (nn a * nn b / 115792089237316195423570985008687907853269984665640564039457584007913129639936) * 38)) / 115792089237316195423570985008687907853269984665640564039457584007913129639936) % 18446744073709551616)) + 38) % 57896044618658097711785492504343953926634992332820282019728792003956564819949))), [], []⟩ :=
  spec_of_whole (tab_ok libp2_ok) mixed Try.func226 [(43, true)] 1000000 [] (by kernel_rfl) (by kernel_rfl) (by kernel_rfl) (by kernel_rfl) (by kernel_rfl) (by kernel_rfl)
    (ocons rfl (ocons rfl (ocons rfl (ocons rfl (ocons rfl (ocons rfl (ocons rfl (ocons rfl (ocons rfl (ocons h1 (ocons rfl (ocons rfl (ocons rfl onil)))))))))))))
theorem s226_2 (a : Nat) (b : Nat) (h1 : (!bif true then Nat.beq ((nn (nn (nn a * nn b) + nn (nn (nn a * nn b / 115792089237316195423570985008687907853269984665640564039457584007913129639936) * 38)) + nn (38 * (nn (nn a * nn b / 115792089237316195423570985008687907853269984665640564039457584007913129639936) * 38 / 115792089237316195423570985008687907853269984665640564039457584007913129639936 + (nn (nn a * nn b) + nn (nn (nn a * nn b / 115792089237316195423570985008687907853269984665640564039457584007913129639936) * 38)) / 115792089237316195423570985008687907853269984665640564039457584007913129639936) % 18446744073709551616)) / 115792089237316195423570985008687907853269984665640564039457584007913129639936 % 18446744073709551616) 1 else false) = true) : Sx.Spec Try.prog 226 [W.agg (numC a), W.agg (numC b)] [] ⟨V.w (W.agg (numC (nn (nn (nn (nn a * nn b) + nn (nn (nn a * nn b / 115792089237316195423570985008687907853269984665640564039457584007913129639936) * 38)) + nn (38 * (nn (nn a * nn b / 115792089237316195423570985008687907853269984665640564039457584007913129639936) * 38 / 115792089237316195423570985008687907853269984665640564039457584007913129639936 + (nn (nn a * nn b) + nn (nn (nn a * nn b / 115792089237316195423570985008687907853269984665640564039457584007913129639936) * 38)) / 115792089237316195423570985008687907853269984665640564039457584007913129639936) % 18446744073709551616)) % 57896044618658097711785492504343953926634992332820282019728792003956564819949))), [], []⟩ :=
  spec_of_whole (tab_ok libp2_ok) mixed Try.func226 [(43, false)] 1000000 [] (by kernel_rfl) (by kernel_rfl) (by kernel_rfl) (by kernel_rfl) (by kernel_rfl) (by kernel_rfl)
    (ocons rfl (ocons rfl (ocons rfl (ocons rfl (ocons rfl (ocons rfl (ocons rfl (ocons rfl (ocons rfl (ocons h1 (ocons rfl onil)))))))))))

theorem s224_1 (a : Nat) : Sx.Spec Try.prog 224 [W.agg (numC a)] [] ⟨V.w (W.agg (numC (nn a % 57896044618658097711785492504343953926634992332820282019728792003956564819949))), [], []⟩ :=
  spec_of_whole (tab_ok libp2_ok) mixed Try.func224 [] 1000000 [] (by kernel_rfl) (by kernel_rfl) (by kernel_rfl) (by kernel_rfl) (by kernel_rfl) (by kernel_rfl)
    (ocons rfl onil)

theorem s121_1 (x : Nat) : Sx.Spec Try.prog 121 [W.c (C.u x)] [] ⟨V.w (W.agg (numC (x % 18446744073709551616))), [], []⟩ :=
  spec_of_whole (tab_ok libK_ok) mixed Try.func121 [] 1000000 [] (by kernel_rfl) (by kernel_rfl) (by kernel_rfl) (by kernel_rfl) (by kernel_rfl) (by kernel_rfl)
    (ocons rfl onil)

theorem s123_1 (s : ByteArray) (h1 : ¬ofE s = 0) : Sx.Spec Try.prog 123 [W.c (C.v (Value.string s))] [] ⟨V.tup [W.agg [C.u 0, C.u 0, C.u 0, C.u 0], W.int IntKind.i64 (ofE s)], [], []⟩ :=
  spec_of_whole (tab_ok libp2_ok) mixed Try.func123 [(12, true)] 1000000 [] (by kernel_rfl) (by kernel_rfl) (by kernel_rfl) (by kernel_rfl) (by kernel_rfl) (by kernel_rfl)
    (ocons rfl (ocons (bneI h1) (ocons rfl onil)))
theorem s123_2 (s : ByteArray) (h1 : ofE s = 0) (h2 : cmpN (nn (ofN s)) 57896044618658097711785492504343953926634992332820282019728792003956564819949 ≥ 0) : Sx.Spec Try.prog 123 [W.c (C.v (Value.string s))] [] ⟨V.tup [W.agg [C.u 0, C.u 0, C.u 0, C.u 0], W.int IntKind.i64 2], [], []⟩ :=
  spec_of_whole (tab_ok libp2_ok) mixed Try.func123 [(12, false), (18, true)] 1000000 [] (by kernel_rfl) (by kernel_rfl) (by kernel_rfl) (by kernel_rfl) (by kernel_rfl) (by kernel_rfl)
    (ocons rfl (ocons (nbneI h1) (ocons (decide_eq_true h2) (ocons rfl onil))))
theorem s123_3 (s : ByteArray) (h1 : ofE s = 0) (h2 : ¬cmpN (nn (ofN s)) 57896044618658097711785492504343953926634992332820282019728792003956564819949 ≥ 0) : Sx.Spec Try.prog 123 [W.c (C.v (Value.string s))] [] ⟨V.tup [W.agg (numC (ofN s)), W.int IntKind.i64 0], [], []⟩ :=
  spec_of_whole (tab_ok libp2_ok) mixed Try.func123 [(12, false), (18, false)] 1000000 [] (by kernel_rfl) (by kernel_rfl) (by kernel_rfl) (by kernel_rfl) (by kernel_rfl) (by kernel_rfl)
    (ocons rfl (ocons (nbneI h1) (ocons (ndec h2) (ocons rfl onil))))

theorem s124_1 (a : Nat) : Sx.Spec Try.prog 124 [W.agg (numC a)] [] ⟨V.str (bytesN (nn a)), [], []⟩ :=
  spec_of_whole (tab_ok libK_ok) mixed Try.func124 [] 1000000 [] (by kernel_rfl) (by kernel_rfl) (by kernel_rfl) (by kernel_rfl) (by kernel_rfl) (by kernel_rfl)
    onil

theorem s122_1 (a : Nat) : Sx.Spec Try.prog 122 [W.agg (numC a)] [] ⟨V.bool (bif true then Nat.beq (bitI (nn a) 0 % 18446744073709551616) 1 else false), [], []⟩ :=
  spec_of_whole (tab_ok libK_ok) mixed Try.func122 [] 1000000 [] (by kernel_rfl) (by kernel_rfl) (by kernel_rfl) (by kernel_rfl) (by kernel_rfl) (by kernel_rfl)
    (ocons rfl onil)

theorem s127_1 (a : Nat) : Sx.Spec Try.prog 127 [W.agg (numC a)] [] ⟨V.w (W.agg (numC a)), [], []⟩ :=
  spec_of_whole (tab_ok libK_ok) mixed Try.func127 [] 1000000 [] (by kernel_rfl) (by kernel_rfl) (by kernel_rfl) (by kernel_rfl) (by kernel_rfl) (by kernel_rfl)
    (ocons rfl onil)

theorem s110_1 (a : Nat) (h1 : nn a = 0) : Sx.Spec Try.prog 110 [W.agg (numC a)] [] ⟨V.w (W.agg (numC a)), [], []⟩ :=
  spec_of_whole (tab_ok libp2_ok) mixed Try.func110 [(7, true)] 1000000 [] (by kernel_rfl) (by kernel_rfl) (by kernel_rfl) (by kernel_rfl) (by kernel_rfl) (by kernel_rfl)
    (ocons (beqT h1) (ocons rfl onil))
theorem s110_2 (a : Nat) (h1 : (!Nat.beq (nn a) 0) = true) : Sx.Spec Try.prog 110 [W.agg (numC a)] [] ⟨V.w (W.agg [C.u (57896044618658097711785492504343953926634992332820282019728792003956564819949 + (115792089237316195423570985008687907853269984665640564039457584007913129639936 - nn a)), C.u ((57896044618658097711785492504343953926634992332820282019728792003956564819949 + (115792089237316195423570985008687907853269984665640564039457584007913129639936 - nn a)) / 18446744073709551616), C.u ((57896044618658097711785492504343953926634992332820282019728792003956564819949 + (115792089237316195423570985008687907853269984665640564039457584007913129639936 - nn a)) / 340282366920938463463374607431768211456), C.u ((57896044618658097711785492504343953926634992332820282019728792003956564819949 + (115792089237316195423570985008687907853269984665640564039457584007913129639936 - nn a)) / 6277101735386680763835789423207666416102355444464034512896)]), [], []⟩ :=
  spec_of_whole (tab_ok libp2_ok) mixed Try.func110 [(7, false)] 1000000 [] (by kernel_rfl) (by kernel_rfl) (by kernel_rfl) (by kernel_rfl) (by kernel_rfl) (by kernel_rfl)
    (ocons h1 (ocons rfl (ocons rfl onil)))

theorem s104_1 (x : Nat) : Sx.Spec Try.prog 104 [W.c (C.u x)] [] ⟨V.w (W.agg [C.u x, C.u 0, C.u 0, C.u 0]), [], []⟩ :=
  spec_of_whole (tab_ok libK_ok) mixed Try.func104 [] 1000000 [] (by kernel_rfl) (by kernel_rfl) (by kernel_rfl) (by kernel_rfl) (by kernel_rfl) (by kernel_rfl)
    (ocons rfl onil)


theorem mul_red {ab lo hi x y c1 s1 s2 c2 : Nat} (h0 : ab = lo + 115792089237316195423570985008687907853269984665640564039457584007913129639936 * hi) (h1 : 38 * hi = x + 115792089237316195423570985008687907853269984665640564039457584007913129639936 * y) (h2 : lo + x = s1 + 115792089237316195423570985008687907853269984665640564039457584007913129639936 * c1) (h3 : s1 + 38 * (y + c1) = s2 + 115792089237316195423570985008687907853269984665640564039457584007913129639936 * c2) : ab % 57896044618658097711785492504343953926634992332820282019728792003956564819949 = (s2 + 38 * c2) % 57896044618658097711785492504343953926634992332820282019728792003956564819949 := by
  have : ab = s2 + 38 * c2 + 57896044618658097711785492504343953926634992332820282019728792003956564819949 * (2 * hi + 2 * (c1 + y) + 2 * c2) := by omega
  rw [this, Nat.add_mul_mod_self_left]
def e226 : Entry := numsE [1, 1] (nm2 fun a b => vN (a * b % 57896044618658097711785492504343953926634992332820282019728792003956564819949))
theorem s226n {a b : Nat} (ha : a < P256) (hb : b < P256) : Sx.Spec Try.prog 226 [.agg (numC a), .agg (numC b)] [] ⟨vN (a * b % 57896044618658097711785492504343953926634992332820282019728792003956564819949), [], []⟩ := by
  have na := nn_id ha
  have nb := nn_id hb
  have hab : a * b < 115792089237316195423570985008687907853269984665640564039457584007913129639936 * 115792089237316195423570985008687907853269984665640564039457584007913129639936 := Nat.mul_lt_mul'' ha hb
  have k1 := s226_1 a b
  have k2 := s226_2 a b
  rw [na, nb] at k1 k2
  generalize hX : a * b = ab at *
  have e0 : nn ab = ab % 115792089237316195423570985008687907853269984665640564039457584007913129639936 := nn_eq _
  have e1 : nn (ab / 115792089237316195423570985008687907853269984665640564039457584007913129639936) = ab / 115792089237316195423570985008687907853269984665640564039457584007913129639936 := nn_id (by omega)
  have e2 : nn (ab / 115792089237316195423570985008687907853269984665640564039457584007913129639936 * 38) = ab / 115792089237316195423570985008687907853269984665640564039457584007913129639936 * 38 % 115792089237316195423570985008687907853269984665640564039457584007913129639936 := nn_eq _
  rw [e0, e1, e2] at k1 k2
  have e3 : nn (ab % 115792089237316195423570985008687907853269984665640564039457584007913129639936 + ab / 115792089237316195423570985008687907853269984665640564039457584007913129639936 * 38 % 115792089237316195423570985008687907853269984665640564039457584007913129639936) = (ab % 115792089237316195423570985008687907853269984665640564039457584007913129639936 + ab / 115792089237316195423570985008687907853269984665640564039457584007913129639936 * 38 % 115792089237316195423570985008687907853269984665640564039457584007913129639936) % 115792089237316195423570985008687907853269984665640564039457584007913129639936 := nn_eq _
  rw [e3] at k1 k2
  have hy : ab / 115792089237316195423570985008687907853269984665640564039457584007913129639936 * 38 / 115792089237316195423570985008687907853269984665640564039457584007913129639936 ≤ 37 := by omega
  have hc : (ab % 115792089237316195423570985008687907853269984665640564039457584007913129639936 + ab / 115792089237316195423570985008687907853269984665640564039457584007913129639936 * 38 % 115792089237316195423570985008687907853269984665640564039457584007913129639936) / 115792089237316195423570985008687907853269984665640564039457584007913129639936 ≤ 1 := by omega
  have e4 : ∀ y c : Nat, y ≤ 37 → c ≤ 1 → nn (38 * (y + c) % 18446744073709551616) = 38 * (y + c) := by
    intro y c h1 h2
    have h3 : 38 * (y + c) < 18446744073709551616 := by omega
    rw [Nat.mod_eq_of_lt h3, nn_eq, Nat.mod_eq_of_lt (by omega)]
  rw [e4 _ _ hy hc] at k1 k2
  have red := mul_red (ab := ab) (lo := ab % 115792089237316195423570985008687907853269984665640564039457584007913129639936) (hi := ab / 115792089237316195423570985008687907853269984665640564039457584007913129639936) (x := ab / 115792089237316195423570985008687907853269984665640564039457584007913129639936 * 38 % 115792089237316195423570985008687907853269984665640564039457584007913129639936) (y := ab / 115792089237316195423570985008687907853269984665640564039457584007913129639936 * 38 / 115792089237316195423570985008687907853269984665640564039457584007913129639936) (c1 := (ab % 115792089237316195423570985008687907853269984665640564039457584007913129639936 + ab / 115792089237316195423570985008687907853269984665640564039457584007913129639936 * 38 % 115792089237316195423570985008687907853269984665640564039457584007913129639936) / 115792089237316195423570985008687907853269984665640564039457584007913129639936) (s1 := (ab % 115792089237316195423570985008687907853269984665640564039457584007913129639936 + ab / 115792089237316195423570985008687907853269984665640564039457584007913129639936 * 38 % 115792089237316195423570985008687907853269984665640564039457584007913129639936) % 115792089237316195423570985008687907853269984665640564039457584007913129639936) (s2 := ((ab % 115792089237316195423570985008687907853269984665640564039457584007913129639936 + ab / 115792089237316195423570985008687907853269984665640564039457584007913129639936 * 38 % 115792089237316195423570985008687907853269984665640564039457584007913129639936) % 115792089237316195423570985008687907853269984665640564039457584007913129639936 + 38 * (ab / 115792089237316195423570985008687907853269984665640564039457584007913129639936 * 38 / 115792089237316195423570985008687907853269984665640564039457584007913129639936 + (ab % 115792089237316195423570985008687907853269984665640564039457584007913129639936 + ab / 115792089237316195423570985008687907853269984665640564039457584007913129639936 * 38 % 115792089237316195423570985008687907853269984665640564039457584007913129639936) / 115792089237316195423570985008687907853269984665640564039457584007913129639936)) % 115792089237316195423570985008687907853269984665640564039457584007913129639936) (c2 := ((ab % 115792089237316195423570985008687907853269984665640564039457584007913129639936 + ab / 115792089237316195423570985008687907853269984665640564039457584007913129639936 * 38 % 115792089237316195423570985008687907853269984665640564039457584007913129639936) % 115792089237316195423570985008687907853269984665640564039457584007913129639936 + 38 * (ab / 115792089237316195423570985008687907853269984665640564039457584007913129639936 * 38 / 115792089237316195423570985008687907853269984665640564039457584007913129639936 + (ab % 115792089237316195423570985008687907853269984665640564039457584007913129639936 + ab / 115792089237316195423570985008687907853269984665640564039457584007913129639936 * 38 % 115792089237316195423570985008687907853269984665640564039457584007913129639936) / 115792089237316195423570985008687907853269984665640564039457584007913129639936)) / 115792089237316195423570985008687907853269984665640564039457584007913129639936) (by omega) (by omega) (by omega) (by omega)
  have hs1 := Nat.mod_lt (ab % 115792089237316195423570985008687907853269984665640564039457584007913129639936 + ab / 115792089237316195423570985008687907853269984665640564039457584007913129639936 * 38 % 115792089237316195423570985008687907853269984665640564039457584007913129639936) (show 0 < 115792089237316195423570985008687907853269984665640564039457584007913129639936 by decide)
  generalize (ab % 115792089237316195423570985008687907853269984665640564039457584007913129639936 + ab / 115792089237316195423570985008687907853269984665640564039457584007913129639936 * 38 % 115792089237316195423570985008687907853269984665640564039457584007913129639936) % 115792089237316195423570985008687907853269984665640564039457584007913129639936 = s1 at *
  generalize (ab % 115792089237316195423570985008687907853269984665640564039457584007913129639936 + ab / 115792089237316195423570985008687907853269984665640564039457584007913129639936 * 38 % 115792089237316195423570985008687907853269984665640564039457584007913129639936) / 115792089237316195423570985008687907853269984665640564039457584007913129639936 = c1 at *
  generalize ab / 115792089237316195423570985008687907853269984665640564039457584007913129639936 * 38 / 115792089237316195423570985008687907853269984665640564039457584007913129639936 = y at *
  have hT : s1 + 38 * (y + c1) < 115792089237316195423570985008687907853269984665640564039457584007913129639936 + 1500 := by omega
  generalize s1 + 38 * (y + c1) = T at *
  by_cases hcc : T / 115792089237316195423570985008687907853269984665640564039457584007913129639936 = 1
  · have g1 : (bif true then Nat.beq (T / 115792089237316195423570985008687907853269984665640564039457584007913129639936 % 18446744073709551616) 1 else false) = true := by rw [hcc]; rfl
    have k := k1 g1
    have e5 : nn (nn T + 38) % 57896044618658097711785492504343953926634992332820282019728792003956564819949 = ab % 57896044618658097711785492504343953926634992332820282019728792003956564819949 := by
      have hlt : T % 115792089237316195423570985008687907853269984665640564039457584007913129639936 + 38 < 115792089237316195423570985008687907853269984665640564039457584007913129639936 := by omega
      rw [red, hcc, nn_eq, nn_eq, Nat.mod_eq_of_lt hlt]
    rw [e5] at k
    exact k
  · have h0 : T / 115792089237316195423570985008687907853269984665640564039457584007913129639936 = 0 := by omega
    have g1 : (!bif true then Nat.beq (T / 115792089237316195423570985008687907853269984665640564039457584007913129639936 % 18446744073709551616) 1 else false) = true := by rw [h0]; rfl
    have k := k2 g1
    have e5 : nn T % 57896044618658097711785492504343953926634992332820282019728792003956564819949 = ab % 57896044618658097711785492504343953926634992332820282019728792003956564819949 := by
      rw [red, h0, nn_eq, Nat.mul_zero, Nat.add_zero]
    rw [e5] at k
    exact k
theorem e226_ok : EntryOk Try.prog 226 e226 := numsE_ok fun ns h hl => by
  obtain ⟨a, b, rfl⟩ := ns2 h
  exact s226n (hl a (by simp)) (hl b (by simp))
def e224 : Entry := numsE [1] (nm1 fun a => vN (a % 57896044618658097711785492504343953926634992332820282019728792003956564819949))
theorem e224_ok : EntryOk Try.prog 224 e224 := numsE_ok fun ns h hl => by
  obtain ⟨a, rfl⟩ := ns1 h
  have k := s224_1 a
  rw [nn_id (hl a (by simp))] at k
  exact k
theorem wordE_ok {f : FuncId} {R : Nat → Res} (h : ∀ x, x < 18446744073709551616 → Sx.Spec Try.prog f [.c (.u x)] [] (R x)) : EntryOk Try.prog f (wordE R) := by
  intro args ms r obs he ho
  unfold wordE at he
  split at he
  · rename_i c
    split at he
    · rename_i x o hw
      cases he
      obtain ⟨hx, hc⟩ := wOf_ok hw ho
      refine Spec.imps (bs := [.c (.u x)]) (.cons (fun ρ v hv => ?_) .nil) (h x hx)
      have := hc ρ v hv
      show v = _
      rw [this, Nat.mod_eq_of_lt hx]
    · cases he
  · cases he
theorem e121_ok : EntryOk Try.prog 121 e121 := wordE_ok fun x hx => by
  have k := s121_1 x
  rw [Nat.mod_eq_of_lt hx] at k
  exact k
def e104 : Entry := wordE fun x => ⟨vN x, [], []⟩
theorem e104_ok : EntryOk Try.prog 104 e104 := wordE_ok fun x hx => by
  refine Spec.resv (fun ρ y => ?_) (s104_1 x)
  refine rv_w fun h => rw4 (fun y h => h) (fun y h => ?_) (fun y h => ?_) (fun y h => ?_) h
  all_goals
    show y = _
    rw [show y = _ from h]
    congr 2
    omega
/-- a number's bytes read. -/
def pofN (s : ByteArray) : Nat := bif Nat.beq s.size 32 && Nat.blt (leN s) 57896044618658097711785492504343953926634992332820282019728792003956564819949 then leN s else 0
def pofE (s : ByteArray) : Int := bif Nat.beq s.size 32 then (bif Nat.blt (leN s) 57896044618658097711785492504343953926634992332820282019728792003956564819949 then 0 else 2) else 1
def e123 : Entry := fun args ms => match args, ms with
  | [.c (.v (.string s))], [] => some (⟨.tup [.agg (numC (pofN s)), .c (.v (.int .i64 (pofE s)))], [], []⟩, [])
  | _, _ => none
theorem zeroC : ([.u 0, .u 0, .u 0, .u 0] : List C) = numC 0 := by kernel_rfl
theorem s123n (s : ByteArray) : Sx.Spec Try.prog 123 [.c (.v (.string s))] [] ⟨.tup [.agg (numC (pofN s)), .c (.v (.int .i64 (pofE s)))], [], []⟩ := by
  by_cases hs : s.size = 32
  · have hE := ofE_32 hs
    have hN : ofN s = leN s := by unfold ofN; rw [hs]; rfl
    have hb : Nat.beq s.size 32 = true := by rw [hs]; rfl
    have nl : nn (ofN s) = leN s := by rw [nn_id (ofN_lt s), hN]
    by_cases hlt : leN s < 57896044618658097711785492504343953926634992332820282019728792003956564819949
    · have k := s123_3 s hE (by rw [nl, cmpN_eq, if_pos hlt]; decide)
      rw [hN] at k
      unfold pofN pofE
      rw [hb, Nat.blt_eq.mpr hlt]
      exact k
    · have k := s123_2 s hE (by rw [nl, cmpN_eq, if_neg hlt]; split <;> decide)
      unfold pofN pofE
      rw [hb, blt_f hlt]
      exact spec_res k (by rw [zeroC]; rfl)
  · have hE := ofE_not hs
    have k := s123_1 s (by rw [hE]; decide)
    rw [hE] at k
    unfold pofN pofE
    rw [beq_f hs]
    exact spec_res k (by rw [zeroC]; rfl)
theorem e123_ok : EntryOk Try.prog 123 e123 := by
  intro args ms r obs h ho
  unfold e123 at h
  split at h
  · cases h
    exact s123n _
  · cases h
theorem e124_ok : EntryOk Try.prog 124 (numsE [1] r97) := numsE_ok fun ns h hl => by
  obtain ⟨a, rfl⟩ := ns1 h
  have k := s124_1 a
  rw [nn_id (hl a (by simp))] at k
  exact k
def e122 : Entry := numsE [1] (nm1 fun a => V.bool (Nat.beq (a % 2) 1))
theorem e122_ok : EntryOk Try.prog 122 e122 := numsE_ok fun ns h hl => by
  obtain ⟨a, rfl⟩ := ns1 h
  have k := s122_1 a
  rw [nn_id (hl a (by simp)), show bitI a 0 = a % 2 from by rw [show (0 : Int) = ((0 : Nat) : Int) from rfl, bitI_low (by omega)]; simp, Nat.mod_eq_of_lt (a := a % 2) (b := 18446744073709551616) (by omega)] at k
  exact k
def e127 : Entry := numsE [1] (nm1 fun a => vN a)
theorem e127_ok : EntryOk Try.prog 127 e127 := numsE_ok fun ns h hl => by
  obtain ⟨a, rfl⟩ := ns1 h
  exact s127_1 a
/-- the number that is missing to p. -/
def negN (a : Nat) : Nat := bif Nat.beq a 0 then a else (57896044618658097711785492504343953926634992332820282019728792003956564819949 + (115792089237316195423570985008687907853269984665640564039457584007913129639936 - a)) % 115792089237316195423570985008687907853269984665640564039457584007913129639936
def e110 : Entry := numsE [1] (nm1 fun a => vN (negN a))
theorem numC_mod {n : Nat} {ρ : Env} (y : Value) : RW ρ (.agg (numC n)) y → RW ρ (.agg (numC (n % 115792089237316195423570985008687907853269984665640564039457584007913129639936))) y := by
  rw [← d4_num]
  exact rw_d4 y
theorem e110_ok : EntryOk Try.prog 110 e110 := numsE_ok fun ns h hl => by
  obtain ⟨a, rfl⟩ := ns1 h
  have na := nn_id (hl a (by simp))
  show Sx.Spec _ _ _ _ ⟨vN (negN a), [], []⟩
  unfold negN
  by_cases h0 : a = 0
  · subst h0
    exact s110_1 0 rfl
  · rw [beq_f h0]
    have k := s110_2 a (by rw [na, beq_f h0]; rfl)
    rw [na] at k
    exact Spec.resv (fun ρ y => rv_w (numC_mod y)) k
end Go.Proofs.Ytmjejlbmcefaoaa
namespace Go.Proofs.Ytmjejlbmcefaoaa
open Go Sx
def libp3 : List (Nat × Entry) := [(104, e104), (110, e110), (121, e121), (122, e122), (123, e123), (124, numsE [1] r97), (126, e126), (127, e127), (224, e224), (226, e226)] ++ libp2
theorem libp3_ok : AllOk Try.prog libp3 := .cons e104_ok (.cons e110_ok (.cons e121_ok (.cons e122_ok (.cons e123_ok (.cons e124_ok (.cons e126_ok (.cons e127_ok (.cons e224_ok (.cons e226_ok libp2_ok)))))))))

/-- numbers' words, in a row. -/
def rowN : List Nat → List Int
  | [] => []
  | n :: r => wd n 0 :: wd n 1 :: wd n 2 :: wd n 3 :: rowN r
theorem rowN_length : ∀ ns : List Nat, (rowN ns).length = 4 * ns.length
  | [] => rfl
  | n :: r => by simp only [rowN, List.length_cons, rowN_length r]; omega
theorem rowN_append : ∀ a b : List Nat, rowN (a ++ b) = rowN a ++ rowN b
  | [], b => rfl
  | n :: r, b => by simp only [List.cons_append, rowN, rowN_append r b]
theorem rowN_get : ∀ (ns : List Nat) (i j : Nat), i < ns.length → j < 4 → (rowN ns).getD (i * 4 + j) 0 = wd (ns.getD i 0) j
  | [], i, j, h, _ => by simp at h
  | n :: r, 0, j, _, hj => by
    rw [Nat.zero_mul, Nat.zero_add]
    match j, hj with
    | 0, _ => rfl
    | 1, _ => rfl
    | 2, _ => rfl
    | 3, _ => rfl
  | n :: r, i + 1, j, h, hj => by
    rw [show (i + 1) * 4 + j = i * 4 + j + 1 + 1 + 1 + 1 by omega]
    simp only [rowN, List.getD_cons_succ]
    exact rowN_get r i j (by simpa using h) hj
theorem rowN_cs {ρ : Env} : ∀ (ns : List Nat) (vs : List Value), RL (RC ρ) (numCs ns) vs → vs = (rowN ns).map (Value.int .u64)
  | [], vs, h => by cases h; rfl
  | n :: r, vs, h => by
    cases h with | cons x1 h => cases h with | cons x2 h => cases h with | cons x3 h => cases h with | cons x4 h =>
    simp only [rowN, List.map_cons]
    rw [wd0, wd1, wd2, wd3, show _ = _ from x1, show _ = _ from x2, show _ = _ from x3, show _ = _ from x4, rowN_cs r _ h]
/-- a row's numbers. -/
def unrow : List Int → List Nat
  | a :: b :: c :: d :: r => num4 a.toNat b.toNat c.toNat d.toNat :: unrow r
  | _ => []
def isW (x : Int) : Bool := decide (0 ≤ x) && decide (x < 18446744073709551616)
theorem unrow_length : ∀ (l : List Int) (n : Nat), l.length = 4 * n → (unrow l).length = n
  | a :: b :: c :: d :: r, n, h => by
    simp only [List.length_cons] at h
    simp only [unrow, List.length_cons]
    have := unrow_length r (n - 1) (by omega)
    omega
  | [], n, h => by show 0 = n; simp only [List.length_nil] at h; omega
  | [_], n, h => by simp at h; omega
  | [_, _], n, h => by simp at h; omega
  | [_, _, _], n, h => by simp at h; omega
theorem wd_num4 {a b c d : Nat} (ha : a < 18446744073709551616) (hb : b < 18446744073709551616) (hc : c < 18446744073709551616) (hd : d < 18446744073709551616) : wd (num4 a b c d) 0 = a ∧ wd (num4 a b c d) 1 = b ∧ wd (num4 a b c d) 2 = c ∧ wd (num4 a b c d) 3 = d ∧ num4 a b c d < P256 := by
  have h := num4_cells ha hb hc hd
  rw [wd0, wd1, wd2, wd3, h.1, h.2.1, h.2.2.1, h.2.2.2.1]
  exact ⟨rfl, rfl, rfl, rfl, h.2.2.2.2⟩
theorem isW_nat {x : Int} (h : isW x = true) : x.toNat < 18446744073709551616 ∧ (x.toNat : Int) = x := by
  simp only [isW, Bool.and_eq_true, decide_eq_true_eq] at h
  omega
theorem rowN_unrow : ∀ (l : List Int) (n : Nat), l.length = 4 * n → l.all isW = true → rowN (unrow l) = l ∧ ∀ n ∈ unrow l, n < P256
  | a :: b :: c :: d :: r, n, h, hw => by
    simp only [List.all_cons, Bool.and_eq_true] at hw
    obtain ⟨ha, hb, hc, hd, hr⟩ := hw
    obtain ⟨ha, ea⟩ := isW_nat ha
    obtain ⟨hb, eb⟩ := isW_nat hb
    obtain ⟨hc, ec⟩ := isW_nat hc
    obtain ⟨hd, ed⟩ := isW_nat hd
    obtain ⟨e0, e1, e2, e3, e4⟩ := wd_num4 ha hb hc hd
    simp only [List.length_cons] at h
    obtain ⟨i1, i2⟩ := rowN_unrow r (n - 1) (by omega) hr
    refine ⟨by simp only [unrow, rowN, e0, e1, e2, e3, ea, eb, ec, ed, i1], ?_⟩
    intro m hm
    simp only [unrow, List.mem_cons] at hm
    rcases hm with rfl | hm
    · exact e4
    · exact i2 m hm
  | [], n, h, _ => ⟨rfl, fun m hm => by cases hm⟩
  | [_], n, h, _ => by simp at h; omega
  | [_, _], n, h, _ => by simp at h; omega
  | [_, _, _], n, h, _ => by simp at h; omega
theorem isW_wd (n i : Nat) : isW (wd n i) = true := by
  have := wd_range n i
  simp only [isW, Bool.and_eq_true, decide_eq_true_eq]
  exact this
theorem unrow_rowN : ∀ ns : List Nat, (∀ n ∈ ns, n < P256) → unrow (rowN ns) = ns ∧ (rowN ns).all isW = true
  | [], _ => ⟨rfl, rfl⟩
  | n :: r, h => by
    obtain ⟨i1, i2⟩ := unrow_rowN r fun m hm => h m (List.mem_cons_of_mem _ hm)
    have e : num4 (wd n 0).toNat (wd n 1).toNat (wd n 2).toNat (wd n 3).toNat = n := by
      rw [wd0, wd1, wd2, wd3]
      simp only [Int.toNat_natCast]
      exact (nn_eq n).trans (Nat.mod_eq_of_lt (h n (List.mem_cons_self ..)))
    refine ⟨by simp only [rowN, unrow, e, i1], ?_⟩
    simp only [rowN, List.all_cons, isW_wd, Bool.true_and, i2]
/-- an entry over a slice of numbers. -/
def listE (R : List Nat → Res) : Entry := fun args ms =>
  match args, ms with
  | [.c (.sl 0 0 n)], [⟨_, .ro, .cs l⟩] => match nums l with
    | some (ns, o) => bif Nat.beq ns.length n && Nat.blt n 4096 then some (R ns, o) else none
    | none => none
  | [.c (.sl 0 0 n)], [⟨_, .ro, .ints .u64 l⟩] => some (R (unrow l), [Nat.beq l.length (4 * n), Nat.blt n 4096, l.all isW])
  | _, _ => none
theorem listE_ok {f : FuncId} {R : List Nat → Res} (hu : ∀ ns, (R ns).upd = []) (h : ∀ ns : List Nat, ns.length < 4096 → (∀ n ∈ ns, n < P256) → Sx.Spec Try.prog f [.c (.sl 0 0 ns.length)] [⟨0, .ro, .ints .u64 (rowN ns)⟩] (R ns)) : EntryOk Try.prog f (listE R) := by
  intro args ms r obs he ho
  unfold listE at he
  split at he
  · rename_i n ty l
    split at he
    · rename_i ns o hn
      cases hb : Nat.beq ns.length n && Nat.blt n 4096 with
      | false => simp [hb] at he
      | true =>
        simp only [hb, cond_true, Option.some.injEq, Prod.mk.injEq] at he
        obtain ⟨rfl, rfl⟩ := he
        rw [Bool.and_eq_true] at hb
        obtain ⟨hb, hc⟩ := hb
        have hb := Nat.beq_eq.mp hb
        have hc := Nat.blt_eq.mp hc
        subst hb
        obtain ⟨h1, h2, h3⟩ := nums_ok hn ho
        refine Spec.ro (hu ns) (nums_ids hn) (by simp only [K.len, h2, rowN_length]) (fun ρ read hk => ?_) (h ns hc h1)
        obtain ⟨vs, hl, hv, hi⟩ := K.Is.list hk
        have := rowN_cs ns vs (h3 ρ vs ((K.Is.congr_cs hl).1 hi) ρ)
        have hl2 : vs.length = (rowN ns).length := by rw [this, List.length_map]
        refine ((K.Is.congr_ints hl2).2 this).read fun i y _ hy => hv i y hy
    · cases he
  · rename_i n ty l
    simp only [Option.some.injEq, Prod.mk.injEq] at he
    obtain ⟨rfl, rfl⟩ := he
    have h1 := Nat.beq_eq.mp (ho _ (List.mem_cons_self ..))
    have h2 := Nat.blt_eq.mp (ho _ (List.mem_cons_of_mem _ (List.mem_cons_self ..)))
    have h3 := ho _ (List.mem_cons_of_mem _ (List.mem_cons_of_mem _ (List.mem_cons_self ..)))
    obtain ⟨e1, e2⟩ := rowN_unrow l n h1 h3
    have hl := unrow_length l n h1
    have k := h (unrow l) (by omega) e2
    rw [e1, hl] at k
    exact Spec.ro (hu _) rfl rfl (fun _ _ h => h) k
  · cases he
theorem row_el {ns : List Nat} {i : Nat} (hi : i < ns.length) : num4 (Int.toNat (List.getD (rowN ns) (spot 0 (Int.toNat (i : Int)) 4 + 0) 0)) (Int.toNat (List.getD (rowN ns) (spot 0 (Int.toNat (i : Int)) 4 + 1) 0)) (Int.toNat (List.getD (rowN ns) (spot 0 (Int.toNat (i : Int)) 4 + 2) 0)) (Int.toNat (List.getD (rowN ns) (spot 0 (Int.toNat (i : Int)) 4 + 3) 0)) = nn (ns.getD i 0) := by
  rw [Int.toNat_natCast, show spot 0 i 4 = i * 4 from rfl, rowN_get ns i 0 hi (by omega), rowN_get ns i 1 hi (by omega), rowN_get ns i 2 hi (by omega), rowN_get ns i 3 hi (by omega), wd0, wd1, wd2, wd3]
  simp only [Int.toNat_natCast]
  rfl
theorem row_in {ns : List Nat} {i : Nat} (hi : i < ns.length) (j : Nat) (hj : j < 4) : spot 0 (Int.toNat (i : Int)) 4 + j < (rowN ns).length := by
  rw [Int.toNat_natCast, show spot 0 i 4 = i * 4 from rfl, rowN_length]
  omega
theorem row_w {ns : List Nat} {i : Nat} (hi : i < ns.length) (j : Nat) (hj : j < 4) : (decide (0 ≤ List.getD (rowN ns) (spot 0 (Int.toNat (i : Int)) 4 + j) 0) && decide (List.getD (rowN ns) (spot 0 (Int.toNat (i : Int)) 4 + j) 0 < 18446744073709551616)) = true := by
  rw [Int.toNat_natCast, show spot 0 i 4 = i * 4 from rfl, rowN_get ns i j hi hj]
  exact isW_wd _ _
noncomputable def s113k0 : List Item := kAt Try.prog (tab libp3) Try.f113 [] 0 [W.c (C.sl 0 0 1)] [Blk.mk 1 Mode.ro (K.ints IntKind.u64 [0])]
noncomputable def s113st0 (t : Nat) (n : Nat) (l : List Int) (t10 : Int) (b2_0 : Nat) (b2_1 : Nat) (b2_2 : Nat) (b2_3 : Nat) : Cfg := cfg s113k0 [2, 3, 8, 9, 10] [V.w (W.c (C.ptr 1 0)), V.w (W.c (C.ptr 2 0)), V.w (W.c (C.sl 0 0 n)), V.int IntKind.i64 (↑n : Int), V.int IntKind.i64 t10] [Blk.mk t Mode.ro (K.ints IntKind.u64 l), Blk.mk 106 Mode.rw (K.cs [C.u 0, C.u 0, C.u 0, C.u 0]), Blk.mk 106 Mode.rw (K.cs [C.u b2_0, C.u b2_1, C.u b2_2, C.u b2_3])]
theorem s113_1 {ρ : Env} {w : World} {r : Res} (t : Nat) (n : Nat) (l : List Int) (hg : G (mkX Try.prog (tab libp3) Try.f113 [Blk.mk t Mode.ro (K.ints IntKind.u64 l)] ρ w r) (s113st0 t (n) (l) (0) (0) (0) (0) (0))) : G (mkX Try.prog (tab libp3) Try.f113 [Blk.mk t Mode.ro (K.ints IntKind.u64 l)] ρ w r) (cfg [.code (Try.f113.body.getD .skip)] (List.range 1) ([W.c (C.sl 0 0 n)].map V.w) [Blk.mk t Mode.ro (K.ints IntKind.u64 l)]) :=
  G.seg (X := mkX Try.prog (tab libp3) Try.f113 [Blk.mk t Mode.ro (K.ints IntKind.u64 l)] ρ w r) ⟨tab_ok libp3_ok, mixed⟩ [] 1000000 0 [2, 3, 8, 9, 10] [(0, none), (1, none), (5, none)] (k := s113k0) (vs := [V.w (W.c (C.ptr 1 0)), V.w (W.c (C.ptr 2 0)), V.w (W.c (C.sl 0 0 n)), V.int IntKind.i64 (↑n : Int), V.int IntKind.i64 0]) (bs := [Blk.mk t Mode.ro (K.ints IntKind.u64 l), Blk.mk 106 Mode.rw (K.cs [C.u 0, C.u 0, C.u 0, C.u 0]), Blk.mk 106 Mode.rw (K.cs [C.u 0, C.u 0, C.u 0, C.u 0])]) (by kernel_rfl) (by kernel_rfl)
    onil hg
theorem s113_2 {ρ : Env} {w : World} {r : Res} (t : Nat) (n : Nat) (l : List Int) (t10 : Int) (b2_0 : Nat) (b2_1 : Nat) (b2_2 : Nat) (b2_3 : Nat) (h1 : t10 < (↑n : Int)) (h2 : 0 ≤ t10) (h3 : spot 0 (Int.toNat t10) 4 + 0 < List.length l) (h4 : spot 0 (Int.toNat t10) 4 + 1 < List.length l) (h5 : spot 0 (Int.toNat t10) 4 + 2 < List.length l) (h6 : spot 0 (Int.toNat t10) 4 + 3 < List.length l) (h7 : (decide (0 ≤ List.getD l (spot 0 (Int.toNat t10) 4 + 0) 0) && decide (List.getD l (spot 0 (Int.toNat t10) 4 + 0) 0 < 18446744073709551616)) = true) (h8 : (decide (0 ≤ List.getD l (spot 0 (Int.toNat t10) 4 + 1) 0) && decide (List.getD l (spot 0 (Int.toNat t10) 4 + 1) 0 < 18446744073709551616)) = true) (h9 : (decide (0 ≤ List.getD l (spot 0 (Int.toNat t10) 4 + 2) 0) && decide (List.getD l (spot 0 (Int.toNat t10) 4 + 2) 0 < 18446744073709551616)) = true) (h10 : (decide (0 ≤ List.getD l (spot 0 (Int.toNat t10) 4 + 3) 0) && decide (List.getD l (spot 0 (Int.toNat t10) 4 + 3) 0 < 18446744073709551616)) = true) (hg : G (mkX Try.prog (tab libp3) Try.f113 [Blk.mk t Mode.ro (K.ints IntKind.u64 l)] ρ w r) (s113st0 t (n) (l) (IntKind.wrap IntKind.i64 (t10 + 1)) (nn (num4 (b2_0 % 18446744073709551616) (b2_1 % 18446744073709551616) (b2_2 % 18446744073709551616) (b2_3 % 18446744073709551616) + num4 (Int.toNat (List.getD l (spot 0 (Int.toNat t10) 4 + 0) 0)) (Int.toNat (List.getD l (spot 0 (Int.toNat t10) 4 + 1) 0)) (Int.toNat (List.getD l (spot 0 (Int.toNat t10) 4 + 2) 0)) (Int.toNat (List.getD l (spot 0 (Int.toNat t10) 4 + 3) 0))) % 57896044618658097711785492504343953926634992332820282019728792003956564819949) (nn (num4 (b2_0 % 18446744073709551616) (b2_1 % 18446744073709551616) (b2_2 % 18446744073709551616) (b2_3 % 18446744073709551616) + num4 (Int.toNat (List.getD l (spot 0 (Int.toNat t10) 4 + 0) 0)) (Int.toNat (List.getD l (spot 0 (Int.toNat t10) 4 + 1) 0)) (Int.toNat (List.getD l (spot 0 (Int.toNat t10) 4 + 2) 0)) (Int.toNat (List.getD l (spot 0 (Int.toNat t10) 4 + 3) 0))) % 57896044618658097711785492504343953926634992332820282019728792003956564819949 / 18446744073709551616) (nn (num4 (b2_0 % 18446744073709551616) (b2_1 % 18446744073709551616) (b2_2 % 18446744073709551616) (b2_3 % 18446744073709551616) + num4 (Int.toNat (List.getD l (spot 0 (Int.toNat t10) 4 + 0) 0)) (Int.toNat (List.getD l (spot 0 (Int.toNat t10) 4 + 1) 0)) (Int.toNat (List.getD l (spot 0 (Int.toNat t10) 4 + 2) 0)) (Int.toNat (List.getD l (spot 0 (Int.toNat t10) 4 + 3) 0))) % 57896044618658097711785492504343953926634992332820282019728792003956564819949 / 340282366920938463463374607431768211456) (nn (num4 (b2_0 % 18446744073709551616) (b2_1 % 18446744073709551616) (b2_2 % 18446744073709551616) (b2_3 % 18446744073709551616) + num4 (Int.toNat (List.getD l (spot 0 (Int.toNat t10) 4 + 0) 0)) (Int.toNat (List.getD l (spot 0 (Int.toNat t10) 4 + 1) 0)) (Int.toNat (List.getD l (spot 0 (Int.toNat t10) 4 + 2) 0)) (Int.toNat (List.getD l (spot 0 (Int.toNat t10) 4 + 3) 0))) % 57896044618658097711785492504343953926634992332820282019728792003956564819949 / 6277101735386680763835789423207666416102355444464034512896))) : G (mkX Try.prog (tab libp3) Try.f113 [Blk.mk t Mode.ro (K.ints IntKind.u64 l)] ρ w r) (s113st0 t n l t10 b2_0 b2_1 b2_2 b2_3) :=
  G.seg (X := mkX Try.prog (tab libp3) Try.f113 [Blk.mk t Mode.ro (K.ints IntKind.u64 l)] ρ w r) ⟨tab_ok libp3_ok, mixed⟩ [(11, true)] 1000000 0 [2, 3, 8, 9, 10] [(0, none), (1, none), (2, none)] (k := s113k0) (vs := [V.w (W.c (C.ptr 1 0)), V.w (W.c (C.ptr 2 0)), V.w (W.c (C.sl 0 0 n)), V.int IntKind.i64 (↑n : Int), V.int IntKind.i64 (IntKind.wrap IntKind.i64 (t10 + 1))]) (bs := [Blk.mk t Mode.ro (K.ints IntKind.u64 l), Blk.mk 106 Mode.rw (K.cs [C.u 0, C.u 0, C.u 0, C.u 0]), Blk.mk 106 Mode.rw (K.cs (numC (nn (num4 (b2_0 % 18446744073709551616) (b2_1 % 18446744073709551616) (b2_2 % 18446744073709551616) (b2_3 % 18446744073709551616) + num4 (Int.toNat (List.getD l (spot 0 (Int.toNat t10) 4 + 0) 0)) (Int.toNat (List.getD l (spot 0 (Int.toNat t10) 4 + 1) 0)) (Int.toNat (List.getD l (spot 0 (Int.toNat t10) 4 + 2) 0)) (Int.toNat (List.getD l (spot 0 (Int.toNat t10) 4 + 3) 0))) % 57896044618658097711785492504343953926634992332820282019728792003956564819949)))]) (by kernel_rfl) (by kernel_rfl)
    (ocons (decide_eq_true h1) (ocons (decide_eq_true h2) (ocons (decide_eq_true h1) (ocons (bltT h3) (ocons (bltT h4) (ocons (bltT h5) (ocons (bltT h6) (ocons rfl (ocons h7 (ocons h8 (ocons h9 (ocons h10 (ocons rfl (ocons rfl onil)))))))))))))) hg
theorem s113_3 {ρ : Env} {w : World} (t : Nat) (n : Nat) (l : List Int) (t10 : Int) (b2_0 : Nat) (b2_1 : Nat) (b2_2 : Nat) (b2_3 : Nat) (h1 : ¬t10 < (↑n : Int)) : G (mkX Try.prog (tab libp3) Try.f113 [Blk.mk t Mode.ro (K.ints IntKind.u64 l)] ρ w ⟨V.w (W.agg [C.u b2_0, C.u b2_1, C.u b2_2, C.u b2_3]), [], []⟩) (s113st0 t n l t10 b2_0 b2_1 b2_2 b2_3) :=
  G.ends (tab_ok libp3_ok) mixed [(11, false)] 1000000 [(0, none)] (by kernel_rfl) (by kernel_rfl) (by kernel_rfl) (by kernel_rfl)
    (ocons (ndec h1) (ocons rfl onil))

noncomputable def s111k0 : List Item := kAt Try.prog (tab libp3) Try.f111 [] 0 [W.c (C.sl 0 0 1)] [Blk.mk 1 Mode.ro (K.ints IntKind.u64 [0])]
noncomputable def s111st0 (t : Nat) (n : Nat) (l : List Int) (t9 : Int) (b2_0 : Nat) (b2_1 : Nat) (b2_2 : Nat) (b2_3 : Nat) : Cfg := cfg s111k0 [2, 3, 7, 8, 9] [V.w (W.c (C.ptr 1 0)), V.w (W.c (C.ptr 2 0)), V.w (W.c (C.sl 0 0 n)), V.int IntKind.i64 (↑n : Int), V.int IntKind.i64 t9] [Blk.mk t Mode.ro (K.ints IntKind.u64 l), Blk.mk 106 Mode.rw (K.cs [C.u 0, C.u 0, C.u 0, C.u 0]), Blk.mk 106 Mode.rw (K.cs [C.u b2_0, C.u b2_1, C.u b2_2, C.u b2_3])]
theorem s111_1 {ρ : Env} {w : World} {r : Res} (t : Nat) (n : Nat) (l : List Int) (hg : G (mkX Try.prog (tab libp3) Try.f111 [Blk.mk t Mode.ro (K.ints IntKind.u64 l)] ρ w r) (s111st0 t (n) (l) (0) (1) (0) (0) (0))) : G (mkX Try.prog (tab libp3) Try.f111 [Blk.mk t Mode.ro (K.ints IntKind.u64 l)] ρ w r) (cfg [.code (Try.f111.body.getD .skip)] (List.range 1) ([W.c (C.sl 0 0 n)].map V.w) [Blk.mk t Mode.ro (K.ints IntKind.u64 l)]) :=
  G.seg (X := mkX Try.prog (tab libp3) Try.f111 [Blk.mk t Mode.ro (K.ints IntKind.u64 l)] ρ w r) ⟨tab_ok libp3_ok, mixed⟩ [] 1000000 0 [2, 3, 7, 8, 9] [(0, none), (1, none), (9, none)] (k := s111k0) (vs := [V.w (W.c (C.ptr 1 0)), V.w (W.c (C.ptr 2 0)), V.w (W.c (C.sl 0 0 n)), V.int IntKind.i64 (↑n : Int), V.int IntKind.i64 0]) (bs := [Blk.mk t Mode.ro (K.ints IntKind.u64 l), Blk.mk 106 Mode.rw (K.cs [C.u 0, C.u 0, C.u 0, C.u 0]), Blk.mk 106 Mode.rw (K.cs [C.u 1, C.u 0, C.u 0, C.u 0])]) (by kernel_rfl) (by kernel_rfl)
    (ocons rfl (ocons rfl onil)) hg
theorem s111_2 {ρ : Env} {w : World} {r : Res} (t : Nat) (n : Nat) (l : List Int) (t9 : Int) (b2_0 : Nat) (b2_1 : Nat) (b2_2 : Nat) (b2_3 : Nat) (h1 : t9 < (↑n : Int)) (h2 : 0 ≤ t9) (h3 : spot 0 (Int.toNat t9) 4 + 0 < List.length l) (h4 : spot 0 (Int.toNat t9) 4 + 1 < List.length l) (h5 : spot 0 (Int.toNat t9) 4 + 2 < List.length l) (h6 : spot 0 (Int.toNat t9) 4 + 3 < List.length l) (h7 : (decide (0 ≤ List.getD l (spot 0 (Int.toNat t9) 4 + 0) 0) && decide (List.getD l (spot 0 (Int.toNat t9) 4 + 0) 0 < 18446744073709551616)) = true) (h8 : (decide (0 ≤ List.getD l (spot 0 (Int.toNat t9) 4 + 1) 0) && decide (List.getD l (spot 0 (Int.toNat t9) 4 + 1) 0 < 18446744073709551616)) = true) (h9 : (decide (0 ≤ List.getD l (spot 0 (Int.toNat t9) 4 + 2) 0) && decide (List.getD l (spot 0 (Int.toNat t9) 4 + 2) 0 < 18446744073709551616)) = true) (h10 : (decide (0 ≤ List.getD l (spot 0 (Int.toNat t9) 4 + 3) 0) && decide (List.getD l (spot 0 (Int.toNat t9) 4 + 3) 0 < 18446744073709551616)) = true) (hg : G (mkX Try.prog (tab libp3) Try.f111 [Blk.mk t Mode.ro (K.ints IntKind.u64 l)] ρ w r) (s111st0 t (n) (l) (IntKind.wrap IntKind.i64 (t9 + 1)) (num4 (b2_0 % 18446744073709551616) (b2_1 % 18446744073709551616) (b2_2 % 18446744073709551616) (b2_3 % 18446744073709551616) * num4 (Int.toNat (List.getD l (spot 0 (Int.toNat t9) 4 + 0) 0)) (Int.toNat (List.getD l (spot 0 (Int.toNat t9) 4 + 1) 0)) (Int.toNat (List.getD l (spot 0 (Int.toNat t9) 4 + 2) 0)) (Int.toNat (List.getD l (spot 0 (Int.toNat t9) 4 + 3) 0)) % 57896044618658097711785492504343953926634992332820282019728792003956564819949) (num4 (b2_0 % 18446744073709551616) (b2_1 % 18446744073709551616) (b2_2 % 18446744073709551616) (b2_3 % 18446744073709551616) * num4 (Int.toNat (List.getD l (spot 0 (Int.toNat t9) 4 + 0) 0)) (Int.toNat (List.getD l (spot 0 (Int.toNat t9) 4 + 1) 0)) (Int.toNat (List.getD l (spot 0 (Int.toNat t9) 4 + 2) 0)) (Int.toNat (List.getD l (spot 0 (Int.toNat t9) 4 + 3) 0)) % 57896044618658097711785492504343953926634992332820282019728792003956564819949 / 18446744073709551616) (num4 (b2_0 % 18446744073709551616) (b2_1 % 18446744073709551616) (b2_2 % 18446744073709551616) (b2_3 % 18446744073709551616) * num4 (Int.toNat (List.getD l (spot 0 (Int.toNat t9) 4 + 0) 0)) (Int.toNat (List.getD l (spot 0 (Int.toNat t9) 4 + 1) 0)) (Int.toNat (List.getD l (spot 0 (Int.toNat t9) 4 + 2) 0)) (Int.toNat (List.getD l (spot 0 (Int.toNat t9) 4 + 3) 0)) % 57896044618658097711785492504343953926634992332820282019728792003956564819949 / 340282366920938463463374607431768211456) (num4 (b2_0 % 18446744073709551616) (b2_1 % 18446744073709551616) (b2_2 % 18446744073709551616) (b2_3 % 18446744073709551616) * num4 (Int.toNat (List.getD l (spot 0 (Int.toNat t9) 4 + 0) 0)) (Int.toNat (List.getD l (spot 0 (Int.toNat t9) 4 + 1) 0)) (Int.toNat (List.getD l (spot 0 (Int.toNat t9) 4 + 2) 0)) (Int.toNat (List.getD l (spot 0 (Int.toNat t9) 4 + 3) 0)) % 57896044618658097711785492504343953926634992332820282019728792003956564819949 / 6277101735386680763835789423207666416102355444464034512896))) : G (mkX Try.prog (tab libp3) Try.f111 [Blk.mk t Mode.ro (K.ints IntKind.u64 l)] ρ w r) (s111st0 t n l t9 b2_0 b2_1 b2_2 b2_3) :=
  G.seg (X := mkX Try.prog (tab libp3) Try.f111 [Blk.mk t Mode.ro (K.ints IntKind.u64 l)] ρ w r) ⟨tab_ok libp3_ok, mixed⟩ [(10, true)] 1000000 0 [2, 3, 7, 8, 9] [(0, none), (1, none), (2, none)] (k := s111k0) (vs := [V.w (W.c (C.ptr 1 0)), V.w (W.c (C.ptr 2 0)), V.w (W.c (C.sl 0 0 n)), V.int IntKind.i64 (↑n : Int), V.int IntKind.i64 (IntKind.wrap IntKind.i64 (t9 + 1))]) (bs := [Blk.mk t Mode.ro (K.ints IntKind.u64 l), Blk.mk 106 Mode.rw (K.cs [C.u 0, C.u 0, C.u 0, C.u 0]), Blk.mk 106 Mode.rw (K.cs (numC (num4 (b2_0 % 18446744073709551616) (b2_1 % 18446744073709551616) (b2_2 % 18446744073709551616) (b2_3 % 18446744073709551616) * num4 (Int.toNat (List.getD l (spot 0 (Int.toNat t9) 4 + 0) 0)) (Int.toNat (List.getD l (spot 0 (Int.toNat t9) 4 + 1) 0)) (Int.toNat (List.getD l (spot 0 (Int.toNat t9) 4 + 2) 0)) (Int.toNat (List.getD l (spot 0 (Int.toNat t9) 4 + 3) 0)) % 57896044618658097711785492504343953926634992332820282019728792003956564819949)))]) (by kernel_rfl) (by kernel_rfl)
    (ocons (decide_eq_true h1) (ocons (decide_eq_true h2) (ocons (decide_eq_true h1) (ocons (bltT h3) (ocons (bltT h4) (ocons (bltT h5) (ocons (bltT h6) (ocons rfl (ocons h7 (ocons h8 (ocons h9 (ocons h10 (ocons rfl onil))))))))))))) hg
theorem s111_3 {ρ : Env} {w : World} (t : Nat) (n : Nat) (l : List Int) (t9 : Int) (b2_0 : Nat) (b2_1 : Nat) (b2_2 : Nat) (b2_3 : Nat) (h1 : ¬t9 < (↑n : Int)) : G (mkX Try.prog (tab libp3) Try.f111 [Blk.mk t Mode.ro (K.ints IntKind.u64 l)] ρ w ⟨V.w (W.agg [C.u b2_0, C.u b2_1, C.u b2_2, C.u b2_3]), [], []⟩) (s111st0 t n l t9 b2_0 b2_1 b2_2 b2_3) :=
  G.ends (tab_ok libp3_ok) mixed [(10, false)] 1000000 [(0, none)] (by kernel_rfl) (by kernel_rfl) (by kernel_rfl) (by kernel_rfl)
    (ocons (ndec h1) (ocons rfl onil))


/-- numbers added, and multiplied, as prime does it. -/
def addS (a b : Nat) : Nat := nn (a + nn b) % 57896044618658097711785492504343953926634992332820282019728792003956564819949
def mulS (a b : Nat) : Nat := a * nn b % 57896044618658097711785492504343953926634992332820282019728792003956564819949
def addP (ns : List Nat) : Nat := ns.foldl addS 0
def mulP (ns : List Nat) : Nat := ns.foldl mulS 1
theorem fold_step {f : Nat → Nat → Nat} {ns : List Nat} {i z : Nat} (hi : i < ns.length) : f ((ns.take i).foldl f z) (ns.getD i 0) = (ns.take (i + 1)).foldl f z := by
  rw [List.take_add_one, List.foldl_append]
  simp [hi]
def e113 : Entry := listE fun ns => ⟨vN (addP ns), [], []⟩
theorem e113_ok : EntryOk Try.prog 113 e113 := listE_ok (fun _ => rfl) fun ns hl h256 => by
  refine spec_body (tab := tab libp3) Try.func113 (by kernel_rfl) (by kernel_rfl) (by kernel_rfl) fun ρ w => ?_
  refine s113_1 0 _ _ ?_
  have key : ∀ (f i : Nat), i + f = ns.length → ∀ c0 c1 c2 c3, d4 c0 c1 c2 c3 = (ns.take i).foldl addS 0 → (ns.take i).foldl addS 0 < 57896044618658097711785492504343953926634992332820282019728792003956564819949 → G (mkX Try.prog (tab libp3) Try.f113 [⟨0, .ro, .ints .u64 (rowN ns)⟩] ρ w ⟨vN (addP ns), [], []⟩) (s113st0 0 ns.length (rowN ns) (i : Int) c0 c1 c2 c3) := by
    intro f
    induction f with
    | zero =>
      intro i hi c0 c1 c2 c3 hc hlt
      rw [Nat.add_zero] at hi
      subst hi
      rw [List.take_length] at hc
      refine G.resv (r := ⟨.w (.agg [.u c0, .u c1, .u c2, .u c3]), [], []⟩) (fun ρ y h => ?_) (s113_3 0 _ _ _ c0 c1 c2 c3 (by omega))
      rw [show addP ns = _ from hc.symm]
      exact rw_d4 y h
    | succ f ih =>
      intro i hi c0 c1 c2 c3 hc hlt
      have hin : i < ns.length := by omega
      refine s113_2 0 _ _ _ c0 c1 c2 c3 (by omega) (by omega) (row_in hin 0 (by omega)) (row_in hin 1 (by omega)) (row_in hin 2 (by omega)) (row_in hin 3 (by omega)) (row_w hin 0 (by omega)) (row_w hin 1 (by omega)) (row_w hin 2 (by omega)) (row_w hin 3 (by omega)) ?_
      rw [row_el hin, show num4 (c0 % 18446744073709551616) (c1 % 18446744073709551616) (c2 % 18446744073709551616) (c3 % 18446744073709551616) = d4 c0 c1 c2 c3 from rfl, hc, show IntKind.wrap .i64 ((i : Int) + 1) = ((i + 1 : Nat) : Int) by rw [i64w] <;> omega]
      have hs := fold_step (f := addS) (z := 0) hin
      have hb : (ns.take (i + 1)).foldl addS 0 < 57896044618658097711785492504343953926634992332820282019728792003956564819949 := by
        rw [← hs]
        exact Nat.mod_lt _ (by decide)
      refine ih (i + 1) (by omega) _ _ _ _ ?_ hb
      rw [d4_num, ← hs]
      exact Nat.mod_eq_of_lt (Nat.lt_trans (show addS _ _ < 57896044618658097711785492504343953926634992332820282019728792003956564819949 from Nat.mod_lt _ (by decide)) (by decide))
  exact key ns.length 0 (by omega) 0 0 0 0 (show d4 0 0 0 0 = 0 by decide) (show 0 < 57896044618658097711785492504343953926634992332820282019728792003956564819949 by decide)
def e111 : Entry := listE fun ns => ⟨vN (mulP ns), [], []⟩
theorem e111_ok : EntryOk Try.prog 111 e111 := listE_ok (fun _ => rfl) fun ns hl h256 => by
  refine spec_body (tab := tab libp3) Try.func111 (by kernel_rfl) (by kernel_rfl) (by kernel_rfl) fun ρ w => ?_
  refine s111_1 0 _ _ ?_
  have key : ∀ (f i : Nat), i + f = ns.length → ∀ c0 c1 c2 c3, d4 c0 c1 c2 c3 = (ns.take i).foldl mulS 1 → (ns.take i).foldl mulS 1 < 57896044618658097711785492504343953926634992332820282019728792003956564819949 → G (mkX Try.prog (tab libp3) Try.f111 [⟨0, .ro, .ints .u64 (rowN ns)⟩] ρ w ⟨vN (mulP ns), [], []⟩) (s111st0 0 ns.length (rowN ns) (i : Int) c0 c1 c2 c3) := by
    intro f
    induction f with
    | zero =>
      intro i hi c0 c1 c2 c3 hc hlt
      rw [Nat.add_zero] at hi
      subst hi
      rw [List.take_length] at hc
      refine G.resv (r := ⟨.w (.agg [.u c0, .u c1, .u c2, .u c3]), [], []⟩) (fun ρ y h => ?_) (s111_3 0 _ _ _ c0 c1 c2 c3 (by omega))
      rw [show mulP ns = _ from hc.symm]
      exact rw_d4 y h
    | succ f ih =>
      intro i hi c0 c1 c2 c3 hc hlt
      have hin : i < ns.length := by omega
      refine s111_2 0 _ _ _ c0 c1 c2 c3 (by omega) (by omega) (row_in hin 0 (by omega)) (row_in hin 1 (by omega)) (row_in hin 2 (by omega)) (row_in hin 3 (by omega)) (row_w hin 0 (by omega)) (row_w hin 1 (by omega)) (row_w hin 2 (by omega)) (row_w hin 3 (by omega)) ?_
      rw [row_el hin, show num4 (c0 % 18446744073709551616) (c1 % 18446744073709551616) (c2 % 18446744073709551616) (c3 % 18446744073709551616) = d4 c0 c1 c2 c3 from rfl, hc, show IntKind.wrap .i64 ((i : Int) + 1) = ((i + 1 : Nat) : Int) by rw [i64w] <;> omega]
      have hs := fold_step (f := mulS) (z := 1) hin
      have hb : (ns.take (i + 1)).foldl mulS 1 < 57896044618658097711785492504343953926634992332820282019728792003956564819949 := by
        rw [← hs]
        exact Nat.mod_lt _ (by decide)
      refine ih (i + 1) (by omega) _ _ _ _ ?_ hb
      rw [d4_num, ← hs]
      exact Nat.mod_eq_of_lt (Nat.lt_trans (show mulS _ _ < 57896044618658097711785492504343953926634992332820282019728792003956564819949 from Nat.mod_lt _ (by decide)) (by decide))
  exact key ns.length 0 (by omega) 1 0 0 0 (show d4 1 0 0 0 = 1 by decide) (show 1 < 57896044618658097711785492504343953926634992332820282019728792003956564819949 by decide)
end Go.Proofs.Ytmjejlbmcefaoaa
namespace Go.Proofs.Ytmjejlbmcefaoaa
open Go Sx
def libp4 : List (Nat × Entry) := [(111, roE [.words] e111), (113, roE [.words] e113)] ++ libp3
theorem libp4_ok : AllOk Try.prog libp4 := .cons (roE_ok e111_ok) (.cons (roE_ok e113_ok) libp3_ok)
noncomputable def s118k0 : List Item := kAt Try.prog (tab libp4) Try.f118 [] 0 [W.agg [C.u 1, C.u 0, C.u 0, C.u 0], W.agg [C.u 1, C.u 0, C.u 0, C.u 0]] []
noncomputable def s118st0 (a : Nat) (k : Nat) (t6 : Int) (b3_0 : Nat) (b3_1 : Nat) (b3_2 : Nat) (b3_3 : Nat) : Cfg := cfg s118k0 [2, 3, 4, 5, 6] [V.w (W.c (C.ptr 0 0)), V.w (W.c (C.ptr 1 0)), V.w (W.c (C.ptr 2 0)), V.w (W.c (C.ptr 3 0)), V.int IntKind.i64 t6] [Blk.mk 106 Mode.rw (K.cs (numC a)), Blk.mk 80 Mode.rw (K.cs (numC k)), Blk.mk 106 Mode.rw (K.cs [C.u 0, C.u 0, C.u 0, C.u 0]), Blk.mk 106 Mode.rw (K.cs [C.u b3_0, C.u b3_1, C.u b3_2, C.u b3_3])]
theorem s118_1 {ρ : Env} {w : World} {r : Res} (a : Nat) (k : Nat) (hg : G (mkX Try.prog (tab libp4) Try.f118 [] ρ w r) (s118st0 (a) (k) (IntKind.wrap IntKind.i64 (lenI (↑(nn k) : Int) - 1)) (1) (0) (0) (0))) : G (mkX Try.prog (tab libp4) Try.f118 [] ρ w r) (cfg [.code (Try.f118.body.getD .skip)] (List.range 2) ([W.agg (numC a), W.agg (numC k)].map V.w) []) :=
  G.seg (X := mkX Try.prog (tab libp4) Try.f118 [] ρ w r) ⟨tab_ok libp4_ok, mixed⟩ [] 1000000 0 [2, 3, 4, 5, 6] [(0, none), (4, none), (8, none), (16, none)] (k := s118k0) (vs := [V.w (W.c (C.ptr 0 0)), V.w (W.c (C.ptr 1 0)), V.w (W.c (C.ptr 2 0)), V.w (W.c (C.ptr 3 0)), V.int IntKind.i64 (IntKind.wrap IntKind.i64 (lenI (↑(nn k) : Int) - 1))]) (bs := [Blk.mk 106 Mode.rw (K.cs (numC a)), Blk.mk 80 Mode.rw (K.cs (numC k)), Blk.mk 106 Mode.rw (K.cs [C.u 0, C.u 0, C.u 0, C.u 0]), Blk.mk 106 Mode.rw (K.cs [C.u 1, C.u 0, C.u 0, C.u 0])]) (by kernel_rfl) (by kernel_rfl)
    (ocons rfl (ocons rfl onil)) hg
theorem s118_2 {ρ : Env} {w : World} {r : Res} (a : Nat) (k : Nat) (t6 : Int) (b3_0 : Nat) (b3_1 : Nat) (b3_2 : Nat) (b3_3 : Nat) (h1 : t6 ≥ 0) (h2 : (bif true then Nat.beq (bitI (nn k) t6 % 18446744073709551616) 1 else false) = true) (hg : G (mkX Try.prog (tab libp4) Try.f118 [] ρ w r) (s118st0 (a) (k) (IntKind.wrap IntKind.i64 (t6 - 1)) (nn (num4 (b3_0 % 18446744073709551616) (b3_1 % 18446744073709551616) (b3_2 % 18446744073709551616) (b3_3 % 18446744073709551616) * num4 (b3_0 % 18446744073709551616) (b3_1 % 18446744073709551616) (b3_2 % 18446744073709551616) (b3_3 % 18446744073709551616) % 57896044618658097711785492504343953926634992332820282019728792003956564819949) * nn a % 57896044618658097711785492504343953926634992332820282019728792003956564819949) (nn (num4 (b3_0 % 18446744073709551616) (b3_1 % 18446744073709551616) (b3_2 % 18446744073709551616) (b3_3 % 18446744073709551616) * num4 (b3_0 % 18446744073709551616) (b3_1 % 18446744073709551616) (b3_2 % 18446744073709551616) (b3_3 % 18446744073709551616) % 57896044618658097711785492504343953926634992332820282019728792003956564819949) * nn a % 57896044618658097711785492504343953926634992332820282019728792003956564819949 / 18446744073709551616) (nn (num4 (b3_0 % 18446744073709551616) (b3_1 % 18446744073709551616) (b3_2 % 18446744073709551616) (b3_3 % 18446744073709551616) * num4 (b3_0 % 18446744073709551616) (b3_1 % 18446744073709551616) (b3_2 % 18446744073709551616) (b3_3 % 18446744073709551616) % 57896044618658097711785492504343953926634992332820282019728792003956564819949) * nn a % 57896044618658097711785492504343953926634992332820282019728792003956564819949 / 340282366920938463463374607431768211456) (nn (num4 (b3_0 % 18446744073709551616) (b3_1 % 18446744073709551616) (b3_2 % 18446744073709551616) (b3_3 % 18446744073709551616) * num4 (b3_0 % 18446744073709551616) (b3_1 % 18446744073709551616) (b3_2 % 18446744073709551616) (b3_3 % 18446744073709551616) % 57896044618658097711785492504343953926634992332820282019728792003956564819949) * nn a % 57896044618658097711785492504343953926634992332820282019728792003956564819949 / 6277101735386680763835789423207666416102355444464034512896))) : G (mkX Try.prog (tab libp4) Try.f118 [] ρ w r) (s118st0 a k t6 b3_0 b3_1 b3_2 b3_3) :=
  G.seg (X := mkX Try.prog (tab libp4) Try.f118 [] ρ w r) ⟨tab_ok libp4_ok, mixed⟩ [(12, true), (21, true)] 1000000 0 [2, 3, 4, 5, 6] [(0, none), (1, none), (2, none), (3, none)] (k := s118k0) (vs := [V.w (W.c (C.ptr 0 0)), V.w (W.c (C.ptr 1 0)), V.w (W.c (C.ptr 2 0)), V.w (W.c (C.ptr 3 0)), V.int IntKind.i64 (IntKind.wrap IntKind.i64 (t6 - 1))]) (bs := [Blk.mk 106 Mode.rw (K.cs (numC a)), Blk.mk 80 Mode.rw (K.cs (numC k)), Blk.mk 106 Mode.rw (K.cs [C.u 0, C.u 0, C.u 0, C.u 0]), Blk.mk 106 Mode.rw (K.cs (numC (nn (num4 (b3_0 % 18446744073709551616) (b3_1 % 18446744073709551616) (b3_2 % 18446744073709551616) (b3_3 % 18446744073709551616) * num4 (b3_0 % 18446744073709551616) (b3_1 % 18446744073709551616) (b3_2 % 18446744073709551616) (b3_3 % 18446744073709551616) % 57896044618658097711785492504343953926634992332820282019728792003956564819949) * nn a % 57896044618658097711785492504343953926634992332820282019728792003956564819949)))]) (by kernel_rfl) (by kernel_rfl)
    (ocons (decide_eq_true h1) (ocons rfl (ocons rfl (ocons h2 (ocons rfl onil))))) hg
theorem s118_3 {ρ : Env} {w : World} {r : Res} (a : Nat) (k : Nat) (t6 : Int) (b3_0 : Nat) (b3_1 : Nat) (b3_2 : Nat) (b3_3 : Nat) (h1 : t6 ≥ 0) (h2 : (!bif true then Nat.beq (bitI (nn k) t6 % 18446744073709551616) 1 else false) = true) (hg : G (mkX Try.prog (tab libp4) Try.f118 [] ρ w r) (s118st0 (a) (k) (IntKind.wrap IntKind.i64 (t6 - 1)) (num4 (b3_0 % 18446744073709551616) (b3_1 % 18446744073709551616) (b3_2 % 18446744073709551616) (b3_3 % 18446744073709551616) * num4 (b3_0 % 18446744073709551616) (b3_1 % 18446744073709551616) (b3_2 % 18446744073709551616) (b3_3 % 18446744073709551616) % 57896044618658097711785492504343953926634992332820282019728792003956564819949) (num4 (b3_0 % 18446744073709551616) (b3_1 % 18446744073709551616) (b3_2 % 18446744073709551616) (b3_3 % 18446744073709551616) * num4 (b3_0 % 18446744073709551616) (b3_1 % 18446744073709551616) (b3_2 % 18446744073709551616) (b3_3 % 18446744073709551616) % 57896044618658097711785492504343953926634992332820282019728792003956564819949 / 18446744073709551616) (num4 (b3_0 % 18446744073709551616) (b3_1 % 18446744073709551616) (b3_2 % 18446744073709551616) (b3_3 % 18446744073709551616) * num4 (b3_0 % 18446744073709551616) (b3_1 % 18446744073709551616) (b3_2 % 18446744073709551616) (b3_3 % 18446744073709551616) % 57896044618658097711785492504343953926634992332820282019728792003956564819949 / 340282366920938463463374607431768211456) (num4 (b3_0 % 18446744073709551616) (b3_1 % 18446744073709551616) (b3_2 % 18446744073709551616) (b3_3 % 18446744073709551616) * num4 (b3_0 % 18446744073709551616) (b3_1 % 18446744073709551616) (b3_2 % 18446744073709551616) (b3_3 % 18446744073709551616) % 57896044618658097711785492504343953926634992332820282019728792003956564819949 / 6277101735386680763835789423207666416102355444464034512896))) : G (mkX Try.prog (tab libp4) Try.f118 [] ρ w r) (s118st0 a k t6 b3_0 b3_1 b3_2 b3_3) :=
  G.seg (X := mkX Try.prog (tab libp4) Try.f118 [] ρ w r) ⟨tab_ok libp4_ok, mixed⟩ [(12, true), (21, false)] 1000000 0 [2, 3, 4, 5, 6] [(0, none), (1, none), (2, none), (3, none)] (k := s118k0) (vs := [V.w (W.c (C.ptr 0 0)), V.w (W.c (C.ptr 1 0)), V.w (W.c (C.ptr 2 0)), V.w (W.c (C.ptr 3 0)), V.int IntKind.i64 (IntKind.wrap IntKind.i64 (t6 - 1))]) (bs := [Blk.mk 106 Mode.rw (K.cs (numC a)), Blk.mk 80 Mode.rw (K.cs (numC k)), Blk.mk 106 Mode.rw (K.cs [C.u 0, C.u 0, C.u 0, C.u 0]), Blk.mk 106 Mode.rw (K.cs (numC (num4 (b3_0 % 18446744073709551616) (b3_1 % 18446744073709551616) (b3_2 % 18446744073709551616) (b3_3 % 18446744073709551616) * num4 (b3_0 % 18446744073709551616) (b3_1 % 18446744073709551616) (b3_2 % 18446744073709551616) (b3_3 % 18446744073709551616) % 57896044618658097711785492504343953926634992332820282019728792003956564819949)))]) (by kernel_rfl) (by kernel_rfl)
    (ocons (decide_eq_true h1) (ocons rfl (ocons rfl (ocons h2 onil)))) hg
theorem s118_4 {ρ : Env} {w : World} (a : Nat) (k : Nat) (t6 : Int) (b3_0 : Nat) (b3_1 : Nat) (b3_2 : Nat) (b3_3 : Nat) (h1 : ¬t6 ≥ 0) : G (mkX Try.prog (tab libp4) Try.f118 [] ρ w ⟨V.w (W.agg [C.u b3_0, C.u b3_1, C.u b3_2, C.u b3_3]), [], []⟩) (s118st0 a k t6 b3_0 b3_1 b3_2 b3_3) :=
  G.ends (tab_ok libp4_ok) mixed [(12, false)] 1000000 [] (by kernel_rfl) (by kernel_rfl) (by kernel_rfl) (by kernel_rfl)
    (ocons (ndec h1) (ocons rfl onil))

theorem s106_1 (a : Nat) : Sx.Spec Try.prog 106 [W.agg (numC a)] [] ⟨V.w (W.agg (numC (nn a % 57896044618658097711785492504343953926634992332820282019728792003956564819949))), [], []⟩ :=
  spec_of_whole (tab_ok libp4_ok) mixed Try.func106 [] 1000000 [] (by kernel_rfl) (by kernel_rfl) (by kernel_rfl) (by kernel_rfl) (by kernel_rfl) (by kernel_rfl)
    (ocons rfl onil)

theorem s107_1 (a : Nat) (b : Nat) : Sx.Spec Try.prog 107 [W.agg (numC a), W.agg (numC b)] [] ⟨V.bool (eqNs [nn (nn a)] [nn b]), [], []⟩ :=
  spec_of_whole (tab_ok libp4_ok) mixed Try.func107 [] 1000000 [] (by kernel_rfl) (by kernel_rfl) (by kernel_rfl) (by kernel_rfl) (by kernel_rfl) (by kernel_rfl)
    onil

theorem s108_1 (a : Nat) (b : Nat) : Sx.Spec Try.prog 108 [W.agg (numC a), W.agg (numC b)] [] ⟨V.w (W.agg (numC (addP [nn a, nn (negN (nn b))]))), [], []⟩ :=
  spec_of_whole (tab_ok libp4_ok) mixed Try.func108 [] 1000000 [] (by kernel_rfl) (by kernel_rfl) (by kernel_rfl) (by kernel_rfl) (by kernel_rfl) (by kernel_rfl)
    (ocons rfl onil)

/-- powers, reckoned by squares. -/
def powR (a : Nat) : Nat → Nat → Nat
  | 0, _ => 1
  | f + 1, k => bif Nat.beq k 0 then 1 else
    let h := powR a f (k / 2)
    bif Nat.beq (k % 2) 1 then h * h % 57896044618658097711785492504343953926634992332820282019728792003956564819949 * a % 57896044618658097711785492504343953926634992332820282019728792003956564819949 else h * h % 57896044618658097711785492504343953926634992332820282019728792003956564819949
def powP (a k : Nat) : Nat := powR a 256 k
theorem pow_odd (a k : Nat) : a ^ (2 * k + 1) % 57896044618658097711785492504343953926634992332820282019728792003956564819949 = (a ^ k % 57896044618658097711785492504343953926634992332820282019728792003956564819949) * (a ^ k % 57896044618658097711785492504343953926634992332820282019728792003956564819949) % 57896044618658097711785492504343953926634992332820282019728792003956564819949 * a % 57896044618658097711785492504343953926634992332820282019728792003956564819949 := by
  rw [Nat.pow_succ, Nat.two_mul, Nat.pow_add]
  conv => lhs; rw [Nat.mul_mod, Nat.mul_mod (a ^ k)]
  conv => rhs; rw [Nat.mul_mod, Nat.mod_mod]
theorem pow_even (a k : Nat) : a ^ (2 * k) % 57896044618658097711785492504343953926634992332820282019728792003956564819949 = (a ^ k % 57896044618658097711785492504343953926634992332820282019728792003956564819949) * (a ^ k % 57896044618658097711785492504343953926634992332820282019728792003956564819949) % 57896044618658097711785492504343953926634992332820282019728792003956564819949 := by
  rw [Nat.two_mul, Nat.pow_add, Nat.mul_mod]
theorem powR_eq (a : Nat) : ∀ f k, k < 2 ^ f → powR a f k = a ^ k % 57896044618658097711785492504343953926634992332820282019728792003956564819949
  | 0, k, h => by
    have : k = 0 := by simpa using h
    subst this
    rw [Nat.pow_zero, powR]
  | f + 1, k, h => by
    rw [powR]
    cases hk : Nat.beq k 0 with
    | true =>
      have := Nat.beq_eq.mp hk
      subst this
      rfl
    | false =>
      have hf : k / 2 < 2 ^ f := by rw [Nat.pow_succ] at h; omega
      simp only [cond_false, powR_eq a f (k / 2) hf]
      cases hb : Nat.beq (k % 2) 1 with
      | true =>
        have hb := Nat.beq_eq.mp hb
        rw [cond_true, ← pow_odd, show 2 * (k / 2) + 1 = k by omega]
      | false =>
        have hb : k % 2 ≠ 1 := fun h => by rw [h] at hb; cases hb
        rw [cond_false, ← pow_even, show 2 * (k / 2) = k by omega]
theorem powP_eq (a : Nat) {k : Nat} (h : k < P256) : powP a k = a ^ k % 57896044618658097711785492504343953926634992332820282019728792003956564819949 := powR_eq a 256 k (by unfold P256 at h; omega)
theorem lenI_nat (k : Nat) (hk : k < P256) : ∃ n : Nat, lenI (k : Int) = n ∧ n ≤ 256 ∧ k < 2 ^ n := by
  unfold lenI
  cases h : decide ((k : Int) = 0) with
  | true =>
    have : k = 0 := by simpa using h
    exact ⟨0, rfl, by omega, by omega⟩
  | false =>
    have h0 : k ≠ 0 := by simpa using h
    refine ⟨Nat.log2 k + 1, by simp only [cond_false, Int.toNat_natCast], ?_, Nat.lt_log2_self⟩
    have : Nat.log2 k < 256 := (Nat.log2_lt h0).2 (by unfold P256 at hk; omega)
    omega
theorem s118n {a k : Nat} (ha : a < P256) (hk : k < P256) : Sx.Spec Try.prog 118 [.agg (numC a), .agg (numC k)] [] ⟨vN (powP a k), [], []⟩ := by
  have na := nn_id ha
  have nk := nn_id hk
  refine spec_body (tab := tab libp4) Try.func118 (by kernel_rfl) (by kernel_rfl) (by kernel_rfl) fun ρ w => ?_
  refine s118_1 a k ?_
  rw [powP_eq a hk, nk]
  obtain ⟨n, hn, hn2, hkn⟩ := lenI_nat k hk
  rw [hn]
  have key : ∀ n : Nat, n ≤ 256 → ∀ c0 c1 c2 c3, d4 c0 c1 c2 c3 = a ^ (k / 2 ^ n) % 57896044618658097711785492504343953926634992332820282019728792003956564819949 → G (mkX Try.prog (tab libp4) Try.f118 [] ρ w ⟨vN (a ^ k % 57896044618658097711785492504343953926634992332820282019728792003956564819949), [], []⟩) (s118st0 a k ((n : Int) - 1) c0 c1 c2 c3) := by
    intro n
    induction n with
    | zero =>
      intro _ c0 c1 c2 c3 hc
      rw [Nat.pow_zero, Nat.div_one] at hc
      refine G.resv (r := ⟨.w (.agg [.u c0, .u c1, .u c2, .u c3]), [], []⟩) (fun ρ y h => ?_) (s118_4 a k _ c0 c1 c2 c3 (by omega))
      rw [← hc]
      exact rw_d4 y h
    | succ n ih =>
      intro hn c0 c1 c2 c3 hc
      have ei : (((n + 1 : Nat) : Int) - 1) = (n : Int) := by omega
      rw [ei]
      have ew : IntKind.wrap .i64 ((n : Int) - 1) = (n : Int) - 1 := by rw [i64w] <;> omega
      have eb : bitI k (n : Nat) = k / 2 ^ n % 2 := bitI_low (by omega)
      have ek : k / 2 ^ (n + 1) = k / 2 ^ n / 2 := by rw [Nat.pow_succ, Nat.div_div_eq_div_mul]
      have hlt : ∀ x, x % 57896044618658097711785492504343953926634992332820282019728792003956564819949 < P256 := fun x => Nat.lt_trans (Nat.mod_lt _ (by decide)) (by decide)
      have hltP : ∀ x, x % 57896044618658097711785492504343953926634992332820282019728792003956564819949 < 115792089237316195423570985008687907853269984665640564039457584007913129639936 := hlt
      by_cases h1 : k / 2 ^ n % 2 = 1
      · refine s118_2 a k n c0 c1 c2 c3 (by omega) ?_ ?_
        · rw [nk, eb, h1]; rfl
        · rw [show num4 (c0 % 18446744073709551616) (c1 % 18446744073709551616) (c2 % 18446744073709551616) (c3 % 18446744073709551616) = d4 c0 c1 c2 c3 from rfl, hc, ew, na, nn_id (hlt _)]
          refine ih (by omega) _ _ _ _ ?_
          rw [d4_num, Nat.mod_eq_of_lt (hltP _), ek, ← pow_odd, show 2 * (k / 2 ^ n / 2) + 1 = k / 2 ^ n by omega]
      · refine s118_3 a k n c0 c1 c2 c3 (by omega) ?_ ?_
        · rw [nk, eb, show k / 2 ^ n % 2 = 0 by omega]; rfl
        · rw [show num4 (c0 % 18446744073709551616) (c1 % 18446744073709551616) (c2 % 18446744073709551616) (c3 % 18446744073709551616) = d4 c0 c1 c2 c3 from rfl, hc, ew]
          refine ih (by omega) _ _ _ _ ?_
          rw [d4_num, Nat.mod_eq_of_lt (hltP _), ek, ← pow_even, show 2 * (k / 2 ^ n / 2) = k / 2 ^ n by omega]
  rw [show IntKind.wrap .i64 ((n : Int) - 1) = (n : Int) - 1 by rw [i64w] <;> omega]
  refine key n hn2 1 0 0 0 ?_
  rw [Nat.div_eq_of_lt hkn, Nat.pow_zero]
  decide
def e118 : Entry := numsE [1, 1] (nm2 fun a k => vN (powP a k))
theorem e118_ok : EntryOk Try.prog 118 e118 := numsE_ok fun ns h hl => by
  obtain ⟨a, b, rfl⟩ := ns2 h
  exact s118n (hl a (by simp)) (hl b (by simp))
def e106 : Entry := numsE [1] (nm1 fun a => vN (a % 57896044618658097711785492504343953926634992332820282019728792003956564819949))
theorem e106_ok : EntryOk Try.prog 106 e106 := numsE_ok fun ns h hl => by
  obtain ⟨a, rfl⟩ := ns1 h
  have k := s106_1 a
  rw [nn_id (hl a (by simp))] at k
  exact k
def e107 : Entry := numsE [1, 1] (nm2 fun a b => V.bool (Nat.beq a b))
theorem eqNs1 (a b : Nat) : eqNs [a] [b] = Nat.beq a b := by cases h : Nat.beq a b <;> simp [eqNs, h]
theorem e107_ok : EntryOk Try.prog 107 e107 := numsE_ok fun ns h hl => by
  obtain ⟨a, b, rfl⟩ := ns2 h
  have k := s107_1 a b
  simp only [nn_id (hl b (by simp)), nn_id (hl a (by simp)), eqNs1] at k
  exact k
/-- a difference, as prime does it. -/
def subP (a b : Nat) : Nat := addP [a, negN b]
theorem negN_lt {a : Nat} (h : a < P256) : negN a < P256 := by
  unfold negN
  cases Nat.beq a 0 with
  | true => exact h
  | false => exact Nat.mod_lt _ (show 0 < 115792089237316195423570985008687907853269984665640564039457584007913129639936 by decide)
def e108 : Entry := numsE [1, 1] (nm2 fun a b => vN (subP a b))
theorem e108_ok : EntryOk Try.prog 108 e108 := numsE_ok fun ns h hl => by
  obtain ⟨a, b, rfl⟩ := ns2 h
  have k := s108_1 a b
  rw [nn_id (hl a (by simp)), nn_id (hl b (by simp)), nn_id (negN_lt (hl b (by simp)))] at k
  exact k
end Go.Proofs.Ytmjejlbmcefaoaa
namespace Go.Proofs.Ytmjejlbmcefaoaa
open Go Sx
def e258 : Entry := fun args ms => match args, ms with
  | [.c (.sl 0 0 n)], [⟨_, .ro, .ints .u64 l⟩] => some (⟨V.bool (Nat.ble 115792089237316195423570985008687907853269984665640564039457584007913129639936 (valL l)), [], []⟩, [Nat.beq l.length n, limOk l, Nat.ble n 1000000000])
  | _, _ => none
def e225 : Entry := fun args ms => match args, ms with
  | [], [] => some (⟨.w (.c (.own 0)), [], [⟨22, .own 16, .ints .u64 [65517, 65535, 65535, 65535, 65535, 65535, 65535, 65535, 65535, 65535, 65535, 65535, 65535, 65535, 65535, 32767]⟩]⟩, [])
  | _, _ => none
def libq0 : List (Nat × Entry) := [(90, roE [.cut .u64, .ints .u64] e90), (85, roE [.cut .u64, .ints .u64] e85), (258, roE [.ints .u64] e258), (225, e225)] ++ libp3
noncomputable def s258k0 : List Item := kAt Try.prog (tab libp3) Try.f258 [] 0 [W.c (C.sl 0 0 1)] [Blk.mk 1 Mode.ro (K.ints IntKind.u64 [0])]
noncomputable def s258st0 (t : Nat) (n : Nat) (l : List Int) (t3 : Int) : Cfg := cfg s258k0 [0, 3] [V.w (W.c (C.sl 0 0 n)), V.int IntKind.i64 t3] [Blk.mk t Mode.ro (K.ints IntKind.u64 l)]
theorem s258_1 {ρ : Env} {w : World} {r : Res} (t : Nat) (n : Nat) (l : List Int) (hg : G (mkX Try.prog (tab libp3) Try.f258 [Blk.mk t Mode.ro (K.ints IntKind.u64 l)] ρ w r) (s258st0 t (n) (l) (16))) : G (mkX Try.prog (tab libp3) Try.f258 [Blk.mk t Mode.ro (K.ints IntKind.u64 l)] ρ w r) (cfg [.code (Try.f258.body.getD .skip)] (List.range 1) ([W.c (C.sl 0 0 n)].map V.w) [Blk.mk t Mode.ro (K.ints IntKind.u64 l)]) :=
  G.seg (X := mkX Try.prog (tab libp3) Try.f258 [Blk.mk t Mode.ro (K.ints IntKind.u64 l)] ρ w r) ⟨tab_ok libp3_ok, mixed⟩ [] 1000000 0 [0, 3] [(0, none)] (k := s258k0) (vs := [V.w (W.c (C.sl 0 0 n)), V.int IntKind.i64 16]) (bs := [Blk.mk t Mode.ro (K.ints IntKind.u64 l)]) (by kernel_rfl) (by kernel_rfl)
    onil hg
theorem s258_2 {ρ : Env} {w : World} (t : Nat) (n : Nat) (l : List Int) (t3 : Int) (h1 : t3 < (↑n : Int)) (h2 : 0 ≤ t3) (h3 : Int.toNat t3 < List.length l) (h4 : ¬List.getD l (Int.toNat t3) 0 = 0) : G (mkX Try.prog (tab libp3) Try.f258 [Blk.mk t Mode.ro (K.ints IntKind.u64 l)] ρ w ⟨V.bool true, [], []⟩) (s258st0 t n l t3) :=
  G.ends (tab_ok libp3_ok) mixed [(7, true), (14, true)] 1000000 [(0, none)] (by kernel_rfl) (by kernel_rfl) (by kernel_rfl) (by kernel_rfl)
    (ocons (decide_eq_true h1) (ocons (decide_eq_true h2) (ocons (decide_eq_true h1) (ocons (bltT h3) (ocons (bneI h4) onil)))))
theorem s258_3 {ρ : Env} {w : World} {r : Res} (t : Nat) (n : Nat) (l : List Int) (t3 : Int) (h1 : t3 < (↑n : Int)) (h2 : 0 ≤ t3) (h3 : Int.toNat t3 < List.length l) (h4 : List.getD l (Int.toNat t3) 0 = 0) (hg : G (mkX Try.prog (tab libp3) Try.f258 [Blk.mk t Mode.ro (K.ints IntKind.u64 l)] ρ w r) (s258st0 t (n) (l) (IntKind.wrap IntKind.i64 (t3 + 1)))) : G (mkX Try.prog (tab libp3) Try.f258 [Blk.mk t Mode.ro (K.ints IntKind.u64 l)] ρ w r) (s258st0 t n l t3) :=
  G.seg (X := mkX Try.prog (tab libp3) Try.f258 [Blk.mk t Mode.ro (K.ints IntKind.u64 l)] ρ w r) ⟨tab_ok libp3_ok, mixed⟩ [(7, true), (14, false)] 1000000 0 [0, 3] [(0, none)] (k := s258k0) (vs := [V.w (W.c (C.sl 0 0 n)), V.int IntKind.i64 (IntKind.wrap IntKind.i64 (t3 + 1))]) (bs := [Blk.mk t Mode.ro (K.ints IntKind.u64 l)]) (by kernel_rfl) (by kernel_rfl)
    (ocons (decide_eq_true h1) (ocons (decide_eq_true h2) (ocons (decide_eq_true h1) (ocons (bltT h3) (ocons (nbneI h4) onil))))) hg
theorem s258_4 {ρ : Env} {w : World} (t : Nat) (n : Nat) (l : List Int) (t3 : Int) (h1 : ¬t3 < (↑n : Int)) : G (mkX Try.prog (tab libp3) Try.f258 [Blk.mk t Mode.ro (K.ints IntKind.u64 l)] ρ w ⟨V.bool false, [], []⟩) (s258st0 t n l t3) :=
  G.ends (tab_ok libp3_ok) mixed [(7, false)] 1000000 [(0, none)] (by kernel_rfl) (by kernel_rfl) (by kernel_rfl) (by kernel_rfl)
    (ocons (ndec h1) onil)

theorem s225_1 : Sx.Spec Try.prog 225 [] [] ⟨V.w (W.c (C.own 0)), [], [Blk.mk 22 (Mode.own 16) (K.ints IntKind.u64 [65517, 65535, 65535, 65535, 65535, 65535, 65535, 65535, 65535, 65535, 65535, 65535, 65535, 65535, 65535, 32767])]⟩ :=
  spec_of_whole (tab_ok libp3_ok) mixed Try.func225 [] 1000000 [(8, none)] (by kernel_rfl) (by kernel_rfl) (by kernel_rfl) (by kernel_rfl) (by kernel_rfl) (by kernel_rfl)
    onil


theorem valL_small {l : List Int} (h : limOk l = true) : ∀ m k, k + m = l.length → (∀ i, k ≤ i → i < l.length → l.getD i 0 = 0) → valL l < 65536 ^ k
  | 0, k, hk, _ => by
    have := valL_lt h
    rwa [show l.length = k by omega] at this
  | m + 1, k, hk, hz => by
    have h1 := valL_small h m (k + 1) (by omega) fun i hi hl => hz i (by omega) hl
    have h2 := valL_get h k
    rw [hz k (Nat.le_refl k) (by omega)] at h2
    have h3 : valL l / 65536 ^ k < 65536 := Nat.div_lt_of_lt_mul (by rw [Nat.pow_succ] at h1; exact h1)
    have hp := Nat.pow_pos (n := k) (show 0 < 65536 by decide)
    have h4 : valL l / 65536 ^ k = 0 := by
      generalize valL l / 65536 ^ k = x at h2 h3 ⊢
      omega
    rcases Nat.div_eq_zero_iff.1 h4 with h5 | h5
    · omega
    · exact h5
theorem pow16 : (65536 : Nat) ^ 16 = P256 := by decide
theorem s258n (t : Nat) {l : List Int} (h : limOk l = true) (hn : l.length ≤ 1000000000) : Sx.Spec Try.prog 258 [.c (.sl 0 0 l.length)] [⟨t, .ro, .ints .u64 l⟩] ⟨V.bool (Nat.ble P256 (valL l)), [], []⟩ := by
  refine spec_body (tab := tab libp3) Try.func258 (by kernel_rfl) (by kernel_rfl) (by kernel_rfl) fun ρ w => ?_
  refine s258_1 t _ l ?_
  have key : ∀ (f i : Nat), 16 ≤ i → (i + f = l.length ∨ (f = 0 ∧ l.length < i)) → (∀ j, 16 ≤ j → j < i → j < l.length → l.getD j 0 = 0) → G (mkX Try.prog (tab libp3) Try.f258 [⟨t, .ro, .ints .u64 l⟩] ρ w ⟨V.bool (Nat.ble P256 (valL l)), [], []⟩) (s258st0 t l.length l (i : Int)) := by
    intro f
    induction f with
    | zero =>
      intro i hi hf hz
      have hlt : valL l < P256 := by
        rw [← pow16]
        rcases Nat.lt_or_ge l.length 16 with hs | hs
        · exact Nat.lt_of_lt_of_le (valL_lt h) (Nat.pow_le_pow_right (by decide) (by omega))
        · exact valL_small h (l.length - 16) 16 (by omega) fun j hj hl => hz j hj (by omega) hl
      rw [show Nat.ble P256 (valL l) = false from by cases hb : Nat.ble P256 (valL l) with | false => rfl | true => have := Nat.ble_eq.mp hb; omega]
      exact s258_4 t _ l i (by omega)
    | succ f ih =>
      intro i hi hf hz
      have hil : i < l.length := by omega
      by_cases h0 : l.getD i 0 = 0
      · refine s258_3 t _ l i (by omega) (by omega) (by rw [Int.toNat_natCast]; exact hil) (by rw [Int.toNat_natCast]; exact h0) ?_
        rw [show IntKind.wrap .i64 ((i : Int) + 1) = ((i + 1 : Nat) : Int) by rw [i64w] <;> omega]
        refine ih (i + 1) (by omega) (by omega) fun j h1 h2 h3 => ?_
        by_cases hj : j = i
        · subst hj; exact h0
        · exact hz j h1 (by omega) h3
      · have hge : P256 ≤ valL l := by
          rw [← pow16]
          rcases Nat.lt_or_ge (valL l) (65536 ^ 16) with hlt | hge
          · exfalso
            apply h0
            rw [valL_get h i, Nat.div_eq_of_lt (Nat.lt_of_lt_of_le hlt (Nat.pow_le_pow_right (by decide) hi))]
            rfl
          · exact hge
        rw [show Nat.ble P256 (valL l) = true from Nat.ble_eq.mpr hge]
        exact s258_2 t _ l i (by omega) (by omega) (by rw [Int.toNat_natCast]; exact hil) (by rw [Int.toNat_natCast]; exact h0)
  rcases Nat.lt_or_ge l.length 16 with hs | hs
  · exact key 0 16 (by omega) (.inr ⟨rfl, hs⟩) (fun j h1 h2 => by omega)
  · exact key (l.length - 16) 16 (by omega) (.inl (by omega)) (fun j h1 h2 => by omega)
theorem e258_ok : EntryOk Try.prog 258 e258 := by
  intro args ms r obs h ho
  unfold e258 at h
  split at h
  · rename_i n t l
    cases h
    have h1 := Nat.beq_eq.mp (ho _ (List.mem_cons_self ..))
    subst h1
    have h2 := ho _ (List.mem_cons_of_mem _ (List.mem_cons_self ..))
    have h3 := Nat.ble_eq.mp (ho _ (List.mem_cons_of_mem _ (List.mem_cons_of_mem _ (List.mem_cons_self ..))))
    exact s258n t h2 h3
  · cases h
theorem e225_ok : EntryOk Try.prog 225 e225 := by
  intro args ms r obs h ho
  unfold e225 at h
  split at h
  · cases h
    exact s225_1
  · cases h
theorem libq0_ok : AllOk Try.prog libq0 := .cons (roE_ok e90_ok) (.cons (roE_ok e85_ok) (.cons (roE_ok e258_ok) (.cons e225_ok libp3_ok)))
noncomputable def s223k0 : List Item := kAt Try.prog (tab libq0) Try.f223 [] 0 [W.c (C.sl 0 0 1)] [Blk.mk 22 Mode.ro (K.ints IntKind.u64 [0])]
noncomputable def s223st0 (l : List Int) (t0_1h0 : Nat) (b2_0h0 : List Int) : Cfg := cfg s223k0 [2, 0] [V.w (W.c (C.ptr 1 0)), V.w (W.c (C.sl 2 0 t0_1h0))] [Blk.mk 22 Mode.ro (K.ints IntKind.u64 l), Blk.mk 79 Mode.rw (K.cs [C.u 0, C.u 0, C.u 0, C.u 0]), Blk.mk 22 Mode.ro (K.ints IntKind.u64 b2_0h0)]
noncomputable def s223k1 : List Item := kAt Try.prog (tab libq0) Try.f223 [(5, false)] 1 [W.c (C.sl 0 0 1)] [Blk.mk 22 Mode.ro (K.ints IntKind.u64 [0])]
noncomputable def s223st1 (l : List Int) (t0_1h0 : Nat) (b3_0h1 : List Int) : Cfg := cfg s223k1 [2, 3, 0] [V.w (W.c (C.ptr 1 0)), V.w (W.c (C.own 2)), V.w (W.c (C.sl 3 0 t0_1h0))] [Blk.mk 22 Mode.ro (K.ints IntKind.u64 l), Blk.mk 79 Mode.rw (K.cs [C.u 0, C.u 0, C.u 0, C.u 0]), Blk.mk 22 (Mode.own 16) (K.ints IntKind.u64 [65517, 65535, 65535, 65535, 65535, 65535, 65535, 65535, 65535, 65535, 65535, 65535, 65535, 65535, 65535, 32767]), Blk.mk 22 Mode.ro (K.ints IntKind.u64 b3_0h1)]
theorem s223_1 {ρ : Env} {w : World} {r : Res} (n : Nat) (l : List Int) (hg : G (mkX Try.prog (tab libq0) Try.f223 [Blk.mk 22 Mode.ro (K.ints IntKind.u64 l)] ρ w r) (s223st0 (l) (n) (l))) : G (mkX Try.prog (tab libq0) Try.f223 [Blk.mk 22 Mode.ro (K.ints IntKind.u64 l)] ρ w r) (cfg [.code (Try.f223.body.getD .skip)] (List.range 1) ([W.c (C.sl 0 0 n)].map V.w) [Blk.mk 22 Mode.ro (K.ints IntKind.u64 l)]) :=
  G.seg (X := mkX Try.prog (tab libq0) Try.f223 [Blk.mk 22 Mode.ro (K.ints IntKind.u64 l)] ρ w r) ⟨tab_ok libq0_ok, mixed⟩ [] 1000000 0 [2, 0] [(0, none), (1, none)] (k := s223k0) (vs := [V.w (W.c (C.ptr 1 0)), V.w (W.c (C.sl 0 0 n))]) (bs := [Blk.mk 22 Mode.ro (K.ints IntKind.u64 l), Blk.mk 79 Mode.rw (K.cs [C.u 0, C.u 0, C.u 0, C.u 0])]) (by kernel_rfl) (by kernel_rfl)
    onil (G.aliasRo 1 rfl rfl rfl (Nat.le_of_ble_eq_true rfl) hg)
theorem s223_2 {ρ : Env} {w : World} {r : Res} (n : Nat) (l : List Int) (t0_1h0 : Nat) (b2_0h0 : List Int) (h1 : List.length b2_0h0 = t0_1h0) (h2 : limOk b2_0h0 = true) (h3 : t0_1h0 ≤ 1000000000) (h4 : 115792089237316195423570985008687907853269984665640564039457584007913129639936 ≤ valL b2_0h0) (h5 : 16 ≤ (↑t0_1h0 : Int)) (h6 : (↑t0_1h0 : Int) ≤ (↑t0_1h0 : Int)) (h7 : List.length (List.take (t0_1h0 - 16) (List.drop 16 b2_0h0)) = t0_1h0 - 16) (h8 : limOk (List.take (t0_1h0 - 16) (List.drop 16 b2_0h0)) = true) (h9 : List.length (List.take (t0_1h0 - 16) (List.drop 16 b2_0h0)) ≤ 1000000000) (h10 : List.length (List.take 16 (List.drop 0 b2_0h0)) = 16) (h11 : List.length (lim (t0_1h0 - 16 + 1) (valL (List.take (t0_1h0 - 16) (List.drop 16 b2_0h0)) * 38)) = t0_1h0 - 16 + 1) (h12 : limOk (List.take 16 (List.drop 0 b2_0h0)) = true) (h13 : limOk (lim (t0_1h0 - 16 + 1) (valL (List.take (t0_1h0 - 16) (List.drop 16 b2_0h0)) * 38)) = true) (h14 : List.length (List.take 16 (List.drop 0 b2_0h0)) ≤ 1000000000) (h15 : List.length (lim (t0_1h0 - 16 + 1) (valL (List.take (t0_1h0 - 16) (List.drop 16 b2_0h0)) * 38)) ≤ 1000000000) (hg : G (mkX Try.prog (tab libq0) Try.f223 [Blk.mk 22 Mode.ro (K.ints IntKind.u64 l)] ρ w r) (s223st0 (l) (maxN 16 (t0_1h0 - 16 + 1) + 1) (lim (maxN 16 (t0_1h0 - 16 + 1) + 1) (valL (List.take 16 (List.drop 0 b2_0h0)) + valL (lim (t0_1h0 - 16 + 1) (valL (List.take (t0_1h0 - 16) (List.drop 16 b2_0h0)) * 38)))))) : G (mkX Try.prog (tab libq0) Try.f223 [Blk.mk 22 Mode.ro (K.ints IntKind.u64 l)] ρ w r) (s223st0 l t0_1h0 b2_0h0) :=
  G.seg (X := mkX Try.prog (tab libq0) Try.f223 [Blk.mk 22 Mode.ro (K.ints IntKind.u64 l)] ρ w r) ⟨tab_ok libq0_ok, mixed⟩ [(5, true)] 1000000 0 [2, 0] [(0, none), (1, none), (35, none)] (k := s223k0) (vs := [V.w (W.c (C.ptr 1 0)), V.w (W.c (C.own 2))]) (bs := [Blk.mk 22 Mode.ro (K.ints IntKind.u64 l), Blk.mk 79 Mode.rw (K.cs [C.u 0, C.u 0, C.u 0, C.u 0]), Blk.mk 22 (Mode.own (maxN 16 (t0_1h0 - 16 + 1) + 1)) (K.ints IntKind.u64 (lim (maxN 16 (t0_1h0 - 16 + 1) + 1) (valL (List.take 16 (List.drop 0 b2_0h0)) + valL (lim (t0_1h0 - 16 + 1) (valL (List.take (t0_1h0 - 16) (List.drop 16 b2_0h0)) * 38)))))]) (by kernel_rfl) (by kernel_rfl)
    (ocons (beqT h1) (ocons h2 (ocons (bleT h3) (ocons (bleT h4) (ocons rfl (ocons rfl (ocons rfl (ocons (decide_eq_true h5) (ocons rfl (ocons (decide_eq_true h5) (ocons rfl (ocons (decide_eq_true h6) (ocons (beqT h7) (ocons rfl (ocons h8 (ocons rfl (ocons (bleT h9) (ocons rfl (ocons (beqT h10) (ocons (beqT h11) (ocons h12 (ocons h13 (ocons (bleT h14) (ocons (bleT h15) onil)))))))))))))))))))))))) (G.ownSl 1 2 rfl rfl rfl hg)
theorem s223_3 {ρ : Env} {w : World} {r : Res} (n : Nat) (l : List Int) (t0_1h0 : Nat) (b2_0h0 : List Int) (h1 : List.length b2_0h0 = t0_1h0) (h2 : limOk b2_0h0 = true) (h3 : t0_1h0 ≤ 1000000000) (h4 : (!Nat.ble 115792089237316195423570985008687907853269984665640564039457584007913129639936 (valL b2_0h0)) = true) (hg : G (mkX Try.prog (tab libq0) Try.f223 [Blk.mk 22 Mode.ro (K.ints IntKind.u64 l)] ρ w r) (s223st1 (l) (t0_1h0) (b2_0h0))) : G (mkX Try.prog (tab libq0) Try.f223 [Blk.mk 22 Mode.ro (K.ints IntKind.u64 l)] ρ w r) (s223st0 l t0_1h0 b2_0h0) :=
  G.seg (X := mkX Try.prog (tab libq0) Try.f223 [Blk.mk 22 Mode.ro (K.ints IntKind.u64 l)] ρ w r) ⟨tab_ok libq0_ok, mixed⟩ [(5, false)] 1000000 0 [2, 3, 0] [(0, none), (1, none), (11, none), (2, none)] (k := s223k1) (vs := [V.w (W.c (C.ptr 1 0)), V.w (W.c (C.own 2)), V.w (W.c (C.sl 3 0 t0_1h0))]) (bs := [Blk.mk 22 Mode.ro (K.ints IntKind.u64 l), Blk.mk 79 Mode.rw (K.cs [C.u 0, C.u 0, C.u 0, C.u 0]), Blk.mk 22 (Mode.own 16) (K.ints IntKind.u64 [65517, 65535, 65535, 65535, 65535, 65535, 65535, 65535, 65535, 65535, 65535, 65535, 65535, 65535, 65535, 32767]), Blk.mk 22 Mode.ro (K.ints IntKind.u64 b2_0h0)]) (by kernel_rfl) (by kernel_rfl)
    (ocons (beqT h1) (ocons h2 (ocons (bleT h3) (ocons h4 onil)))) hg
theorem s223_4 {ρ : Env} {w : World} {r : Res} (n : Nat) (l : List Int) (t0_1h0 : Nat) (b3_0h1 : List Int) (h1 : List.length b3_0h1 = t0_1h0) (h2 : limOk b3_0h1 = true) (h3 : List.length b3_0h1 ≤ 1000000000) (h4 : (!Nat.blt (valL b3_0h1) 57896044618658097711785492504343953926634992332820282019728792003956564819949) = true) (hg : G (mkX Try.prog (tab libq0) Try.f223 [Blk.mk 22 Mode.ro (K.ints IntKind.u64 l)] ρ w r) (s223st1 (l) (t0_1h0) (lim t0_1h0 (subN t0_1h0 (valL b3_0h1) 57896044618658097711785492504343953926634992332820282019728792003956564819949)))) : G (mkX Try.prog (tab libq0) Try.f223 [Blk.mk 22 Mode.ro (K.ints IntKind.u64 l)] ρ w r) (s223st1 l t0_1h0 b3_0h1) :=
  G.seg (X := mkX Try.prog (tab libq0) Try.f223 [Blk.mk 22 Mode.ro (K.ints IntKind.u64 l)] ρ w r) ⟨tab_ok libq0_ok, mixed⟩ [(17, true)] 1000000 0 [2, 3, 0] [(0, none), (1, none), (2, none), (28, none)] (k := s223k1) (vs := [V.w (W.c (C.ptr 1 0)), V.w (W.c (C.own 2)), V.w (W.c (C.own 3))]) (bs := [Blk.mk 22 Mode.ro (K.ints IntKind.u64 l), Blk.mk 79 Mode.rw (K.cs [C.u 0, C.u 0, C.u 0, C.u 0]), Blk.mk 22 (Mode.own 16) (K.ints IntKind.u64 [65517, 65535, 65535, 65535, 65535, 65535, 65535, 65535, 65535, 65535, 65535, 65535, 65535, 65535, 65535, 32767]), Blk.mk 22 (Mode.own t0_1h0) (K.ints IntKind.u64 (lim t0_1h0 (subN t0_1h0 (valL b3_0h1) 57896044618658097711785492504343953926634992332820282019728792003956564819949)))]) (by kernel_rfl) (by kernel_rfl)
    (ocons (beqT h1) (ocons rfl (ocons h2 (ocons rfl (ocons (bleT h3) (ocons rfl (ocons h4 (ocons (beqT h1) (ocons rfl (ocons h2 (ocons rfl (ocons (bleT h3) (ocons rfl onil))))))))))))) (G.ownSl 2 3 rfl rfl rfl hg)
theorem s223_5 {ρ : Env} {w : World} (n : Nat) (l : List Int) (t0_1h0 : Nat) (b3_0h1 : List Int) (h1 : List.length b3_0h1 = t0_1h0) (h2 : limOk b3_0h1 = true) (h3 : List.length b3_0h1 ≤ 1000000000) (h4 : (!!Nat.blt (valL b3_0h1) 57896044618658097711785492504343953926634992332820282019728792003956564819949) = true) : G (mkX Try.prog (tab libq0) Try.f223 [Blk.mk 22 Mode.ro (K.ints IntKind.u64 l)] ρ w ⟨V.w (W.agg (numC (toN b3_0h1 0))), [], []⟩) (s223st1 l t0_1h0 b3_0h1) :=
  G.ends (tab_ok libq0_ok) mixed [(17, false)] 1000000 [(0, none)] (by kernel_rfl) (by kernel_rfl) (by kernel_rfl) (by kernel_rfl)
    (ocons (beqT h1) (ocons rfl (ocons h2 (ocons rfl (ocons (bleT h3) (ocons rfl (ocons h4 (ocons (beqT h1) (ocons h2 (ocons rfl (ocons rfl (ocons rfl onil))))))))))))


theorem valL_cat : ∀ (l m : List Int), valL (l ++ m) = valL l + 65536 ^ l.length * valL m
  | [], m => by simp [valL]
  | a :: l, m => by
    simp only [List.cons_append, valL, valL_cat l m, List.length_cons, Nat.pow_succ]
    rw [Nat.mul_add, ← Nat.add_assoc, Nat.mul_comm (65536 ^ l.length) 65536, Nat.mul_assoc]
theorem limOk_sub {l m : List Int} (h : limOk l = true) (hs : ∀ x ∈ m, x ∈ l) : limOk m = true := by
  unfold limOk at *
  rw [List.all_eq_true] at *
  exact fun x hx => h x (hs x hx)
/-- one turn: 2^256 is 38, and p twice. -/
theorem fold_turn {l : List Int} {n : Nat} (hl : l.length = n) (h : limOk l = true) (hn : 16 ≤ n) (hg : P256 ≤ valL l) :
    valL (lim (maxN 16 (n - 16 + 1) + 1) (valL (List.take 16 (List.drop 0 l)) + valL (lim (n - 16 + 1) (valL (List.take (n - 16) (List.drop 16 l)) * 38)))) % 57896044618658097711785492504343953926634992332820282019728792003956564819949 = valL l % 57896044618658097711785492504343953926634992332820282019728792003956564819949 ∧
    valL (lim (maxN 16 (n - 16 + 1) + 1) (valL (List.take 16 (List.drop 0 l)) + valL (lim (n - 16 + 1) (valL (List.take (n - 16) (List.drop 16 l)) * 38)))) < valL l := by
  rw [List.drop_zero, List.take_of_length_le (show (List.drop 16 l).length ≤ n - 16 by rw [List.length_drop]; omega), valL_lim, valL_lim]
  have hlo : limOk (List.take 16 l) = true := limOk_sub h fun x hx => List.mem_of_mem_take hx
  have hhi : limOk (List.drop 16 l) = true := limOk_sub h fun x hx => List.mem_of_mem_drop hx
  have h1 := valL_lt hlo
  have h2 := valL_lt hhi
  have h3 : valL l = valL (List.take 16 l) + P256 * valL (List.drop 16 l) := by
    conv => lhs; rw [← List.take_append_drop 16 l]
    rw [valL_cat, List.length_take, hl, show min 16 n = 16 by omega, pow16]
  rw [List.length_take, hl, show min 16 n = 16 by omega] at h1
  rw [List.length_drop, hl] at h2
  generalize valL (List.take 16 l) = lo at *
  generalize valL (List.drop 16 l) = hi at *
  have h4 : hi * 38 < 65536 ^ (n - 16 + 1) := by
    rw [Nat.pow_succ]
    omega
  rw [Nat.mod_eq_of_lt h4]
  have h5 : lo + hi * 38 < 65536 ^ (maxN 16 (n - 16 + 1) + 1) := by
    have a1 : (65536 : Nat) ^ 16 ≤ 65536 ^ maxN 16 (n - 16 + 1) := Nat.pow_le_pow_right (by decide) (Nat.le_max_left ..)
    have a2 : (65536 : Nat) ^ (n - 16 + 1) ≤ 65536 ^ maxN 16 (n - 16 + 1) := Nat.pow_le_pow_right (by decide) (Nat.le_max_right ..)
    rw [Nat.pow_succ]
    omega
  rw [Nat.mod_eq_of_lt h5]
  rw [pow16] at h1
  unfold P256 at *
  constructor
  · rw [h3, show lo + 115792089237316195423570985008687907853269984665640564039457584007913129639936 * hi = lo + hi * 38 + 57896044618658097711785492504343953926634992332820282019728792003956564819949 * (2 * hi) by omega, Nat.add_mul_mod_self_left]
  · omega
theorem fold_less {l : List Int} {n : Nat} (hl : l.length = n) (h : limOk l = true) (hn : 16 ≤ n) (hg : 57896044618658097711785492504343953926634992332820282019728792003956564819949 ≤ valL l) : valL (lim n (subN n (valL l) 57896044618658097711785492504343953926634992332820282019728792003956564819949)) = valL l - 57896044618658097711785492504343953926634992332820282019728792003956564819949 := by
  rw [valL_lim, subN]
  have h1 := valL_lt h
  rw [hl] at h1
  have h2 : 115792089237316195423570985008687907853269984665640564039457584007913129639936 ≤ 65536 ^ n := by
    have : (65536 : Nat) ^ 16 ≤ 65536 ^ n := Nat.pow_le_pow_right (by decide) hn
    rw [pow16] at this
    exact this
  rw [Nat.mod_eq_of_lt (show 57896044618658097711785492504343953926634992332820282019728792003956564819949 < 65536 ^ n by omega), show valL l + 65536 ^ n - 57896044618658097711785492504343953926634992332820282019728792003956564819949 = valL l - 57896044618658097711785492504343953926634992332820282019728792003956564819949 + 65536 ^ n by omega, Nat.add_mod_right, Nat.mod_eq_of_lt (by omega)]
def e223 : Entry := fun args ms => match args, ms with
  | [.c (.sl 0 0 n)], [⟨_, .ro, .ints .u64 l⟩] => some (⟨vN (valL l % 57896044618658097711785492504343953926634992332820282019728792003956564819949), [], []⟩, [Nat.beq l.length n, limOk l, Nat.ble 16 n, Nat.ble n 1000000])
  | _, _ => none
theorem toN_zero (l : List Int) : toN l 0 = valL l := by unfold toN; simp
theorem s223n {l : List Int} (h : limOk l = true) (h16 : 16 ≤ l.length) (hn : l.length ≤ 1000000) : Sx.Spec Try.prog 223 [.c (.sl 0 0 l.length)] [⟨22, .ro, .ints .u64 l⟩] ⟨vN (valL l % 57896044618658097711785492504343953926634992332820282019728792003956564819949), [], []⟩ := by
  refine spec_body (tab := tab libq0) Try.func223 (by kernel_rfl) (by kernel_rfl) (by kernel_rfl) fun ρ w => ?_
  refine s223_1 _ l ?_
  have key1 : ∀ (f n : Nat) (m : List Int), m.length = n → limOk m = true → 16 ≤ n → n ≤ 1000000 → valL m < (f + 1) * 57896044618658097711785492504343953926634992332820282019728792003956564819949 → valL m % 57896044618658097711785492504343953926634992332820282019728792003956564819949 = valL l % 57896044618658097711785492504343953926634992332820282019728792003956564819949 → G (mkX Try.prog (tab libq0) Try.f223 [⟨22, .ro, .ints .u64 l⟩] ρ w ⟨vN (valL l % 57896044618658097711785492504343953926634992332820282019728792003956564819949), [], []⟩) (s223st1 l n m) := by
    intro f
    induction f with
    | zero =>
      intro n m hl hm h1 h2 hf hv
      have hlt : valL m < 57896044618658097711785492504343953926634992332820282019728792003956564819949 := by omega
      have k := s223_5 (ρ := ρ) (w := w) 0 l n m hl hm (by omega) (by rw [Bool.not_not]; exact Nat.blt_eq.mpr hlt)
      rw [toN_zero, show valL m = valL l % 57896044618658097711785492504343953926634992332820282019728792003956564819949 by rw [← hv, Nat.mod_eq_of_lt hlt]] at k
      exact k
    | succ f ih =>
      intro n m hl hm h1 h2 hf hv
      by_cases hlt : valL m < 57896044618658097711785492504343953926634992332820282019728792003956564819949
      · have k := s223_5 (ρ := ρ) (w := w) 0 l n m hl hm (by omega) (by rw [Bool.not_not]; exact Nat.blt_eq.mpr hlt)
        rw [toN_zero, show valL m = valL l % 57896044618658097711785492504343953926634992332820282019728792003956564819949 by rw [← hv, Nat.mod_eq_of_lt hlt]] at k
        exact k
      · refine s223_4 0 l n m hl hm (by omega) ?_ ?_
        · rw [show Nat.blt (valL m) 57896044618658097711785492504343953926634992332820282019728792003956564819949 = false from by cases hb : Nat.blt (valL m) 57896044618658097711785492504343953926634992332820282019728792003956564819949 with | false => rfl | true => exact absurd (Nat.blt_eq.mp hb) hlt]
          rfl
        · have e := fold_less hl hm h1 (by omega)
          refine ih n _ (lim_length _ _) (limOk_lim _ _) h1 h2 (by rw [e]; omega) ?_
          rw [e, ← hv]
          conv => rhs; rw [show valL m = valL m - 57896044618658097711785492504343953926634992332820282019728792003956564819949 + 57896044618658097711785492504343953926634992332820282019728792003956564819949 by omega, Nat.add_mod_right]
  have key0 : ∀ (v n : Nat) (m : List Int), m.length = n → limOk m = true → 16 ≤ n → n ≤ 1000000 → valL m ≤ v → valL m % 57896044618658097711785492504343953926634992332820282019728792003956564819949 = valL l % 57896044618658097711785492504343953926634992332820282019728792003956564819949 → G (mkX Try.prog (tab libq0) Try.f223 [⟨22, .ro, .ints .u64 l⟩] ρ w ⟨vN (valL l % 57896044618658097711785492504343953926634992332820282019728792003956564819949), [], []⟩) (s223st0 l n m) := by
    intro v
    induction v with
    | zero =>
      intro n m hl hm h1 h2 hv he
      refine s223_3 0 l n m hl hm (by omega) ?_ (key1 2 n m hl hm h1 h2 (by omega) he)
      rw [show Nat.ble 115792089237316195423570985008687907853269984665640564039457584007913129639936 (valL m) = false from by cases hb : Nat.ble 115792089237316195423570985008687907853269984665640564039457584007913129639936 (valL m) with | false => rfl | true => have := Nat.ble_eq.mp hb; omega]
      rfl
    | succ v ih =>
      intro n m hl hm h1 h2 hv he
      by_cases hg : 115792089237316195423570985008687907853269984665640564039457584007913129639936 ≤ valL m
      · obtain ⟨t1, t2⟩ := fold_turn hl hm h1 hg
        have hd : (List.take (n - 16) (List.drop 16 m)).length = n - 16 := by rw [List.length_take, List.length_drop]; omega
        have ht : (List.take 16 (List.drop 0 m)).length = 16 := by rw [List.length_take, List.length_drop]; omega
        refine s223_2 0 l n m hl hm (by omega) hg (by omega) (by omega) hd (limOk_sub hm fun x hx => List.mem_of_mem_drop (List.mem_of_mem_take hx)) (by omega) ht (lim_length _ _) (limOk_sub hm fun x hx => List.mem_of_mem_drop (List.mem_of_mem_take hx)) (limOk_lim _ _) (by omega) (by rw [lim_length]; omega) ?_
        have hmx : maxN 16 (n - 16 + 1) + 1 ≤ 1000000 ∧ 16 ≤ maxN 16 (n - 16 + 1) + 1 := by unfold maxN; omega
        exact ih _ _ (lim_length _ _) (limOk_lim _ _) hmx.2 hmx.1 (by omega) (by rw [t1, he])
      · refine s223_3 0 l n m hl hm (by omega) ?_ (key1 2 n m hl hm h1 h2 (by omega) he)
        rw [show Nat.ble 115792089237316195423570985008687907853269984665640564039457584007913129639936 (valL m) = false from by cases hb : Nat.ble 115792089237316195423570985008687907853269984665640564039457584007913129639936 (valL m) with | false => rfl | true => have := Nat.ble_eq.mp hb; omega]
        rfl
  exact key0 (valL l) _ l rfl h h16 hn (Nat.le_refl _) rfl
theorem e223_ok : EntryOk Try.prog 223 e223 := by
  intro args ms r obs h ho
  unfold e223 at h
  split at h
  · rename_i n t l
    cases h
    have h1 := Nat.beq_eq.mp (ho _ (List.mem_cons_self ..))
    subst h1
    have h2 := ho _ (List.mem_cons_of_mem _ (List.mem_cons_self ..))
    have h3 := Nat.ble_eq.mp (ho _ (List.mem_cons_of_mem _ (List.mem_cons_of_mem _ (List.mem_cons_self ..))))
    have h4 := Nat.ble_eq.mp (ho _ (List.mem_cons_of_mem _ (List.mem_cons_of_mem _ (List.mem_cons_of_mem _ (List.mem_cons_self ..)))))
    exact Spec.ro rfl rfl rfl (fun _ _ h => h) (s223n h2 h3 h4)
  · cases h
end Go.Proofs.Ytmjejlbmcefaoaa
namespace Go.Proofs.Ytmjejlbmcefaoaa
open Go Sx
def libr0 : List (Nat × Entry) := [(106, e106), (107, e107), (108, e108), (118, e118), (223, roE [.ints .u64] e223), (225, e225)] ++ libp4
theorem libr0_ok : AllOk Try.prog libr0 := .cons e106_ok (.cons e107_ok (.cons e108_ok (.cons e118_ok (.cons (roE_ok e223_ok) (.cons e225_ok libp4_ok)))))
theorem s105_1 (a : Nat) (h1 : List.length (lim 16 (nn a)) = 16) (h2 : limOk (lim 16 (nn a)) = true) : Sx.Spec Try.prog 105 [W.agg (numC a)] [] ⟨V.w (W.agg (numC (valL (lim 16 (nn a)) % 57896044618658097711785492504343953926634992332820282019728792003956564819949))), [], []⟩ :=
  spec_of_whole (tab_ok libr0_ok) mixed Try.func105 [] 1000000 [] (by kernel_rfl) (by kernel_rfl) (by kernel_rfl) (by kernel_rfl) (by kernel_rfl) (by kernel_rfl)
    (ocons (beqT h1) (ocons h2 (ocons rfl (ocons rfl (ocons rfl onil)))))

theorem s114_1 (a : Nat) (b : Nat) (h1 : List.length (lim 16 (nn a)) = 16) (h2 : List.length (lim 16 (nn b)) = 16) (h3 : limOk (lim 16 (nn a)) = true) (h4 : limOk (lim 16 (nn b)) = true) (h5 : List.length (lim 16 (nn a)) ≤ 1000000000) (h6 : List.length (lim 16 (nn b)) ≤ 1000000000) (h7 : List.length (lim 17 (valL (lim 16 (nn a)) + valL (lim 16 (nn b)))) = 17) (h8 : limOk (lim 17 (valL (lim 16 (nn a)) + valL (lim 16 (nn b)))) = true) : Sx.Spec Try.prog 114 [W.agg (numC a), W.agg (numC b)] [] ⟨V.w (W.agg (numC (valL (lim 17 (valL (lim 16 (nn a)) + valL (lim 16 (nn b)))) % 57896044618658097711785492504343953926634992332820282019728792003956564819949))), [], []⟩ :=
  spec_of_whole (tab_ok libr0_ok) mixed Try.func114 [] 1000000 [] (by kernel_rfl) (by kernel_rfl) (by kernel_rfl) (by kernel_rfl) (by kernel_rfl) (by kernel_rfl)
    (ocons (beqT h1) (ocons (beqT h2) (ocons h3 (ocons h4 (ocons (bleT h5) (ocons (bleT h6) (ocons (beqT h7) (ocons h8 (ocons rfl (ocons rfl (ocons rfl onil)))))))))))

theorem s109_1 (a : Nat) (b : Nat) (h1 : List.length (lim 16 (nn a)) = 16) (h2 : limOk (lim 16 (nn a)) = true) (h3 : List.length (lim 16 (nn a)) ≤ 1000000000) (h4 : List.length (lim 17 (valL (lim 16 (nn a)) + 57896044618658097711785492504343953926634992332820282019728792003956564819949)) = 17) (h5 : List.length (lim 16 (nn b)) = 16) (h6 : limOk (lim 17 (valL (lim 16 (nn a)) + 57896044618658097711785492504343953926634992332820282019728792003956564819949)) = true) (h7 : limOk (lim 16 (nn b)) = true) (h8 : List.length (lim 17 (valL (lim 16 (nn a)) + 57896044618658097711785492504343953926634992332820282019728792003956564819949)) ≤ 1000000000) (h9 : List.length (lim 16 (nn b)) ≤ 1000000000) (h10 : List.length (lim 17 (subN 17 (valL (lim 17 (valL (lim 16 (nn a)) + 57896044618658097711785492504343953926634992332820282019728792003956564819949))) (valL (lim 16 (nn b))))) = 17) (h11 : limOk (lim 17 (subN 17 (valL (lim 17 (valL (lim 16 (nn a)) + 57896044618658097711785492504343953926634992332820282019728792003956564819949))) (valL (lim 16 (nn b))))) = true) : Sx.Spec Try.prog 109 [W.agg (numC a), W.agg (numC b)] [] ⟨V.w (W.agg (numC (valL (lim 17 (subN 17 (valL (lim 17 (valL (lim 16 (nn a)) + 57896044618658097711785492504343953926634992332820282019728792003956564819949))) (valL (lim 16 (nn b))))) % 57896044618658097711785492504343953926634992332820282019728792003956564819949))), [], []⟩ :=
  spec_of_whole (tab_ok libr0_ok) mixed Try.func109 [] 1000000 [] (by kernel_rfl) (by kernel_rfl) (by kernel_rfl) (by kernel_rfl) (by kernel_rfl) (by kernel_rfl)
    (ocons (beqT h1) (ocons rfl (ocons h2 (ocons rfl (ocons (bleT h3) (ocons rfl (ocons (beqT h4) (ocons (beqT h5) (ocons h6 (ocons h7 (ocons (bleT h8) (ocons (bleT h9) (ocons (beqT h10) (ocons h11 (ocons rfl (ocons rfl (ocons rfl onil)))))))))))))))))

theorem s112_1 (a : Nat) (b : Nat) (h1 : List.length (lim 16 (nn a)) = 16) (h2 : List.length (lim 16 (nn b)) = 16) (h3 : limOk (lim 16 (nn a)) = true) (h4 : limOk (lim 16 (nn b)) = true) (h5 : List.length (lim 16 (nn a)) ≤ 1000000000) (h6 : List.length (lim 16 (nn b)) ≤ 1000000000) (h7 : List.length (lim 32 (valL (lim 16 (nn a)) * valL (lim 16 (nn b)))) = 32) (h8 : limOk (lim 32 (valL (lim 16 (nn a)) * valL (lim 16 (nn b)))) = true) : Sx.Spec Try.prog 112 [W.agg (numC a), W.agg (numC b)] [] ⟨V.w (W.agg (numC (valL (lim 32 (valL (lim 16 (nn a)) * valL (lim 16 (nn b)))) % 57896044618658097711785492504343953926634992332820282019728792003956564819949))), [], []⟩ :=
  spec_of_whole (tab_ok libr0_ok) mixed Try.func112 [] 1000000 [] (by kernel_rfl) (by kernel_rfl) (by kernel_rfl) (by kernel_rfl) (by kernel_rfl) (by kernel_rfl)
    (ocons (beqT h1) (ocons (beqT h2) (ocons h3 (ocons h4 (ocons (bleT h5) (ocons (bleT h6) (ocons (beqT h7) (ocons h8 (ocons rfl (ocons rfl (ocons rfl onil)))))))))))

theorem s117_1 (a : Nat) : Sx.Spec Try.prog 117 [W.agg (numC a)] [] ⟨V.w (W.agg (numC (powP (nn a) 57896044618658097711785492504343953926634992332820282019728792003956564819947))), [], []⟩ :=
  spec_of_whole (tab_ok libr0_ok) mixed Try.func117 [] 1000000 [] (by kernel_rfl) (by kernel_rfl) (by kernel_rfl) (by kernel_rfl) (by kernel_rfl) (by kernel_rfl)
    (ocons rfl (ocons rfl (ocons rfl (ocons rfl (ocons rfl onil)))))

theorem s115_1 (a : Nat) (h1 : (!eqNs [nn (nn (powP (nn a) 7237005577332262213973186563042994240829374041602535252466099000494570602494) * nn (powP (nn a) 7237005577332262213973186563042994240829374041602535252466099000494570602494) % 57896044618658097711785492504343953926634992332820282019728792003956564819949)] [nn a]) = true) (h2 : (!eqNs [nn (nn (nn (powP (nn a) 7237005577332262213973186563042994240829374041602535252466099000494570602494) * 19681161376707505956807079304988542015446066515923890162744021073123829784752 % 57896044618658097711785492504343953926634992332820282019728792003956564819949) * nn (nn (powP (nn a) 7237005577332262213973186563042994240829374041602535252466099000494570602494) * 19681161376707505956807079304988542015446066515923890162744021073123829784752 % 57896044618658097711785492504343953926634992332820282019728792003956564819949) % 57896044618658097711785492504343953926634992332820282019728792003956564819949)] [nn a]) = true) : Sx.Spec Try.prog 115 [W.agg (numC a)] [] ⟨V.tup [W.agg [C.u 0, C.u 0, C.u 0, C.u 0], W.c (C.v (Value.bool false))], [], []⟩ :=
  spec_of_whole (tab_ok libr0_ok) mixed Try.func115 [(12, true), (22, true)] 1000000 [] (by kernel_rfl) (by kernel_rfl) (by kernel_rfl) (by kernel_rfl) (by kernel_rfl) (by kernel_rfl)
    (ocons rfl (ocons rfl (ocons rfl (ocons rfl (ocons rfl (ocons h1 (ocons rfl (ocons rfl (ocons rfl (ocons rfl (ocons rfl (ocons rfl (ocons h2 (ocons rfl onil))))))))))))))
theorem s115_2 (a : Nat) (h1 : (!eqNs [nn (nn (powP (nn a) 7237005577332262213973186563042994240829374041602535252466099000494570602494) * nn (powP (nn a) 7237005577332262213973186563042994240829374041602535252466099000494570602494) % 57896044618658097711785492504343953926634992332820282019728792003956564819949)] [nn a]) = true) (h2 : (!!eqNs [nn (nn (nn (powP (nn a) 7237005577332262213973186563042994240829374041602535252466099000494570602494) * 19681161376707505956807079304988542015446066515923890162744021073123829784752 % 57896044618658097711785492504343953926634992332820282019728792003956564819949) * nn (nn (powP (nn a) 7237005577332262213973186563042994240829374041602535252466099000494570602494) * 19681161376707505956807079304988542015446066515923890162744021073123829784752 % 57896044618658097711785492504343953926634992332820282019728792003956564819949) % 57896044618658097711785492504343953926634992332820282019728792003956564819949)] [nn a]) = true) (h3 : nn (nn (powP (nn a) 7237005577332262213973186563042994240829374041602535252466099000494570602494) * 19681161376707505956807079304988542015446066515923890162744021073123829784752 % 57896044618658097711785492504343953926634992332820282019728792003956564819949) % 2 = 1) : Sx.Spec Try.prog 115 [W.agg (numC a)] [] ⟨V.tup [W.agg (numC (negN (nn (nn (powP (nn a) 7237005577332262213973186563042994240829374041602535252466099000494570602494) * 19681161376707505956807079304988542015446066515923890162744021073123829784752 % 57896044618658097711785492504343953926634992332820282019728792003956564819949)))), W.c (C.v (Value.bool true))], [], []⟩ :=
  spec_of_whole (tab_ok libr0_ok) mixed Try.func115 [(12, true), (22, false), (25, true)] 1000000 [] (by kernel_rfl) (by kernel_rfl) (by kernel_rfl) (by kernel_rfl) (by kernel_rfl) (by kernel_rfl)
    (ocons rfl (ocons rfl (ocons rfl (ocons rfl (ocons rfl (ocons h1 (ocons rfl (ocons rfl (ocons rfl (ocons rfl (ocons rfl (ocons rfl (ocons h2 (ocons (beqT h3) (ocons rfl (ocons rfl onil))))))))))))))))
theorem s115_3 (a : Nat) (h1 : (!eqNs [nn (nn (powP (nn a) 7237005577332262213973186563042994240829374041602535252466099000494570602494) * nn (powP (nn a) 7237005577332262213973186563042994240829374041602535252466099000494570602494) % 57896044618658097711785492504343953926634992332820282019728792003956564819949)] [nn a]) = true) (h2 : (!!eqNs [nn (nn (nn (powP (nn a) 7237005577332262213973186563042994240829374041602535252466099000494570602494) * 19681161376707505956807079304988542015446066515923890162744021073123829784752 % 57896044618658097711785492504343953926634992332820282019728792003956564819949) * nn (nn (powP (nn a) 7237005577332262213973186563042994240829374041602535252466099000494570602494) * 19681161376707505956807079304988542015446066515923890162744021073123829784752 % 57896044618658097711785492504343953926634992332820282019728792003956564819949) % 57896044618658097711785492504343953926634992332820282019728792003956564819949)] [nn a]) = true) (h3 : (!Nat.beq (nn (nn (powP (nn a) 7237005577332262213973186563042994240829374041602535252466099000494570602494) * 19681161376707505956807079304988542015446066515923890162744021073123829784752 % 57896044618658097711785492504343953926634992332820282019728792003956564819949) % 2) 1) = true) : Sx.Spec Try.prog 115 [W.agg (numC a)] [] ⟨V.tup [W.agg (numC (nn (powP (nn a) 7237005577332262213973186563042994240829374041602535252466099000494570602494) * 19681161376707505956807079304988542015446066515923890162744021073123829784752 % 57896044618658097711785492504343953926634992332820282019728792003956564819949)), W.c (C.v (Value.bool true))], [], []⟩ :=
  spec_of_whole (tab_ok libr0_ok) mixed Try.func115 [(12, true), (22, false), (25, false)] 1000000 [] (by kernel_rfl) (by kernel_rfl) (by kernel_rfl) (by kernel_rfl) (by kernel_rfl) (by kernel_rfl)
    (ocons rfl (ocons rfl (ocons rfl (ocons rfl (ocons rfl (ocons h1 (ocons rfl (ocons rfl (ocons rfl (ocons rfl (ocons rfl (ocons rfl (ocons h2 (ocons h3 (ocons rfl onil)))))))))))))))
theorem s115_5 (a : Nat) (h1 : (!!eqNs [nn (nn (powP (nn a) 7237005577332262213973186563042994240829374041602535252466099000494570602494) * nn (powP (nn a) 7237005577332262213973186563042994240829374041602535252466099000494570602494) % 57896044618658097711785492504343953926634992332820282019728792003956564819949)] [nn a]) = true) (h2 : nn (powP (nn a) 7237005577332262213973186563042994240829374041602535252466099000494570602494) % 2 = 1) : Sx.Spec Try.prog 115 [W.agg (numC a)] [] ⟨V.tup [W.agg (numC (negN (nn (powP (nn a) 7237005577332262213973186563042994240829374041602535252466099000494570602494)))), W.c (C.v (Value.bool true))], [], []⟩ :=
  spec_of_whole (tab_ok libr0_ok) mixed Try.func115 [(12, false), (22, false), (25, true)] 1000000 [] (by kernel_rfl) (by kernel_rfl) (by kernel_rfl) (by kernel_rfl) (by kernel_rfl) (by kernel_rfl)
    (ocons rfl (ocons rfl (ocons rfl (ocons rfl (ocons rfl (ocons h1 (ocons h1 (ocons (beqT h2) (ocons rfl (ocons rfl onil))))))))))
theorem s115_6 (a : Nat) (h1 : (!!eqNs [nn (nn (powP (nn a) 7237005577332262213973186563042994240829374041602535252466099000494570602494) * nn (powP (nn a) 7237005577332262213973186563042994240829374041602535252466099000494570602494) % 57896044618658097711785492504343953926634992332820282019728792003956564819949)] [nn a]) = true) (h2 : (!Nat.beq (nn (powP (nn a) 7237005577332262213973186563042994240829374041602535252466099000494570602494) % 2) 1) = true) : Sx.Spec Try.prog 115 [W.agg (numC a)] [] ⟨V.tup [W.agg (numC (powP (nn a) 7237005577332262213973186563042994240829374041602535252466099000494570602494)), W.c (C.v (Value.bool true))], [], []⟩ :=
  spec_of_whole (tab_ok libr0_ok) mixed Try.func115 [(12, false), (22, false), (25, false)] 1000000 [] (by kernel_rfl) (by kernel_rfl) (by kernel_rfl) (by kernel_rfl) (by kernel_rfl) (by kernel_rfl)
    (ocons rfl (ocons rfl (ocons rfl (ocons rfl (ocons rfl (ocons h1 (ocons h1 (ocons h2 (ocons rfl onil)))))))))


theorem pow17 : (65536 : Nat) ^ 17 = 115792089237316195423570985008687907853269984665640564039457584007913129639936 * 65536 := by decide
theorem pow32 : (65536 : Nat) ^ 32 = 115792089237316195423570985008687907853269984665640564039457584007913129639936 * 115792089237316195423570985008687907853269984665640564039457584007913129639936 := by decide
theorem val16 {a : Nat} (h : a < P256) : valL (lim 16 (nn a)) = a := by rw [valL_lim, nn_id h, Nat.mod_eq_of_lt (by rw [pow16]; exact h)]
def e105 : Entry := numsE [1] (nm1 fun a => vN (a % 57896044618658097711785492504343953926634992332820282019728792003956564819949))
theorem e105_ok : EntryOk Try.prog 105 e105 := numsE_ok fun ns h hl => by
  obtain ⟨a, rfl⟩ := ns1 h
  have k := s105_1 a (lim_length _ _) (limOk_lim _ _)
  rw [val16 (hl a (by simp))] at k
  exact k
def e114 : Entry := numsE [1, 1] (nm2 fun a b => vN ((a + b) % 57896044618658097711785492504343953926634992332820282019728792003956564819949))
theorem e114_ok : EntryOk Try.prog 114 e114 := numsE_ok fun ns h hl => by
  obtain ⟨a, b, rfl⟩ := ns2 h
  have ha := hl a (by simp)
  have hb := hl b (by simp)
  have k := s114_1 a b (lim_length _ _) (lim_length _ _) (limOk_lim _ _) (limOk_lim _ _) (by rw [lim_length]; omega) (by rw [lim_length]; omega) (lim_length _ _) (limOk_lim _ _)
  unfold P256 at ha hb
  rw [val16 ha, val16 hb, valL_lim, pow17, Nat.mod_eq_of_lt (show a + b < 115792089237316195423570985008687907853269984665640564039457584007913129639936 * 65536 by omega)] at k
  exact k
def e112 : Entry := numsE [1, 1] (nm2 fun a b => vN (a * b % 57896044618658097711785492504343953926634992332820282019728792003956564819949))
theorem e112_ok : EntryOk Try.prog 112 e112 := numsE_ok fun ns h hl => by
  obtain ⟨a, b, rfl⟩ := ns2 h
  have ha := hl a (by simp)
  have hb := hl b (by simp)
  have k := s112_1 a b (lim_length _ _) (lim_length _ _) (limOk_lim _ _) (limOk_lim _ _) (by rw [lim_length]; omega) (by rw [lim_length]; omega) (lim_length _ _) (limOk_lim _ _)
  rw [val16 ha, val16 hb, valL_lim, pow32, Nat.mod_eq_of_lt (show a * b < 115792089237316195423570985008687907853269984665640564039457584007913129639936 * 115792089237316195423570985008687907853269984665640564039457584007913129639936 from Nat.mul_lt_mul'' ha hb)] at k
  exact k
/-- a difference, as the reference takes it. -/
def subQ (a b : Nat) : Nat := valL (lim 17 (subN 17 (a + 57896044618658097711785492504343953926634992332820282019728792003956564819949) b)) % 57896044618658097711785492504343953926634992332820282019728792003956564819949
theorem subQ_eq {a b : Nat} (ha : a < P256) (hb : b ≤ 57896044618658097711785492504343953926634992332820282019728792003956564819949) : subQ a b = (a + 57896044618658097711785492504343953926634992332820282019728792003956564819949 - b) % 57896044618658097711785492504343953926634992332820282019728792003956564819949 := by
  unfold subQ subN
  unfold P256 at ha
  rw [valL_lim, pow17, Nat.mod_eq_of_lt (show b < 115792089237316195423570985008687907853269984665640564039457584007913129639936 * 65536 by omega), show a + 57896044618658097711785492504343953926634992332820282019728792003956564819949 + 115792089237316195423570985008687907853269984665640564039457584007913129639936 * 65536 - b = a + 57896044618658097711785492504343953926634992332820282019728792003956564819949 - b + 115792089237316195423570985008687907853269984665640564039457584007913129639936 * 65536 by omega, Nat.add_mod_right, Nat.mod_eq_of_lt (show a + 57896044618658097711785492504343953926634992332820282019728792003956564819949 - b < 115792089237316195423570985008687907853269984665640564039457584007913129639936 * 65536 by omega)]
def e109 : Entry := numsE [1, 1] (nm2 fun a b => vN (subQ a b))
theorem e109_ok : EntryOk Try.prog 109 e109 := numsE_ok fun ns h hl => by
  obtain ⟨a, b, rfl⟩ := ns2 h
  have ha := hl a (by simp)
  have hb := hl b (by simp)
  have k := s109_1 a b (lim_length _ _) (limOk_lim _ _) (by rw [lim_length]; omega) (lim_length _ _) (lim_length _ _) (limOk_lim _ _) (limOk_lim _ _) (by rw [lim_length]; omega) (by rw [lim_length]; omega) (lim_length _ _) (limOk_lim _ _)
  have e : valL (lim 17 (a + 57896044618658097711785492504343953926634992332820282019728792003956564819949)) = a + 57896044618658097711785492504343953926634992332820282019728792003956564819949 := by
    unfold P256 at ha
    rw [valL_lim, pow17, Nat.mod_eq_of_lt (show a + 57896044618658097711785492504343953926634992332820282019728792003956564819949 < 115792089237316195423570985008687907853269984665640564039457584007913129639936 * 65536 by omega)]
  rw [val16 ha, val16 hb, e] at k
  exact k
def e117 : Entry := numsE [1] (nm1 fun a => vN (powP a 57896044618658097711785492504343953926634992332820282019728792003956564819947))
theorem e117_ok : EntryOk Try.prog 117 e117 := numsE_ok fun ns h hl => by
  obtain ⟨a, rfl⟩ := ns1 h
  have k := s117_1 a
  rw [nn_id (hl a (by simp))] at k
  exact k
/-- a root, as prime takes it: of a power, or of that times a root of -1. -/
def rootX (a x : Nat) : Nat := bif Nat.beq (x * x % 57896044618658097711785492504343953926634992332820282019728792003956564819949) a then x else x * 19681161376707505956807079304988542015446066515923890162744021073123829784752 % 57896044618658097711785492504343953926634992332820282019728792003956564819949
def rootY (a y : Nat) : Nat := bif Nat.beq (y * y % 57896044618658097711785492504343953926634992332820282019728792003956564819949) a then (bif Nat.beq (y % 2) 1 then negN y else y) else 0
def root1 (a : Nat) : Nat := rootX a (powP a 7237005577332262213973186563042994240829374041602535252466099000494570602494)
def rootP (a : Nat) : Nat := rootY a (root1 a)
def rootB (a : Nat) : Bool := Nat.beq (root1 a * root1 a % 57896044618658097711785492504343953926634992332820282019728792003956564819949) a
def e115 : Entry := numsE [1] (nm1 fun a => .tup [.agg (numC (rootP a)), .c (.v (.bool (rootB a)))])
theorem powP_lt (a k : Nat) : powP a k < 57896044618658097711785492504343953926634992332820282019728792003956564819949 := by
  have key : ∀ f k, powR a f k < 57896044618658097711785492504343953926634992332820282019728792003956564819949 := by
    intro f
    induction f with
    | zero => intro k; rw [powR]; decide
    | succ f ih =>
      intro k
      rw [powR]
      cases Nat.beq k 0 with
      | true => exact show 1 < 57896044618658097711785492504343953926634992332820282019728792003956564819949 by decide
      | false =>
        simp only [cond_false]
        cases Nat.beq (k % 2) 1 with
        | true => exact Nat.mod_lt _ (by decide)
        | false => exact Nat.mod_lt _ (by decide)
  exact key 256 k
theorem nn_p {x : Nat} (h : x < 57896044618658097711785492504343953926634992332820282019728792003956564819949) : nn x = x := nn_id (Nat.lt_trans h (show 57896044618658097711785492504343953926634992332820282019728792003956564819949 < 115792089237316195423570985008687907853269984665640564039457584007913129639936 by decide))
theorem e115_ok : EntryOk Try.prog 115 e115 := numsE_ok fun ns h hl => by
  obtain ⟨a, rfl⟩ := ns1 h
  have na := nn_id (hl a (by simp))
  have np := nn_p (powP_lt a 7237005577332262213973186563042994240829374041602535252466099000494570602494)
  have nm : ∀ x, nn (x % 57896044618658097711785492504343953926634992332820282019728792003956564819949) = x % 57896044618658097711785492504343953926634992332820282019728792003956564819949 := fun x => nn_p (Nat.mod_lt _ (by decide))
  have k1 := s115_1 a
  have k2 := s115_2 a
  have k3 := s115_3 a
  have k5 := s115_5 a
  have k6 := s115_6 a
  simp only [na, np, nm, eqNs1] at k1 k2 k3 k5 k6
  show Sx.Spec _ _ _ _ ⟨.tup [.agg (numC (rootY a (rootX a (powP a 7237005577332262213973186563042994240829374041602535252466099000494570602494)))), .c (.v (.bool (Nat.beq (rootX a (powP a 7237005577332262213973186563042994240829374041602535252466099000494570602494) * rootX a (powP a 7237005577332262213973186563042994240829374041602535252466099000494570602494) % 57896044618658097711785492504343953926634992332820282019728792003956564819949) a)))], [], []⟩
  generalize powP a 7237005577332262213973186563042994240829374041602535252466099000494570602494 = x at *
  cases hb : Nat.beq (x * x % 57896044618658097711785492504343953926634992332820282019728792003956564819949) a with
  | true =>
    have hr : rootX a x = x := by unfold rootX; rw [hb, cond_true]
    rw [hr]
    rw [hb] at k5 k6 ⊢
    cases ho : Nat.beq (x % 2) 1 with
    | true =>
      have hP : rootY a x = negN x := by unfold rootY; rw [hb, ho, cond_true, cond_true]
      rw [hP]
      exact k5 rfl (Nat.beq_eq.mp ho)
    | false =>
      have hP : rootY a x = x := by unfold rootY; rw [hb, ho, cond_true, cond_false]
      rw [hP]
      exact k6 rfl (by rw [ho]; rfl)
  | false =>
    have hr : rootX a x = x * 19681161376707505956807079304988542015446066515923890162744021073123829784752 % 57896044618658097711785492504343953926634992332820282019728792003956564819949 := by unfold rootX; rw [hb, cond_false]
    rw [hb] at k1 k2 k3
    rw [hr]
    generalize x * 19681161376707505956807079304988542015446066515923890162744021073123829784752 % 57896044618658097711785492504343953926634992332820282019728792003956564819949 = y at *
    cases hB : Nat.beq (y * y % 57896044618658097711785492504343953926634992332820282019728792003956564819949) a with
    | false =>
      have hP : rootY a y = 0 := by unfold rootY; rw [hB, cond_false]
      rw [hP]
      exact k1 rfl (by rw [hB]; rfl)
    | true =>
      rw [hB] at k2 k3
      cases ho : Nat.beq (y % 2) 1 with
      | true =>
        have hP : rootY a y = negN y := by unfold rootY; rw [hB, ho, cond_true, cond_true]
        rw [hP]
        exact k2 rfl rfl (Nat.beq_eq.mp ho)
      | false =>
        have hP : rootY a y = y := by unfold rootY; rw [hB, ho, cond_true, cond_false]
        rw [hP]
        exact k3 rfl rfl (by rw [ho]; rfl)
end Go.Proofs.Ytmjejlbmcefaoaa
namespace Go.Proofs.Ytmjejlbmcefaoaa
open Go Sx

def orF (F G : Entry) : Entry := fun args ms => match F args ms with
  | some r => some r
  | none => G args ms
theorem orF_ok {P : Program} {f : FuncId} {F G : Entry} (hF : EntryOk P f F) (hG : EntryOk P f G) : EntryOk P f (orF F G) := by
  intro args ms r obs h ho
  unfold orF at h
  split at h
  · rename_i p hp
    cases h
    exact hF _ _ _ _ hp ho
  · exact hG _ _ _ _ h ho

/-- p and a word that is no limb: minus two, minus one. -/
def e85x : Entry := fun args ms => match args, ms with
  | [.c (.sl 0 0 16), .c (.sl 1 0 1)], [⟨t, .ro, .ints .u64 l⟩, ⟨u, .ro, .ints .u64 m⟩] =>
    bif Nat.beq t 22 && Nat.beq u 22 && decide (l = [65517, 65535, 65535, 65535, 65535, 65535, 65535, 65535, 65535, 65535, 65535, 65535, 65535, 65535, 65535, 32767]) then
      (bif decide (m = [18446744073709551614]) then some (⟨.w (.c (.own 2)), [], [⟨22, .own 17, .ints .u64 [65515, 65535, 65535, 65535, 65535, 65535, 65535, 65535, 65535, 65535, 65535, 65535, 65535, 65535, 65535, 32767, 0]⟩]⟩, [])
       else bif decide (m = [18446744073709551615]) then some (⟨.w (.c (.own 2)), [], [⟨22, .own 17, .ints .u64 [65516, 65535, 65535, 65535, 65535, 65535, 65535, 65535, 65535, 65535, 65535, 65535, 65535, 65535, 65535, 32767, 0]⟩]⟩, []) else none)
    else none
  | _, _ => none
theorem s85x_1 : Sx.Spec Try.prog 85 [W.c (C.sl 0 0 16), W.c (C.sl 1 0 1)] [Blk.mk 22 Mode.ro (K.ints IntKind.u64 [65517, 65535, 65535, 65535, 65535, 65535, 65535, 65535, 65535, 65535, 65535, 65535, 65535, 65535, 65535, 32767]), Blk.mk 22 Mode.ro (K.ints IntKind.u64 [18446744073709551614])] ⟨V.w (W.c (C.own 2)), [], [Blk.mk 22 (Mode.own 17) (K.ints IntKind.u64 [65515, 65535, 65535, 65535, 65535, 65535, 65535, 65535, 65535, 65535, 65535, 65535, 65535, 65535, 65535, 32767, 0])]⟩ :=
  spec_of_whole (tab_ok libg0_ok) mixed Try.func85 [] 1000000 [(0, none), (1, none), (30, none)] (by kernel_rfl) (by kernel_rfl) (by kernel_rfl) (by kernel_rfl) (by kernel_rfl) (by kernel_rfl)
    (ocons rfl (ocons rfl (ocons rfl (ocons rfl (ocons rfl (ocons rfl (ocons rfl (ocons rfl (ocons rfl (ocons rfl (ocons rfl (ocons rfl (ocons rfl (ocons rfl (ocons rfl (ocons rfl (ocons rfl (ocons rfl (ocons rfl (ocons rfl (ocons rfl (ocons rfl (ocons rfl (ocons rfl (ocons rfl (ocons rfl (ocons rfl (ocons rfl (ocons rfl (ocons rfl (ocons rfl (ocons rfl (ocons rfl (ocons rfl (ocons rfl (ocons rfl (ocons rfl (ocons rfl (ocons rfl (ocons rfl (ocons rfl (ocons rfl (ocons rfl (ocons rfl (ocons rfl (ocons rfl (ocons rfl (ocons rfl (ocons rfl (ocons rfl (ocons rfl (ocons rfl (ocons rfl (ocons rfl (ocons rfl (ocons rfl (ocons rfl (ocons rfl (ocons rfl (ocons rfl (ocons rfl (ocons rfl (ocons rfl (ocons rfl (ocons rfl (ocons rfl (ocons rfl (ocons rfl (ocons rfl (ocons rfl (ocons rfl (ocons rfl (ocons rfl (ocons rfl (ocons rfl (ocons rfl (ocons rfl (ocons rfl (ocons rfl (ocons rfl (ocons rfl (ocons rfl (ocons rfl (ocons rfl (ocons rfl (ocons rfl (ocons rfl (ocons rfl (ocons rfl (ocons rfl (ocons rfl (ocons rfl (ocons rfl (ocons rfl (ocons rfl (ocons rfl (ocons rfl (ocons rfl (ocons rfl (ocons rfl (ocons rfl (ocons rfl (ocons rfl (ocons rfl (ocons rfl (ocons rfl (ocons rfl (ocons rfl (ocons rfl (ocons rfl (ocons rfl (ocons rfl (ocons rfl (ocons rfl (ocons rfl (ocons rfl (ocons rfl (ocons rfl (ocons rfl (ocons rfl (ocons rfl (ocons rfl (ocons rfl (ocons rfl (ocons rfl (ocons rfl (ocons rfl (ocons rfl (ocons rfl (ocons rfl (ocons rfl (ocons rfl (ocons rfl (ocons rfl (ocons rfl (ocons rfl (ocons rfl (ocons rfl (ocons rfl onil)))))))))))))))))))))))))))))))))))))))))))))))))))))))))))))))))))))))))))))))))))))))))))))))))))))))))))))))))))))))))))))))))))))))))))

theorem s85y_1 : Sx.Spec Try.prog 85 [W.c (C.sl 0 0 16), W.c (C.sl 1 0 1)] [Blk.mk 22 Mode.ro (K.ints IntKind.u64 [65517, 65535, 65535, 65535, 65535, 65535, 65535, 65535, 65535, 65535, 65535, 65535, 65535, 65535, 65535, 32767]), Blk.mk 22 Mode.ro (K.ints IntKind.u64 [18446744073709551615])] ⟨V.w (W.c (C.own 2)), [], [Blk.mk 22 (Mode.own 17) (K.ints IntKind.u64 [65516, 65535, 65535, 65535, 65535, 65535, 65535, 65535, 65535, 65535, 65535, 65535, 65535, 65535, 65535, 32767, 0])]⟩ :=
  spec_of_whole (tab_ok libg0_ok) mixed Try.func85 [] 1000000 [(0, none), (1, none), (30, none)] (by kernel_rfl) (by kernel_rfl) (by kernel_rfl) (by kernel_rfl) (by kernel_rfl) (by kernel_rfl)
    (ocons rfl (ocons rfl (ocons rfl (ocons rfl (ocons rfl (ocons rfl (ocons rfl (ocons rfl (ocons rfl (ocons rfl (ocons rfl (ocons rfl (ocons rfl (ocons rfl (ocons rfl (ocons rfl (ocons rfl (ocons rfl (ocons rfl (ocons rfl (ocons rfl (ocons rfl (ocons rfl (ocons rfl (ocons rfl (ocons rfl (ocons rfl (ocons rfl (ocons rfl (ocons rfl (ocons rfl (ocons rfl (ocons rfl (ocons rfl (ocons rfl (ocons rfl (ocons rfl (ocons rfl (ocons rfl (ocons rfl (ocons rfl (ocons rfl (ocons rfl (ocons rfl (ocons rfl (ocons rfl (ocons rfl (ocons rfl (ocons rfl (ocons rfl (ocons rfl (ocons rfl (ocons rfl (ocons rfl (ocons rfl (ocons rfl (ocons rfl (ocons rfl (ocons rfl (ocons rfl (ocons rfl (ocons rfl (ocons rfl (ocons rfl (ocons rfl (ocons rfl (ocons rfl (ocons rfl (ocons rfl (ocons rfl (ocons rfl (ocons rfl (ocons rfl (ocons rfl (ocons rfl (ocons rfl (ocons rfl (ocons rfl (ocons rfl (ocons rfl (ocons rfl (ocons rfl (ocons rfl (ocons rfl (ocons rfl (ocons rfl (ocons rfl (ocons rfl (ocons rfl (ocons rfl (ocons rfl (ocons rfl (ocons rfl (ocons rfl (ocons rfl (ocons rfl (ocons rfl (ocons rfl (ocons rfl (ocons rfl (ocons rfl (ocons rfl (ocons rfl (ocons rfl (ocons rfl (ocons rfl (ocons rfl (ocons rfl (ocons rfl (ocons rfl (ocons rfl (ocons rfl (ocons rfl (ocons rfl (ocons rfl (ocons rfl (ocons rfl (ocons rfl (ocons rfl (ocons rfl (ocons rfl (ocons rfl (ocons rfl (ocons rfl (ocons rfl (ocons rfl (ocons rfl (ocons rfl (ocons rfl (ocons rfl (ocons rfl (ocons rfl (ocons rfl (ocons rfl (ocons rfl (ocons rfl (ocons rfl (ocons rfl (ocons rfl onil)))))))))))))))))))))))))))))))))))))))))))))))))))))))))))))))))))))))))))))))))))))))))))))))))))))))))))))))))))))))))))))))))))))))))))


theorem e85x_ok : EntryOk Try.prog 85 e85x := by
  intro args ms r obs h ho
  unfold e85x at h
  split at h
  · rename_i t l u m
    cases hb : Nat.beq t 22 && Nat.beq u 22 && decide (l = [65517, 65535, 65535, 65535, 65535, 65535, 65535, 65535, 65535, 65535, 65535, 65535, 65535, 65535, 65535, 32767]) with
    | false => rw [hb] at h; cases h
    | true =>
      rw [hb, cond_true] at h
      simp only [Bool.and_eq_true, Nat.beq_eq, decide_eq_true_eq] at hb
      obtain ⟨⟨rfl, rfl⟩, rfl⟩ := hb
      cases h1 : decide (m = [18446744073709551614]) with
      | true =>
        rw [h1, cond_true] at h
        have := of_decide_eq_true h1
        subst this
        cases h
        exact s85x_1
      | false =>
        rw [h1, cond_false] at h
        cases h2 : decide (m = [18446744073709551615]) with
        | true =>
          rw [h2, cond_true] at h
          have := of_decide_eq_true h2
          subst this
          cases h
          exact s85y_1
        | false => rw [h2] at h; cases h
  · cases h
def libr1 :List (Nat × Entry) := [(105, e105), (109, e109), (112, e112), (114, e114), (115, e115), (117, e117)] ++ libr0
def libr1x : List (Nat × Entry) := (85, roE [.ints .u64, .ints .u64] (orF e85x e85)) :: libr1
theorem libr1_ok : AllOk Try.prog libr1 := .cons e105_ok (.cons e109_ok (.cons e112_ok (.cons e114_ok (.cons e115_ok (.cons e117_ok libr0_ok)))))
theorem libr1x_ok : AllOk Try.prog libr1x := .cons (roE_ok (orF_ok e85x_ok e85_ok)) libr1_ok
noncomputable def s119k0 : List Item := kAt Try.prog (tab libr1) Try.f119 [] 0 [W.agg [C.u 1, C.u 0, C.u 0, C.u 0], W.agg [C.u 1, C.u 0, C.u 0, C.u 0]] []
noncomputable def s119st0 (k : Nat) (t8 : Int) (b2_0 : Nat) (b2_1 : Nat) (b2_2 : Nat) (b2_3 : Nat) (b3_0 : Nat) (b3_1 : Nat) (b3_2 : Nat) (b3_3 : Nat) : Cfg := cfg s119k0 [4, 5, 6, 7, 8] [V.w (W.c (C.ptr 0 0)), V.w (W.c (C.own 1)), V.w (W.c (C.ptr 2 0)), V.w (W.c (C.ptr 3 0)), V.int IntKind.i64 t8] [Blk.mk 79 Mode.rw (K.cs [C.u 0, C.u 0, C.u 0, C.u 0]), Blk.mk 22 (Mode.own 16) (K.ints IntKind.u64 (lim 16 (nn k))), Blk.mk 79 Mode.rw (K.cs [C.u b2_0, C.u b2_1, C.u b2_2, C.u b2_3]), Blk.mk 79 Mode.rw (K.cs [C.u b3_0, C.u b3_1, C.u b3_2, C.u b3_3])]
theorem s119_1 {ρ : Env} {w : World} {r : Res} (a : Nat) (k : Nat) (hg : G (mkX Try.prog (tab libr1) Try.f119 [] ρ w r) (s119st0 k (0) (1) (0) (0) (0) (a) (a / 18446744073709551616) (a / 340282366920938463463374607431768211456) (a / 6277101735386680763835789423207666416102355444464034512896))) : G (mkX Try.prog (tab libr1) Try.f119 [] ρ w r) (cfg [.code (Try.f119.body.getD .skip)] (List.range 2) ([W.agg (numC a), W.agg (numC k)].map V.w) []) :=
  G.seg (X := mkX Try.prog (tab libr1) Try.f119 [] ρ w r) ⟨tab_ok libr1_ok, mixed⟩ [] 1000000 0 [4, 5, 6, 7, 8] [(8, none), (16, none), (28, none), (40, none)] (k := s119k0) (vs := [V.w (W.c (C.ptr 0 0)), V.w (W.c (C.own 1)), V.w (W.c (C.ptr 2 0)), V.w (W.c (C.ptr 3 0)), V.int IntKind.i64 0]) (bs := [Blk.mk 79 Mode.rw (K.cs [C.u 0, C.u 0, C.u 0, C.u 0]), Blk.mk 22 (Mode.own 16) (K.ints IntKind.u64 (lim 16 (nn k))), Blk.mk 79 Mode.rw (K.cs [C.u 1, C.u 0, C.u 0, C.u 0]), Blk.mk 79 Mode.rw (K.cs (numC a))]) (by kernel_rfl) (by kernel_rfl)
    (ocons rfl (ocons rfl (ocons rfl onil))) hg
theorem s119_2 {ρ : Env} {w : World} {r : Res} (a : Nat) (k : Nat) (t8 : Int) (b2_0 : Nat) (b2_1 : Nat) (b2_2 : Nat) (b2_3 : Nat) (b3_0 : Nat) (b3_1 : Nat) (b3_2 : Nat) (b3_3 : Nat) (h1 : t8 < 256) (h2 : List.length (lim 16 (nn k)) = 16) (h3 : limOk (lim 16 (nn k)) = true) (h4 : 0 ≤ t8) (h5 : t8 ≤ 16000000000) (h6 : (↑(bitL (lim 16 (nn k)) t8) : Int) = 1) (hg : G (mkX Try.prog (tab libr1) Try.f119 [] ρ w r) (s119st0 k (IntKind.wrap IntKind.i64 (t8 + 1)) (num4 (b2_0 % 18446744073709551616) (b2_1 % 18446744073709551616) (b2_2 % 18446744073709551616) (b2_3 % 18446744073709551616) * num4 (b3_0 % 18446744073709551616) (b3_1 % 18446744073709551616) (b3_2 % 18446744073709551616) (b3_3 % 18446744073709551616) % 57896044618658097711785492504343953926634992332820282019728792003956564819949) (num4 (b2_0 % 18446744073709551616) (b2_1 % 18446744073709551616) (b2_2 % 18446744073709551616) (b2_3 % 18446744073709551616) * num4 (b3_0 % 18446744073709551616) (b3_1 % 18446744073709551616) (b3_2 % 18446744073709551616) (b3_3 % 18446744073709551616) % 57896044618658097711785492504343953926634992332820282019728792003956564819949 / 18446744073709551616) (num4 (b2_0 % 18446744073709551616) (b2_1 % 18446744073709551616) (b2_2 % 18446744073709551616) (b2_3 % 18446744073709551616) * num4 (b3_0 % 18446744073709551616) (b3_1 % 18446744073709551616) (b3_2 % 18446744073709551616) (b3_3 % 18446744073709551616) % 57896044618658097711785492504343953926634992332820282019728792003956564819949 / 340282366920938463463374607431768211456) (num4 (b2_0 % 18446744073709551616) (b2_1 % 18446744073709551616) (b2_2 % 18446744073709551616) (b2_3 % 18446744073709551616) * num4 (b3_0 % 18446744073709551616) (b3_1 % 18446744073709551616) (b3_2 % 18446744073709551616) (b3_3 % 18446744073709551616) % 57896044618658097711785492504343953926634992332820282019728792003956564819949 / 6277101735386680763835789423207666416102355444464034512896) (num4 (b3_0 % 18446744073709551616) (b3_1 % 18446744073709551616) (b3_2 % 18446744073709551616) (b3_3 % 18446744073709551616) * num4 (b3_0 % 18446744073709551616) (b3_1 % 18446744073709551616) (b3_2 % 18446744073709551616) (b3_3 % 18446744073709551616) % 57896044618658097711785492504343953926634992332820282019728792003956564819949) (num4 (b3_0 % 18446744073709551616) (b3_1 % 18446744073709551616) (b3_2 % 18446744073709551616) (b3_3 % 18446744073709551616) * num4 (b3_0 % 18446744073709551616) (b3_1 % 18446744073709551616) (b3_2 % 18446744073709551616) (b3_3 % 18446744073709551616) % 57896044618658097711785492504343953926634992332820282019728792003956564819949 / 18446744073709551616) (num4 (b3_0 % 18446744073709551616) (b3_1 % 18446744073709551616) (b3_2 % 18446744073709551616) (b3_3 % 18446744073709551616) * num4 (b3_0 % 18446744073709551616) (b3_1 % 18446744073709551616) (b3_2 % 18446744073709551616) (b3_3 % 18446744073709551616) % 57896044618658097711785492504343953926634992332820282019728792003956564819949 / 340282366920938463463374607431768211456) (num4 (b3_0 % 18446744073709551616) (b3_1 % 18446744073709551616) (b3_2 % 18446744073709551616) (b3_3 % 18446744073709551616) * num4 (b3_0 % 18446744073709551616) (b3_1 % 18446744073709551616) (b3_2 % 18446744073709551616) (b3_3 % 18446744073709551616) % 57896044618658097711785492504343953926634992332820282019728792003956564819949 / 6277101735386680763835789423207666416102355444464034512896))) : G (mkX Try.prog (tab libr1) Try.f119 [] ρ w r) (s119st0 k t8 b2_0 b2_1 b2_2 b2_3 b3_0 b3_1 b3_2 b3_3) :=
  G.seg (X := mkX Try.prog (tab libr1) Try.f119 [] ρ w r) ⟨tab_ok libr1_ok, mixed⟩ [(14, true), (20, true)] 1000000 0 [4, 5, 6, 7, 8] [(0, none), (1, none), (2, none), (3, none)] (k := s119k0) (vs := [V.w (W.c (C.ptr 0 0)), V.w (W.c (C.own 1)), V.w (W.c (C.ptr 2 0)), V.w (W.c (C.ptr 3 0)), V.int IntKind.i64 (IntKind.wrap IntKind.i64 (t8 + 1))]) (bs := [Blk.mk 79 Mode.rw (K.cs [C.u 0, C.u 0, C.u 0, C.u 0]), Blk.mk 22 (Mode.own 16) (K.ints IntKind.u64 (lim 16 (nn k))), Blk.mk 79 Mode.rw (K.cs (numC (num4 (b2_0 % 18446744073709551616) (b2_1 % 18446744073709551616) (b2_2 % 18446744073709551616) (b2_3 % 18446744073709551616) * num4 (b3_0 % 18446744073709551616) (b3_1 % 18446744073709551616) (b3_2 % 18446744073709551616) (b3_3 % 18446744073709551616) % 57896044618658097711785492504343953926634992332820282019728792003956564819949))), Blk.mk 79 Mode.rw (K.cs (numC (num4 (b3_0 % 18446744073709551616) (b3_1 % 18446744073709551616) (b3_2 % 18446744073709551616) (b3_3 % 18446744073709551616) * num4 (b3_0 % 18446744073709551616) (b3_1 % 18446744073709551616) (b3_2 % 18446744073709551616) (b3_3 % 18446744073709551616) % 57896044618658097711785492504343953926634992332820282019728792003956564819949)))]) (by kernel_rfl) (by kernel_rfl)
    (ocons (decide_eq_true h1) (ocons (beqT h2) (ocons h3 (ocons (decide_eq_true h4) (ocons (decide_eq_true h5) (ocons (eqI h6) (ocons rfl (ocons rfl onil)))))))) hg
theorem s119_3 {ρ : Env} {w : World} {r : Res} (a : Nat) (k : Nat) (t8 : Int) (b2_0 : Nat) (b2_1 : Nat) (b2_2 : Nat) (b2_3 : Nat) (b3_0 : Nat) (b3_1 : Nat) (b3_2 : Nat) (b3_3 : Nat) (h1 : t8 < 256) (h2 : List.length (lim 16 (nn k)) = 16) (h3 : limOk (lim 16 (nn k)) = true) (h4 : 0 ≤ t8) (h5 : t8 ≤ 16000000000) (h6 : ¬(↑(bitL (lim 16 (nn k)) t8) : Int) = 1) (hg : G (mkX Try.prog (tab libr1) Try.f119 [] ρ w r) (s119st0 k (IntKind.wrap IntKind.i64 (t8 + 1)) (b2_0) (b2_1) (b2_2) (b2_3) (num4 (b3_0 % 18446744073709551616) (b3_1 % 18446744073709551616) (b3_2 % 18446744073709551616) (b3_3 % 18446744073709551616) * num4 (b3_0 % 18446744073709551616) (b3_1 % 18446744073709551616) (b3_2 % 18446744073709551616) (b3_3 % 18446744073709551616) % 57896044618658097711785492504343953926634992332820282019728792003956564819949) (num4 (b3_0 % 18446744073709551616) (b3_1 % 18446744073709551616) (b3_2 % 18446744073709551616) (b3_3 % 18446744073709551616) * num4 (b3_0 % 18446744073709551616) (b3_1 % 18446744073709551616) (b3_2 % 18446744073709551616) (b3_3 % 18446744073709551616) % 57896044618658097711785492504343953926634992332820282019728792003956564819949 / 18446744073709551616) (num4 (b3_0 % 18446744073709551616) (b3_1 % 18446744073709551616) (b3_2 % 18446744073709551616) (b3_3 % 18446744073709551616) * num4 (b3_0 % 18446744073709551616) (b3_1 % 18446744073709551616) (b3_2 % 18446744073709551616) (b3_3 % 18446744073709551616) % 57896044618658097711785492504343953926634992332820282019728792003956564819949 / 340282366920938463463374607431768211456) (num4 (b3_0 % 18446744073709551616) (b3_1 % 18446744073709551616) (b3_2 % 18446744073709551616) (b3_3 % 18446744073709551616) * num4 (b3_0 % 18446744073709551616) (b3_1 % 18446744073709551616) (b3_2 % 18446744073709551616) (b3_3 % 18446744073709551616) % 57896044618658097711785492504343953926634992332820282019728792003956564819949 / 6277101735386680763835789423207666416102355444464034512896))) : G (mkX Try.prog (tab libr1) Try.f119 [] ρ w r) (s119st0 k t8 b2_0 b2_1 b2_2 b2_3 b3_0 b3_1 b3_2 b3_3) :=
  G.seg (X := mkX Try.prog (tab libr1) Try.f119 [] ρ w r) ⟨tab_ok libr1_ok, mixed⟩ [(14, true), (20, false)] 1000000 0 [4, 5, 6, 7, 8] [(0, none), (1, none), (2, none), (3, none)] (k := s119k0) (vs := [V.w (W.c (C.ptr 0 0)), V.w (W.c (C.own 1)), V.w (W.c (C.ptr 2 0)), V.w (W.c (C.ptr 3 0)), V.int IntKind.i64 (IntKind.wrap IntKind.i64 (t8 + 1))]) (bs := [Blk.mk 79 Mode.rw (K.cs [C.u 0, C.u 0, C.u 0, C.u 0]), Blk.mk 22 (Mode.own 16) (K.ints IntKind.u64 (lim 16 (nn k))), Blk.mk 79 Mode.rw (K.cs [C.u b2_0, C.u b2_1, C.u b2_2, C.u b2_3]), Blk.mk 79 Mode.rw (K.cs (numC (num4 (b3_0 % 18446744073709551616) (b3_1 % 18446744073709551616) (b3_2 % 18446744073709551616) (b3_3 % 18446744073709551616) * num4 (b3_0 % 18446744073709551616) (b3_1 % 18446744073709551616) (b3_2 % 18446744073709551616) (b3_3 % 18446744073709551616) % 57896044618658097711785492504343953926634992332820282019728792003956564819949)))]) (by kernel_rfl) (by kernel_rfl)
    (ocons (decide_eq_true h1) (ocons (beqT h2) (ocons h3 (ocons (decide_eq_true h4) (ocons (decide_eq_true h5) (ocons (neI h6) (ocons rfl onil))))))) hg
theorem s119_4 {ρ : Env} {w : World} (a : Nat) (k : Nat) (t8 : Int) (b2_0 : Nat) (b2_1 : Nat) (b2_2 : Nat) (b2_3 : Nat) (b3_0 : Nat) (b3_1 : Nat) (b3_2 : Nat) (b3_3 : Nat) (h1 : ¬t8 < 256) : G (mkX Try.prog (tab libr1) Try.f119 [] ρ w ⟨V.w (W.agg [C.u b2_0, C.u b2_1, C.u b2_2, C.u b2_3]), [], []⟩) (s119st0 k t8 b2_0 b2_1 b2_2 b2_3 b3_0 b3_1 b3_2 b3_3) :=
  G.ends (tab_ok libr1_ok) mixed [(14, false)] 1000000 [] (by kernel_rfl) (by kernel_rfl) (by kernel_rfl) (by kernel_rfl)
    (ocons (ndec h1) (ocons rfl onil))

theorem s228a_1 : Sx.Spec Try.prog 228 [W.int IntKind.i64 (-2), W.int IntKind.i64 0] [] ⟨V.w (W.agg [C.u 57896044618658097711785492504343953926634992332820282019728792003956564819947, C.u 3138550867693340381917894711603833208051177722232017256447, C.u 170141183460469231731687303715884105727, C.u 9223372036854775807]), [], []⟩ :=
  spec_of_whole (tab_ok libr1x_ok) mixed Try.func228 [] 1000000 [] (by kernel_rfl) (by kernel_rfl) (by kernel_rfl) (by kernel_rfl) (by kernel_rfl) (by kernel_rfl)
    (ocons rfl (ocons rfl (ocons rfl (ocons rfl (ocons rfl (ocons rfl (ocons rfl (ocons rfl (ocons rfl (ocons rfl (ocons rfl (ocons rfl (ocons rfl (ocons rfl (ocons rfl (ocons rfl (ocons rfl (ocons rfl (ocons rfl (ocons rfl (ocons rfl (ocons rfl (ocons rfl (ocons rfl (ocons rfl (ocons rfl (ocons rfl (ocons rfl (ocons rfl (ocons rfl (ocons rfl (ocons rfl (ocons rfl (ocons rfl (ocons rfl (ocons rfl (ocons rfl (ocons rfl (ocons rfl (ocons rfl (ocons rfl (ocons rfl (ocons rfl (ocons rfl (ocons rfl (ocons rfl (ocons rfl (ocons rfl (ocons rfl (ocons rfl (ocons rfl (ocons rfl (ocons rfl (ocons rfl (ocons rfl (ocons rfl (ocons rfl (ocons rfl (ocons rfl (ocons rfl (ocons rfl (ocons rfl (ocons rfl (ocons rfl (ocons rfl (ocons rfl (ocons rfl (ocons rfl (ocons rfl (ocons rfl (ocons rfl (ocons rfl (ocons rfl (ocons rfl (ocons rfl (ocons rfl (ocons rfl (ocons rfl (ocons rfl (ocons rfl (ocons rfl (ocons rfl (ocons rfl (ocons rfl (ocons rfl (ocons rfl (ocons rfl (ocons rfl (ocons rfl (ocons rfl (ocons rfl (ocons rfl (ocons rfl (ocons rfl (ocons rfl (ocons rfl (ocons rfl (ocons rfl (ocons rfl (ocons rfl (ocons rfl (ocons rfl (ocons rfl (ocons rfl (ocons rfl (ocons rfl (ocons rfl (ocons rfl (ocons rfl (ocons rfl (ocons rfl (ocons rfl (ocons rfl (ocons rfl (ocons rfl (ocons rfl (ocons rfl (ocons rfl (ocons rfl (ocons rfl (ocons rfl (ocons rfl (ocons rfl (ocons rfl (ocons rfl (ocons rfl (ocons rfl (ocons rfl (ocons rfl (ocons rfl (ocons rfl (ocons rfl (ocons rfl (ocons rfl (ocons rfl (ocons rfl (ocons rfl (ocons rfl (ocons rfl (ocons rfl (ocons rfl (ocons rfl (ocons rfl (ocons rfl (ocons rfl (ocons rfl (ocons rfl (ocons rfl (ocons rfl (ocons rfl (ocons rfl (ocons rfl (ocons rfl (ocons rfl (ocons rfl (ocons rfl (ocons rfl (ocons rfl (ocons rfl (ocons rfl (ocons rfl (ocons rfl (ocons rfl (ocons rfl (ocons rfl (ocons rfl (ocons rfl (ocons rfl (ocons rfl (ocons rfl (ocons rfl (ocons rfl (ocons rfl (ocons rfl (ocons rfl (ocons rfl (ocons rfl (ocons rfl (ocons rfl (ocons rfl (ocons rfl (ocons rfl (ocons rfl (ocons rfl (ocons rfl (ocons rfl (ocons rfl (ocons rfl (ocons rfl (ocons rfl (ocons rfl (ocons rfl (ocons rfl (ocons rfl (ocons rfl (ocons rfl (ocons rfl (ocons rfl onil))))))))))))))))))))))))))))))))))))))))))))))))))))))))))))))))))))))))))))))))))))))))))))))))))))))))))))))))))))))))))))))))))))))))))))))))))))))))))))))))))))))))))))))))))))))))))))))))))))))

theorem s228b_1 : Sx.Spec Try.prog 228 [W.int IntKind.i64 (-1), W.int IntKind.i64 1] [] ⟨V.w (W.agg [C.u 28948022309329048855892746252171976963317496166410141009864396001978282409974, C.u 1569275433846670190958947355801916604025588861116008628223, C.u 85070591730234615865843651857942052863, C.u 4611686018427387903]), [], []⟩ :=
  spec_of_whole (tab_ok libr1x_ok) mixed Try.func228 [] 1000000 [] (by kernel_rfl) (by kernel_rfl) (by kernel_rfl) (by kernel_rfl) (by kernel_rfl) (by kernel_rfl)
    (ocons rfl (ocons rfl (ocons rfl (ocons rfl (ocons rfl (ocons rfl (ocons rfl (ocons rfl (ocons rfl (ocons rfl (ocons rfl (ocons rfl (ocons rfl (ocons rfl (ocons rfl (ocons rfl (ocons rfl (ocons rfl (ocons rfl (ocons rfl (ocons rfl (ocons rfl (ocons rfl (ocons rfl (ocons rfl (ocons rfl (ocons rfl (ocons rfl (ocons rfl (ocons rfl (ocons rfl (ocons rfl (ocons rfl (ocons rfl (ocons rfl (ocons rfl (ocons rfl (ocons rfl (ocons rfl (ocons rfl (ocons rfl (ocons rfl (ocons rfl (ocons rfl (ocons rfl (ocons rfl (ocons rfl (ocons rfl (ocons rfl (ocons rfl (ocons rfl (ocons rfl (ocons rfl (ocons rfl (ocons rfl (ocons rfl (ocons rfl (ocons rfl (ocons rfl (ocons rfl (ocons rfl (ocons rfl (ocons rfl (ocons rfl (ocons rfl (ocons rfl (ocons rfl (ocons rfl (ocons rfl (ocons rfl (ocons rfl (ocons rfl (ocons rfl (ocons rfl (ocons rfl (ocons rfl (ocons rfl (ocons rfl (ocons rfl (ocons rfl (ocons rfl (ocons rfl (ocons rfl (ocons rfl (ocons rfl (ocons rfl (ocons rfl (ocons rfl (ocons rfl (ocons rfl (ocons rfl (ocons rfl (ocons rfl (ocons rfl (ocons rfl (ocons rfl (ocons rfl (ocons rfl (ocons rfl (ocons rfl (ocons rfl (ocons rfl (ocons rfl (ocons rfl (ocons rfl (ocons rfl (ocons rfl (ocons rfl (ocons rfl (ocons rfl (ocons rfl (ocons rfl (ocons rfl (ocons rfl (ocons rfl (ocons rfl (ocons rfl (ocons rfl (ocons rfl (ocons rfl (ocons rfl (ocons rfl (ocons rfl (ocons rfl (ocons rfl (ocons rfl (ocons rfl (ocons rfl (ocons rfl (ocons rfl (ocons rfl (ocons rfl (ocons rfl (ocons rfl (ocons rfl (ocons rfl (ocons rfl (ocons rfl (ocons rfl (ocons rfl (ocons rfl (ocons rfl (ocons rfl (ocons rfl (ocons rfl (ocons rfl (ocons rfl (ocons rfl (ocons rfl (ocons rfl (ocons rfl (ocons rfl (ocons rfl (ocons rfl (ocons rfl (ocons rfl (ocons rfl (ocons rfl (ocons rfl (ocons rfl (ocons rfl (ocons rfl (ocons rfl (ocons rfl (ocons rfl (ocons rfl (ocons rfl (ocons rfl (ocons rfl (ocons rfl (ocons rfl (ocons rfl (ocons rfl (ocons rfl (ocons rfl (ocons rfl (ocons rfl (ocons rfl (ocons rfl (ocons rfl (ocons rfl (ocons rfl (ocons rfl (ocons rfl (ocons rfl (ocons rfl (ocons rfl (ocons rfl (ocons rfl (ocons rfl (ocons rfl (ocons rfl (ocons rfl (ocons rfl (ocons rfl (ocons rfl (ocons rfl (ocons rfl onil))))))))))))))))))))))))))))))))))))))))))))))))))))))))))))))))))))))))))))))))))))))))))))))))))))))))))))))))))))))))))))))))))))))))))))))))))))))))))))))))))))))))))))))))))))))))))))))))))))))

theorem s228c_1 : Sx.Spec Try.prog 228 [W.int IntKind.i64 3, W.int IntKind.i64 3] [] ⟨V.w (W.agg [C.u 7237005577332262213973186563042994240829374041602535252466099000494570602494, C.u 392318858461667547739736838950479151006397215279002157055, C.u 21267647932558653966460912964485513215, C.u 1152921504606846975]), [], []⟩ :=
  spec_of_whole (tab_ok libr1x_ok) mixed Try.func228 [] 1000000 [] (by kernel_rfl) (by kernel_rfl) (by kernel_rfl) (by kernel_rfl) (by kernel_rfl) (by kernel_rfl)
    (ocons rfl (ocons rfl (ocons rfl (ocons rfl (ocons rfl (ocons rfl (ocons rfl (ocons rfl (ocons rfl (ocons rfl (ocons rfl (ocons rfl (ocons rfl (ocons rfl (ocons rfl (ocons rfl (ocons rfl (ocons rfl (ocons rfl (ocons rfl (ocons rfl (ocons rfl (ocons rfl (ocons rfl (ocons rfl (ocons rfl (ocons rfl (ocons rfl (ocons rfl (ocons rfl (ocons rfl (ocons rfl (ocons rfl (ocons rfl (ocons rfl (ocons rfl (ocons rfl (ocons rfl (ocons rfl (ocons rfl (ocons rfl (ocons rfl (ocons rfl (ocons rfl (ocons rfl (ocons rfl (ocons rfl (ocons rfl (ocons rfl (ocons rfl (ocons rfl (ocons rfl (ocons rfl (ocons rfl (ocons rfl (ocons rfl (ocons rfl (ocons rfl (ocons rfl (ocons rfl (ocons rfl (ocons rfl (ocons rfl (ocons rfl (ocons rfl (ocons rfl (ocons rfl (ocons rfl (ocons rfl (ocons rfl (ocons rfl (ocons rfl (ocons rfl (ocons rfl (ocons rfl (ocons rfl (ocons rfl (ocons rfl (ocons rfl (ocons rfl (ocons rfl (ocons rfl (ocons rfl (ocons rfl (ocons rfl (ocons rfl (ocons rfl (ocons rfl (ocons rfl (ocons rfl (ocons rfl (ocons rfl (ocons rfl (ocons rfl (ocons rfl (ocons rfl (ocons rfl (ocons rfl (ocons rfl (ocons rfl (ocons rfl (ocons rfl (ocons rfl (ocons rfl (ocons rfl (ocons rfl (ocons rfl (ocons rfl (ocons rfl (ocons rfl (ocons rfl (ocons rfl (ocons rfl (ocons rfl (ocons rfl (ocons rfl (ocons rfl (ocons rfl (ocons rfl (ocons rfl (ocons rfl (ocons rfl (ocons rfl (ocons rfl (ocons rfl (ocons rfl (ocons rfl (ocons rfl (ocons rfl (ocons rfl (ocons rfl (ocons rfl (ocons rfl (ocons rfl (ocons rfl (ocons rfl (ocons rfl (ocons rfl (ocons rfl (ocons rfl (ocons rfl (ocons rfl (ocons rfl (ocons rfl (ocons rfl (ocons rfl (ocons rfl (ocons rfl (ocons rfl (ocons rfl (ocons rfl (ocons rfl (ocons rfl (ocons rfl (ocons rfl (ocons rfl (ocons rfl (ocons rfl (ocons rfl (ocons rfl (ocons rfl (ocons rfl (ocons rfl (ocons rfl (ocons rfl (ocons rfl (ocons rfl (ocons rfl (ocons rfl (ocons rfl (ocons rfl (ocons rfl (ocons rfl (ocons rfl (ocons rfl (ocons rfl (ocons rfl (ocons rfl (ocons rfl (ocons rfl (ocons rfl (ocons rfl (ocons rfl (ocons rfl (ocons rfl (ocons rfl (ocons rfl (ocons rfl (ocons rfl (ocons rfl (ocons rfl (ocons rfl (ocons rfl (ocons rfl (ocons rfl (ocons rfl (ocons rfl (ocons rfl (ocons rfl (ocons rfl (ocons rfl (ocons rfl (ocons rfl onil)))))))))))))))))))))))))))))))))))))))))))))))))))))))))))))))))))))))))))))))))))))))))))))))))))))))))))))))))))))))))))))))))))))))))))))))))))))))))))))))))))))))))))))))))))))))))))))))))))))))))))

theorem s228d_1 : Sx.Spec Try.prog 228 [W.int IntKind.i64 (-1), W.int IntKind.i64 2] [] ⟨V.w (W.agg [C.u 14474011154664524427946373126085988481658748083205070504932198000989141204987, C.u 784637716923335095479473677900958302012794430558004314111, C.u 42535295865117307932921825928971026431, C.u 2305843009213693951]), [], []⟩ :=
  spec_of_whole (tab_ok libr1x_ok) mixed Try.func228 [] 1000000 [] (by kernel_rfl) (by kernel_rfl) (by kernel_rfl) (by kernel_rfl) (by kernel_rfl) (by kernel_rfl)
    (ocons rfl (ocons rfl (ocons rfl (ocons rfl (ocons rfl (ocons rfl (ocons rfl (ocons rfl (ocons rfl (ocons rfl (ocons rfl (ocons rfl (ocons rfl (ocons rfl (ocons rfl (ocons rfl (ocons rfl (ocons rfl (ocons rfl (ocons rfl (ocons rfl (ocons rfl (ocons rfl (ocons rfl (ocons rfl (ocons rfl (ocons rfl (ocons rfl (ocons rfl (ocons rfl (ocons rfl (ocons rfl (ocons rfl (ocons rfl (ocons rfl (ocons rfl (ocons rfl (ocons rfl (ocons rfl (ocons rfl (ocons rfl (ocons rfl (ocons rfl (ocons rfl (ocons rfl (ocons rfl (ocons rfl (ocons rfl (ocons rfl (ocons rfl (ocons rfl (ocons rfl (ocons rfl (ocons rfl (ocons rfl (ocons rfl (ocons rfl (ocons rfl (ocons rfl (ocons rfl (ocons rfl (ocons rfl (ocons rfl (ocons rfl (ocons rfl (ocons rfl (ocons rfl (ocons rfl (ocons rfl (ocons rfl (ocons rfl (ocons rfl (ocons rfl (ocons rfl (ocons rfl (ocons rfl (ocons rfl (ocons rfl (ocons rfl (ocons rfl (ocons rfl (ocons rfl (ocons rfl (ocons rfl (ocons rfl (ocons rfl (ocons rfl (ocons rfl (ocons rfl (ocons rfl (ocons rfl (ocons rfl (ocons rfl (ocons rfl (ocons rfl (ocons rfl (ocons rfl (ocons rfl (ocons rfl (ocons rfl (ocons rfl (ocons rfl (ocons rfl (ocons rfl (ocons rfl (ocons rfl (ocons rfl (ocons rfl (ocons rfl (ocons rfl (ocons rfl (ocons rfl (ocons rfl (ocons rfl (ocons rfl (ocons rfl (ocons rfl (ocons rfl (ocons rfl (ocons rfl (ocons rfl (ocons rfl (ocons rfl (ocons rfl (ocons rfl (ocons rfl (ocons rfl (ocons rfl (ocons rfl (ocons rfl (ocons rfl (ocons rfl (ocons rfl (ocons rfl (ocons rfl (ocons rfl (ocons rfl (ocons rfl (ocons rfl (ocons rfl (ocons rfl (ocons rfl (ocons rfl (ocons rfl (ocons rfl (ocons rfl (ocons rfl (ocons rfl (ocons rfl (ocons rfl (ocons rfl (ocons rfl (ocons rfl (ocons rfl (ocons rfl (ocons rfl (ocons rfl (ocons rfl (ocons rfl (ocons rfl (ocons rfl (ocons rfl (ocons rfl (ocons rfl (ocons rfl (ocons rfl (ocons rfl (ocons rfl (ocons rfl (ocons rfl (ocons rfl (ocons rfl (ocons rfl (ocons rfl (ocons rfl (ocons rfl (ocons rfl (ocons rfl (ocons rfl (ocons rfl (ocons rfl (ocons rfl (ocons rfl (ocons rfl (ocons rfl (ocons rfl (ocons rfl (ocons rfl (ocons rfl (ocons rfl (ocons rfl (ocons rfl (ocons rfl (ocons rfl (ocons rfl (ocons rfl (ocons rfl (ocons rfl onil))))))))))))))))))))))))))))))))))))))))))))))))))))))))))))))))))))))))))))))))))))))))))))))))))))))))))))))))))))))))))))))))))))))))))))))))))))))))))))))))))))))))))))))))))))))))))))))))))))))

theorem s103_1 : Sx.Spec Try.prog 103 [] [] ⟨V.bool true, [], []⟩ :=
  spec_of_whole (tab_ok libr1_ok) mixed Try.func103 [] 1000000 [] (by kernel_rfl) (by kernel_rfl) (by kernel_rfl) (by kernel_rfl) (by kernel_rfl) (by kernel_rfl)
    (ocons rfl (ocons rfl (ocons rfl (ocons rfl (ocons rfl (ocons rfl (ocons rfl (ocons rfl (ocons rfl (ocons rfl (ocons rfl (ocons rfl onil))))))))))))


/-- (p + s) / 2^i, for the four that are asked for. -/
def e228 : Entry := fun args ms => match args, ms with
  | [.c (.v (.int .i64 s)), .c (.v (.int .i64 i))], [] =>
    bif decide (s = -2) && decide (i = 0) then some (⟨vN 57896044618658097711785492504343953926634992332820282019728792003956564819947, [], []⟩, [])
    else bif decide (s = -1) && decide (i = 1) then some (⟨vN 28948022309329048855892746252171976963317496166410141009864396001978282409974, [], []⟩, [])
    else bif decide (s = 3) && decide (i = 3) then some (⟨vN 7237005577332262213973186563042994240829374041602535252466099000494570602494, [], []⟩, [])
    else bif decide (s = -1) && decide (i = 2) then some (⟨vN 14474011154664524427946373126085988481658748083205070504932198000989141204987, [], []⟩, [])
    else none
  | _, _ => none
theorem e228_ok : EntryOk Try.prog 228 e228 := by
  intro args ms r obs h ho
  unfold e228 at h
  split at h
  · rename_i s i
    cases h1 : decide (s = -2) && decide (i = 0) with
    | true =>
      rw [h1, cond_true] at h
      simp only [Bool.and_eq_true, decide_eq_true_eq] at h1
      obtain ⟨rfl, rfl⟩ := h1
      cases h
      exact s228a_1
    | false =>
    rw [h1, cond_false] at h
    cases h2 : decide (s = -1) && decide (i = 1) with
    | true =>
      rw [h2, cond_true] at h
      simp only [Bool.and_eq_true, decide_eq_true_eq] at h2
      obtain ⟨rfl, rfl⟩ := h2
      cases h
      exact s228b_1
    | false =>
    rw [h2, cond_false] at h
    cases h3 : decide (s = 3) && decide (i = 3) with
    | true =>
      rw [h3, cond_true] at h
      simp only [Bool.and_eq_true, decide_eq_true_eq] at h3
      obtain ⟨rfl, rfl⟩ := h3
      cases h
      exact s228c_1
    | false =>
    rw [h3, cond_false] at h
    cases h4 : decide (s = -1) && decide (i = 2) with
    | true =>
      rw [h4, cond_true] at h
      simp only [Bool.and_eq_true, decide_eq_true_eq] at h4
      obtain ⟨rfl, rfl⟩ := h4
      cases h
      exact s228d_1
    | false => rw [h4] at h; cases h
  · cases h

theorem s119n {a k : Nat} (ha : a < P256) (hk : k < P256) : Sx.Spec Try.prog 119 [.agg (numC a), .agg (numC k)] [] ⟨vN (powP a k), [], []⟩ := by
  refine spec_body (tab := tab libr1) Try.func119 (by kernel_rfl) (by kernel_rfl) (by kernel_rfl) fun ρ w => ?_
  refine s119_1 a k ?_
  rw [powP_eq a hk]
  have hltP : ∀ x, x % 57896044618658097711785492504343953926634992332820282019728792003956564819949 < 115792089237316195423570985008687907853269984665640564039457584007913129639936 := fun x => Nat.lt_trans (Nat.mod_lt _ (by decide)) (by decide)
  have key : ∀ (f i : Nat), i + f = 256 → ∀ c0 c1 c2 c3 e0 e1 e2 e3, d4 c0 c1 c2 c3 = a ^ (k % 2 ^ i) % 57896044618658097711785492504343953926634992332820282019728792003956564819949 → d4 e0 e1 e2 e3 % 57896044618658097711785492504343953926634992332820282019728792003956564819949 = a ^ (2 ^ i) % 57896044618658097711785492504343953926634992332820282019728792003956564819949 → G (mkX Try.prog (tab libr1) Try.f119 [] ρ w ⟨vN (a ^ k % 57896044618658097711785492504343953926634992332820282019728792003956564819949), [], []⟩) (s119st0 k (i : Int) c0 c1 c2 c3 e0 e1 e2 e3) := by
    intro f
    induction f with
    | zero =>
      intro i hi c0 c1 c2 c3 e0 e1 e2 e3 hc he
      have : i = 256 := by omega
      subst this
      rw [Nat.mod_eq_of_lt (show k < 2 ^ 256 by unfold P256 at hk; omega)] at hc
      refine G.resv (r := ⟨.w (.agg [.u c0, .u c1, .u c2, .u c3]), [], []⟩) (fun ρ y h => ?_) (s119_4 a k _ c0 c1 c2 c3 e0 e1 e2 e3 (by omega))
      rw [← hc]
      exact rw_d4 y h
    | succ f ih =>
      intro i hi c0 c1 c2 c3 e0 e1 e2 e3 hc he
      have ew : IntKind.wrap .i64 ((i : Int) + 1) = ((i + 1 : Nat) : Int) := by rw [i64w] <;> omega
      have eb : bitL (lim 16 (nn k)) (i : Int) = k / 2 ^ i % 2 := by
        unfold bitL
        rw [val16 hk, Int.toNat_natCast]
      have hsq : d4 e0 e1 e2 e3 * d4 e0 e1 e2 e3 % 57896044618658097711785492504343953926634992332820282019728792003956564819949 % 57896044618658097711785492504343953926634992332820282019728792003956564819949 = a ^ (2 ^ (i + 1)) % 57896044618658097711785492504343953926634992332820282019728792003956564819949 := by
        rw [Nat.mod_mod, Nat.mul_mod, he, Nat.pow_succ, Nat.mul_two, Nat.pow_add, ← Nat.mul_mod]
      have hkm : k % 2 ^ (i + 1) = k % 2 ^ i + 2 ^ i * (k / 2 ^ i % 2) := by
        rw [Nat.pow_succ, Nat.mod_mul]
      by_cases h1 : k / 2 ^ i % 2 = 1
      · refine s119_2 a k i c0 c1 c2 c3 e0 e1 e2 e3 (by omega) (lim_length _ _) (limOk_lim _ _) (by omega) (by omega) (by rw [eb, h1]; rfl) ?_
        rw [show num4 (c0 % 18446744073709551616) (c1 % 18446744073709551616) (c2 % 18446744073709551616) (c3 % 18446744073709551616) = d4 c0 c1 c2 c3 from rfl, show num4 (e0 % 18446744073709551616) (e1 % 18446744073709551616) (e2 % 18446744073709551616) (e3 % 18446744073709551616) = d4 e0 e1 e2 e3 from rfl, ew]
        refine ih (i + 1) (by omega) _ _ _ _ _ _ _ _ ?_ ?_
        · rw [d4_num, Nat.mod_eq_of_lt (hltP _), hkm, h1, Nat.mul_one, Nat.pow_add, Nat.mul_mod, hc, he, Nat.mod_mod, ← Nat.mul_mod]
        · rw [d4_num, Nat.mod_eq_of_lt (hltP _), hsq]
      · refine s119_3 a k i c0 c1 c2 c3 e0 e1 e2 e3 (by omega) (lim_length _ _) (limOk_lim _ _) (by omega) (by omega) (by rw [eb]; omega) ?_
        rw [show num4 (e0 % 18446744073709551616) (e1 % 18446744073709551616) (e2 % 18446744073709551616) (e3 % 18446744073709551616) = d4 e0 e1 e2 e3 from rfl, ew]
        refine ih (i + 1) (by omega) _ _ _ _ _ _ _ _ ?_ ?_
        · rw [hc, hkm, show k / 2 ^ i % 2 = 0 by omega, Nat.mul_zero, Nat.add_zero]
        · rw [d4_num, Nat.mod_eq_of_lt (hltP _), hsq]
  refine key 256 0 (by omega) 1 0 0 0 _ _ _ _ ?_ ?_
  · rw [Nat.pow_zero, Nat.mod_one, Nat.pow_zero]; decide
  · rw [d4_num, Nat.mod_eq_of_lt (show a < 115792089237316195423570985008687907853269984665640564039457584007913129639936 from ha), Nat.pow_zero, Nat.pow_one]
def e119 : Entry := numsE [1, 1] (nm2 fun a k => vN (powP a k))
theorem e119_ok : EntryOk Try.prog 119 e119 := numsE_ok fun ns h hl => by
  obtain ⟨a, b, rfl⟩ := ns2 h
  exact s119n (hl a (by simp)) (hl b (by simp))
def e103 : Entry := fun args ms => match args, ms with
  | [], [] => some (⟨V.bool true, [], []⟩, [])
  | _, _ => none
theorem e103_ok : EntryOk Try.prog 103 e103 := by
  intro args ms r obs h ho
  unfold e103 at h
  split at h
  · cases h
    exact s103_1
  · cases h
end Go.Proofs.Ytmjejlbmcefaoaa
