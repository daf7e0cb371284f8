/- A symbolic executor, checked once, and what it shows of the functions: part 11. -/
import Derived.Test.YtmjejlbmcefaoaaPkJ
namespace Go.Proofs.Ytmjejlbmcefaoaa
open Go Sx
def cellsQ (q : Q4) : List C := numCs [q.x, q.y, q.z, q.t]
noncomputable def dblN (q : Q4) : Q4 := dblS (nq q)
noncomputable def dbl4 (q : Q4) : Q4 := dblN (dblN (dblN (dblN q)))
noncomputable def askN (l tl : List Int) (j i : Int) (q : Q4) : Q4 := bif askZ l j i then q else askQ l j i tl (nq q)
noncomputable def newC (l tl : List Int) (j i : Int) (q : Q4) : List C := new16 (askZ l j i) q.x (q.x / 18446744073709551616) (q.x / 340282366920938463463374607431768211456) (q.x / 6277101735386680763835789423207666416102355444464034512896) q.y (q.y / 18446744073709551616) (q.y / 340282366920938463463374607431768211456) (q.y / 6277101735386680763835789423207666416102355444464034512896) q.z (q.z / 18446744073709551616) (q.z / 340282366920938463463374607431768211456) (q.z / 6277101735386680763835789423207666416102355444464034512896) q.t (q.t / 18446744073709551616) (q.t / 340282366920938463463374607431768211456) (q.t / 6277101735386680763835789423207666416102355444464034512896) (askQ l j i tl (old16 q.x (q.x / 18446744073709551616) (q.x / 340282366920938463463374607431768211456) (q.x / 6277101735386680763835789423207666416102355444464034512896) q.y (q.y / 18446744073709551616) (q.y / 340282366920938463463374607431768211456) (q.y / 6277101735386680763835789423207666416102355444464034512896) q.z (q.z / 18446744073709551616) (q.z / 340282366920938463463374607431768211456) (q.z / 6277101735386680763835789423207666416102355444464034512896) q.t (q.t / 18446744073709551616) (q.t / 340282366920938463463374607431768211456) (q.t / 6277101735386680763835789423207666416102355444464034512896)))
theorem newC_eq (l tl : List Int) (j i : Int) (q : Q4) : newC l tl j i q = cellsQ (askN l tl j i q) := by
  unfold newC askN
  rw [show old16 q.x (q.x / 18446744073709551616) (q.x / 340282366920938463463374607431768211456) (q.x / 6277101735386680763835789423207666416102355444464034512896) q.y (q.y / 18446744073709551616) (q.y / 340282366920938463463374607431768211456) (q.y / 6277101735386680763835789423207666416102355444464034512896) q.z (q.z / 18446744073709551616) (q.z / 340282366920938463463374607431768211456) (q.z / 6277101735386680763835789423207666416102355444464034512896) q.t (q.t / 18446744073709551616) (q.t / 340282366920938463463374607431768211456) (q.t / 6277101735386680763835789423207666416102355444464034512896) = nq q from rfl]
  cases askZ l j i <;> rfl
theorem tab256 (p : Q4) : List.take 256 (List.drop 0 (tabS p)) = tabL p 16 := by
  rw [tabS_eq, List.drop_zero, List.take_of_length_le (by rw [tabL_length p (by omega)]; omega)]
theorem tab256_length (p : Q4) : (tabS p).length = 256 := by rw [tabS_eq, tabL_length p (by omega)]
noncomputable def tlA (m : List Int) : List Int := List.take 256 (List.drop 0 (tabS (ptAt m 0)))
noncomputable def tlB (m : List Int) : List Int := List.take 256 (List.drop 0 (tabS (ptAt m 0))) ++ List.take 256 (List.drop 0 (tabS (ptAt m 16)))
theorem tlA_eq (m : List Int) : tlA m = tabL (ptAt m 0) 16 := tab256 _
theorem tlB_eq (m : List Int) : tlB m = tabL (ptAt m 0) 16 ++ tabL (ptAt m 16) 16 := by unfold tlB; rw [tab256, tab256]
theorem tlA_length (m : List Int) : (tlA m).length = 256 := by rw [tlA_eq, tabL_length _ (by omega)]
theorem tlB_length (m : List Int) : (tlB m).length = 512 := by rw [tlB_eq, List.length_append, tabL_length _ (by omega), tabL_length _ (by omega)]
theorem tlA_isW (m : List Int) : (tlA m).all isW = true := by rw [tlA_eq]; exact List.all_eq_true.2 (tabL_isW _ _)
theorem tlB_isW (m : List Int) : (tlB m).all isW = true := by rw [tlB_eq, List.all_append, List.all_eq_true.2 (tabL_isW _ _), List.all_eq_true.2 (tabL_isW _ _)]; rfl
noncomputable def runA (l tl : List Int) : Nat → Q4 → Bool → Q4
  | 0, q, _ => q
  | c + 1, q, b => runA l tl c (askN l tl 0 c (bif b then dbl4 q else q)) (b || !askZ l 0 c)
noncomputable def runB (l tl : List Int) : Nat → Q4 → Bool → Q4
  | 0, q, _ => q
  | c + 1, q, b => runB l tl c (askN l tl 1 c (askN l tl 0 c (bif b then dbl4 q else q))) ((b || !askZ l 0 c) || !askZ l 1 c)
noncomputable def s238ak1 : List Item := kAt Try.prog (tab lcm3) Try.f238 [] 2 [W.c (C.v (Value.func (Fn.func 145) #[Value.agg #[Value.int IntKind.u64 16993941304535871833, Value.int IntKind.u64 63073048630374742, Value.int IntKind.u64 1841551078520508720, Value.int IntKind.u64 2596001775599221991]] #[])), W.c (C.sl 0 0 1), W.c (C.sl 1 0 1)] [Blk.mk 0 Mode.ro (K.ints IntKind.u64 [0]), Blk.mk 0 Mode.ro (K.ints IntKind.u64 [0])]
noncomputable def s238ak2 : List Item := kAt Try.prog (tab lcm3) Try.f238 [(32, true)] 3 [W.c (C.v (Value.func (Fn.func 145) #[Value.agg #[Value.int IntKind.u64 16993941304535871833, Value.int IntKind.u64 63073048630374742, Value.int IntKind.u64 1841551078520508720, Value.int IntKind.u64 2596001775599221991]] #[])), W.c (C.sl 0 0 1), W.c (C.sl 1 0 1)] [Blk.mk 0 Mode.ro (K.ints IntKind.u64 [0]), Blk.mk 0 Mode.ro (K.ints IntKind.u64 [0])]
noncomputable def s238ak3 : List Item := kAt Try.prog (tab lcm3) Try.f238 [(32, true), (37, true), (39, false)] 4 [W.c (C.v (Value.func (Fn.func 145) #[Value.agg #[Value.int IntKind.u64 16993941304535871833, Value.int IntKind.u64 63073048630374742, Value.int IntKind.u64 1841551078520508720, Value.int IntKind.u64 2596001775599221991]] #[])), W.c (C.sl 0 0 1), W.c (C.sl 1 0 1)] [Blk.mk 0 Mode.ro (K.ints IntKind.u64 [0]), Blk.mk 0 Mode.ro (K.ints IntKind.u64 [0])]
noncomputable def MA1 (l m : List Int) (i : Int) (cq : List C) (b : Bool) : Cfg := cfg s238ak1 [2, 6, 10, 11, 12, 13] [V.w (W.c (C.sl 1 0 1)), V.w (W.c (C.ptr 2 0)), V.w (W.c (C.ptr 3 0)), V.w (W.c (C.ptr 4 0)), V.w (W.c (C.fn 265 [(5, 0), (6, 0), (3, 0), (7, 0), (4, 0)])), V.int .i64 i] [⟨80, .ro, .ints .u64 l⟩, ⟨129, .ro, .ints .u64 m⟩, ⟨129, .rw, .cs (numCs [0, 0, 0, 0])⟩, ⟨129, .rw, .cs cq⟩, ⟨4, .rw, .cs [.v (.bool b)]⟩, ⟨165, .rw, .cs [.sl 0 0 1]⟩, ⟨149, .rw, .cs [adF]⟩, ⟨251, .rw, .cs [.own 8]⟩, ⟨252, .own 1, .ints .u64 (tlA m)⟩]
noncomputable def MA2 (l m : List Int) (i : Int) (cq : List C) (b : Bool) (t : Int) : Cfg := cfg s238ak2 [2, 6, 10, 11, 12, 13, 14] [V.w (W.c (C.sl 1 0 1)), V.w (W.c (C.ptr 2 0)), V.w (W.c (C.ptr 3 0)), V.w (W.c (C.ptr 4 0)), V.w (W.c (C.fn 265 [(5, 0), (6, 0), (3, 0), (7, 0), (4, 0)])), V.int .i64 i, V.int .i64 t] [⟨80, .ro, .ints .u64 l⟩, ⟨129, .ro, .ints .u64 m⟩, ⟨129, .rw, .cs (numCs [0, 0, 0, 0])⟩, ⟨129, .rw, .cs cq⟩, ⟨4, .rw, .cs [.v (.bool b)]⟩, ⟨165, .rw, .cs [.sl 0 0 1]⟩, ⟨149, .rw, .cs [adF]⟩, ⟨251, .rw, .cs [.own 8]⟩, ⟨252, .own 1, .ints .u64 (tlA m)⟩]
noncomputable def MA3 (l m : List Int) (i : Int) (cq : List C) (b : Bool) (j : Int) : Cfg := cfg s238ak3 [2, 6, 10, 11, 12, 13, 45, 46] [V.w (W.c (C.sl 1 0 1)), V.w (W.c (C.ptr 2 0)), V.w (W.c (C.ptr 3 0)), V.w (W.c (C.ptr 4 0)), V.w (W.c (C.fn 265 [(5, 0), (6, 0), (3, 0), (7, 0), (4, 0)])), V.int .i64 i, V.int .i64 1, V.int .i64 j] [⟨80, .ro, .ints .u64 l⟩, ⟨129, .ro, .ints .u64 m⟩, ⟨129, .rw, .cs (numCs [0, 0, 0, 0])⟩, ⟨129, .rw, .cs cq⟩, ⟨4, .rw, .cs [.v (.bool b)]⟩, ⟨165, .rw, .cs [.sl 0 0 1]⟩, ⟨149, .rw, .cs [adF]⟩, ⟨251, .rw, .cs [.own 8]⟩, ⟨252, .own 1, .ints .u64 (tlA m)⟩]
theorem s238aE1 {ρ : Env} {w : World} {r : Res} (l : List Int) (m : List Int) (h1 : 0 < List.length m) (h2 : 1 < List.length m) (h3 : 2 < List.length m) (h4 : 3 < List.length m) (h5 : 4 < List.length m) (h6 : 5 < List.length m) (h7 : 6 < List.length m) (h8 : 7 < List.length m) (h9 : 8 < List.length m) (h10 : 9 < List.length m) (h11 : 10 < List.length m) (h12 : 11 < List.length m) (h13 : 12 < List.length m) (h14 : 13 < List.length m) (h15 : 14 < List.length m) (h16 : 15 < List.length m) (h17 : (decide (0 ≤ List.getD m 0 0) && decide (List.getD m 0 0 < 18446744073709551616)) = true) (h18 : (decide (0 ≤ List.getD m 1 0) && decide (List.getD m 1 0 < 18446744073709551616)) = true) (h19 : (decide (0 ≤ List.getD m 2 0) && decide (List.getD m 2 0 < 18446744073709551616)) = true) (h20 : (decide (0 ≤ List.getD m 3 0) && decide (List.getD m 3 0 < 18446744073709551616)) = true) (h21 : (decide (0 ≤ List.getD m 4 0) && decide (List.getD m 4 0 < 18446744073709551616)) = true) (h22 : (decide (0 ≤ List.getD m 5 0) && decide (List.getD m 5 0 < 18446744073709551616)) = true) (h23 : (decide (0 ≤ List.getD m 6 0) && decide (List.getD m 6 0 < 18446744073709551616)) = true) (h24 : (decide (0 ≤ List.getD m 7 0) && decide (List.getD m 7 0 < 18446744073709551616)) = true) (h25 : (decide (0 ≤ List.getD m 8 0) && decide (List.getD m 8 0 < 18446744073709551616)) = true) (h26 : (decide (0 ≤ List.getD m 9 0) && decide (List.getD m 9 0 < 18446744073709551616)) = true) (h27 : (decide (0 ≤ List.getD m 10 0) && decide (List.getD m 10 0 < 18446744073709551616)) = true) (h28 : (decide (0 ≤ List.getD m 11 0) && decide (List.getD m 11 0 < 18446744073709551616)) = true) (h29 : (decide (0 ≤ List.getD m 12 0) && decide (List.getD m 12 0 < 18446744073709551616)) = true) (h30 : (decide (0 ≤ List.getD m 13 0) && decide (List.getD m 13 0 < 18446744073709551616)) = true) (h31 : (decide (0 ≤ List.getD m 14 0) && decide (List.getD m 14 0 < 18446744073709551616)) = true) (h32 : (decide (0 ≤ List.getD m 15 0) && decide (List.getD m 15 0 < 18446744073709551616)) = true) (h33 : List.length (tabS (Q4.mk (num4 (Int.toNat (List.getD m 0 0)) (Int.toNat (List.getD m 1 0)) (Int.toNat (List.getD m 2 0)) (Int.toNat (List.getD m 3 0))) (num4 (Int.toNat (List.getD m 4 0)) (Int.toNat (List.getD m 5 0)) (Int.toNat (List.getD m 6 0)) (Int.toNat (List.getD m 7 0))) (num4 (Int.toNat (List.getD m 8 0)) (Int.toNat (List.getD m 9 0)) (Int.toNat (List.getD m 10 0)) (Int.toNat (List.getD m 11 0))) (num4 (Int.toNat (List.getD m 12 0)) (Int.toNat (List.getD m 13 0)) (Int.toNat (List.getD m 14 0)) (Int.toNat (List.getD m 15 0))))) = 256) (h34 : 256 ≤ List.length (tabS (Q4.mk (num4 (Int.toNat (List.getD m 0 0)) (Int.toNat (List.getD m 1 0)) (Int.toNat (List.getD m 2 0)) (Int.toNat (List.getD m 3 0))) (num4 (Int.toNat (List.getD m 4 0)) (Int.toNat (List.getD m 5 0)) (Int.toNat (List.getD m 6 0)) (Int.toNat (List.getD m 7 0))) (num4 (Int.toNat (List.getD m 8 0)) (Int.toNat (List.getD m 9 0)) (Int.toNat (List.getD m 10 0)) (Int.toNat (List.getD m 11 0))) (num4 (Int.toNat (List.getD m 12 0)) (Int.toNat (List.getD m 13 0)) (Int.toNat (List.getD m 14 0)) (Int.toNat (List.getD m 15 0)))))) (hg : G (mkX Try.prog (tab lcm3) Try.f238 [⟨80, .ro, .ints .u64 l⟩, ⟨129, .ro, .ints .u64 m⟩] ρ w r) (MA1 l m 63 (cellsQ zero4) false)) : G (mkX Try.prog (tab lcm3) Try.f238 [⟨80, .ro, .ints .u64 l⟩, ⟨129, .ro, .ints .u64 m⟩] ρ w r) (cfg [.code (Try.f238.body.getD .skip)] (List.range 3) ([W.c adF, .c (.sl 0 0 1), .c (.sl 1 0 1)].map V.w) [⟨80, .ro, .ints .u64 l⟩, ⟨129, .ro, .ints .u64 m⟩]) :=
  G.seg (X := mkX Try.prog (tab lcm3) Try.f238 [Blk.mk 80 Mode.ro (K.ints IntKind.u64 l), Blk.mk 129 Mode.ro (K.ints IntKind.u64 m)] ρ w r) ⟨tab_ok lcm3_ok, mixed⟩ [] 1000000 2 [2, 6, 10, 11, 12, 13] [(0, none), (1, none), (10, none), (94, none), (102, none), (6, none), (2, none), (14, none), (70, none)] (k := s238ak1) (vs := [V.w (W.c (C.sl 1 0 1)), V.w (W.c (C.ptr 2 0)), V.w (W.c (C.ptr 3 0)), V.w (W.c (C.ptr 4 0)), V.w (W.c (C.fn 265 [(5, 0), (6, 0), (3, 0), (7, 0), (4, 0)])), V.int .i64 63]) (bs := [⟨80, .ro, .ints .u64 l⟩, ⟨129, .ro, .ints .u64 m⟩, ⟨129, .rw, .cs (numCs [0, 0, 0, 0])⟩, ⟨129, .rw, .cs (cellsQ zero4)⟩, ⟨4, .rw, .cs [.v (.bool false)]⟩, ⟨165, .rw, .cs [.sl 0 0 1]⟩, ⟨149, .rw, .cs [adF]⟩, ⟨251, .rw, .cs [.own 8]⟩, ⟨252, .own 1, .ints .u64 (tlA m)⟩]) (by kernel_rfl) (by kernel_rfl)
    (ocons rfl (ocons rfl (ocons (bltT h1) (ocons (bltT h2) (ocons (bltT h3) (ocons (bltT h4) (ocons (bltT h5) (ocons (bltT h6) (ocons (bltT h7) (ocons (bltT h8) (ocons (bltT h9) (ocons (bltT h10) (ocons (bltT h11) (ocons (bltT h12) (ocons (bltT h13) (ocons (bltT h14) (ocons (bltT h15) (ocons (bltT h16) (ocons rfl (ocons h17 (ocons h18 (ocons h19 (ocons h20 (ocons h21 (ocons h22 (ocons h23 (ocons h24 (ocons h25 (ocons h26 (ocons h27 (ocons h28 (ocons h29 (ocons h30 (ocons h31 (ocons h32 (ocons (beqT h33) (ocons rfl (ocons rfl (ocons (bleT h34) (ocons rfl (ocons rfl (ocons rfl onil)))))))))))))))))))))))))))))))))))))))))) hg
theorem s238aE2 {ρ : Env} {w : World} {r : Res} (l m : List Int) (i : Int) (q : Q4) (b : Bool) (h1 : i ≥ 0) (hg : G (mkX Try.prog (tab lcm3) Try.f238 [⟨80, .ro, .ints .u64 l⟩, ⟨129, .ro, .ints .u64 m⟩] ρ w r) (MA2 l m i (cellsQ q) b 0)) : G (mkX Try.prog (tab lcm3) Try.f238 [⟨80, .ro, .ints .u64 l⟩, ⟨129, .ro, .ints .u64 m⟩] ρ w r) (MA1 l m i (cellsQ q) b) :=
  G.seg (X := mkX Try.prog (tab lcm3) Try.f238 [Blk.mk 80 Mode.ro (K.ints IntKind.u64 l), Blk.mk 129 Mode.ro (K.ints IntKind.u64 m)] ρ w r) ⟨tab_ok lcm3_ok, mixed⟩ [(32, true)] 1000000 0 [2, 6, 10, 11, 12, 13, 14] [(0, none), (1, none), (2, none), (3, none), (4, none), (5, none), (6, none), (7, none), (8, none)] (k := s238ak2) (vs := [V.w (W.c (C.sl 1 0 1)), V.w (W.c (C.ptr 2 0)), V.w (W.c (C.ptr 3 0)), V.w (W.c (C.ptr 4 0)), V.w (W.c (C.fn 265 [(5, 0), (6, 0), (3, 0), (7, 0), (4, 0)])), V.int .i64 i, V.int .i64 0]) (bs := [⟨80, .ro, .ints .u64 l⟩, ⟨129, .ro, .ints .u64 m⟩, ⟨129, .rw, .cs (numCs [0, 0, 0, 0])⟩, ⟨129, .rw, .cs (cellsQ q)⟩, ⟨4, .rw, .cs [.v (.bool b)]⟩, ⟨165, .rw, .cs [.sl 0 0 1]⟩, ⟨149, .rw, .cs [adF]⟩, ⟨251, .rw, .cs [.own 8]⟩, ⟨252, .own 1, .ints .u64 (tlA m)⟩]) (by kernel_rfl) (by kernel_rfl)
    (ocons (decide_eq_true h1) onil) hg
theorem s238aE3 {ρ : Env} {w : World} (l m : List Int) (i : Int) (q : Q4) (b : Bool) (h1 : ¬i ≥ 0) : G (mkX Try.prog (tab lcm3) Try.f238 [⟨80, .ro, .ints .u64 l⟩, ⟨129, .ro, .ints .u64 m⟩] ρ w ⟨r4 q, [], []⟩) (MA1 l m i (cellsQ q) b) :=
  G.ends (tab_ok lcm3_ok) mixed [(32, false)] 1000000 [(0, none), (1, none)] (by kernel_rfl) (by kernel_rfl) (by kernel_rfl) (by kernel_rfl)
    (ocons (ndec h1) (ocons rfl onil))
theorem s238aE4 {ρ : Env} {w : World} {r : Res} (l m : List Int) (i : Int) (q : Q4) (b : Bool) (t : Int) (h1 : t < 4) (h2 : b = true) (hg : G (mkX Try.prog (tab lcm3) Try.f238 [⟨80, .ro, .ints .u64 l⟩, ⟨129, .ro, .ints .u64 m⟩] ρ w r) (MA2 l m i (cellsQ (dblN q)) b (IntKind.wrap .i64 (t + 1)))) : G (mkX Try.prog (tab lcm3) Try.f238 [⟨80, .ro, .ints .u64 l⟩, ⟨129, .ro, .ints .u64 m⟩] ρ w r) (MA2 l m i (cellsQ q) b t) :=
  G.seg (X := mkX Try.prog (tab lcm3) Try.f238 [Blk.mk 80 Mode.ro (K.ints IntKind.u64 l), Blk.mk 129 Mode.ro (K.ints IntKind.u64 m)] ρ w r) ⟨tab_ok lcm3_ok, mixed⟩ [(37, true), (39, true)] 1000000 0 [2, 6, 10, 11, 12, 13, 14] [(0, none), (1, none), (2, none), (3, none), (4, none), (5, none), (6, none), (7, none), (8, none)] (k := s238ak2) (vs := [V.w (W.c (C.sl 1 0 1)), V.w (W.c (C.ptr 2 0)), V.w (W.c (C.ptr 3 0)), V.w (W.c (C.ptr 4 0)), V.w (W.c (C.fn 265 [(5, 0), (6, 0), (3, 0), (7, 0), (4, 0)])), V.int .i64 i, V.int .i64 (IntKind.wrap .i64 (t + 1))]) (bs := [⟨80, .ro, .ints .u64 l⟩, ⟨129, .ro, .ints .u64 m⟩, ⟨129, .rw, .cs (numCs [0, 0, 0, 0])⟩, ⟨129, .rw, .cs (cellsQ (dblN q))⟩, ⟨4, .rw, .cs [.v (.bool b)]⟩, ⟨165, .rw, .cs [.sl 0 0 1]⟩, ⟨149, .rw, .cs [adF]⟩, ⟨251, .rw, .cs [.own 8]⟩, ⟨252, .own 1, .ints .u64 (tlA m)⟩]) (by kernel_rfl) (by kernel_rfl)
    (ocons (decide_eq_true h1) (ocons h2 (ocons rfl onil))) hg
theorem s238aE5 {ρ : Env} {w : World} {r : Res} (l m : List Int) (i : Int) (q : Q4) (b : Bool) (t : Int) (h1 : t < 4) (h2 : (!b) = true) (hg : G (mkX Try.prog (tab lcm3) Try.f238 [⟨80, .ro, .ints .u64 l⟩, ⟨129, .ro, .ints .u64 m⟩] ρ w r) (MA3 l m i (cellsQ q) b 0)) : G (mkX Try.prog (tab lcm3) Try.f238 [⟨80, .ro, .ints .u64 l⟩, ⟨129, .ro, .ints .u64 m⟩] ρ w r) (MA2 l m i (cellsQ q) b t) :=
  G.seg (X := mkX Try.prog (tab lcm3) Try.f238 [Blk.mk 80 Mode.ro (K.ints IntKind.u64 l), Blk.mk 129 Mode.ro (K.ints IntKind.u64 m)] ρ w r) ⟨tab_ok lcm3_ok, mixed⟩ [(37, true), (39, false)] 1000000 0 [2, 6, 10, 11, 12, 13, 45, 46] [(0, none), (1, none), (2, none), (3, none), (4, none), (5, none), (6, none), (7, none), (8, none)] (k := s238ak3) (vs := [V.w (W.c (C.sl 1 0 1)), V.w (W.c (C.ptr 2 0)), V.w (W.c (C.ptr 3 0)), V.w (W.c (C.ptr 4 0)), V.w (W.c (C.fn 265 [(5, 0), (6, 0), (3, 0), (7, 0), (4, 0)])), V.int .i64 i, V.int .i64 1, V.int .i64 0]) (bs := [⟨80, .ro, .ints .u64 l⟩, ⟨129, .ro, .ints .u64 m⟩, ⟨129, .rw, .cs (numCs [0, 0, 0, 0])⟩, ⟨129, .rw, .cs (cellsQ q)⟩, ⟨4, .rw, .cs [.v (.bool b)]⟩, ⟨165, .rw, .cs [.sl 0 0 1]⟩, ⟨149, .rw, .cs [adF]⟩, ⟨251, .rw, .cs [.own 8]⟩, ⟨252, .own 1, .ints .u64 (tlA m)⟩]) (by kernel_rfl) (by kernel_rfl)
    (ocons (decide_eq_true h1) (ocons h2 onil)) hg
theorem s238aE6 {ρ : Env} {w : World} {r : Res} (l m : List Int) (i : Int) (q : Q4) (b : Bool) (t : Int) (h1 : ¬t < 4) (hg : G (mkX Try.prog (tab lcm3) Try.f238 [⟨80, .ro, .ints .u64 l⟩, ⟨129, .ro, .ints .u64 m⟩] ρ w r) (MA3 l m i (cellsQ q) b 0)) : G (mkX Try.prog (tab lcm3) Try.f238 [⟨80, .ro, .ints .u64 l⟩, ⟨129, .ro, .ints .u64 m⟩] ρ w r) (MA2 l m i (cellsQ q) b t) :=
  G.seg (X := mkX Try.prog (tab lcm3) Try.f238 [Blk.mk 80 Mode.ro (K.ints IntKind.u64 l), Blk.mk 129 Mode.ro (K.ints IntKind.u64 m)] ρ w r) ⟨tab_ok lcm3_ok, mixed⟩ [(37, false)] 1000000 0 [2, 6, 10, 11, 12, 13, 45, 46] [(0, none), (1, none), (2, none), (3, none), (4, none), (5, none), (6, none), (7, none), (8, none)] (k := s238ak3) (vs := [V.w (W.c (C.sl 1 0 1)), V.w (W.c (C.ptr 2 0)), V.w (W.c (C.ptr 3 0)), V.w (W.c (C.ptr 4 0)), V.w (W.c (C.fn 265 [(5, 0), (6, 0), (3, 0), (7, 0), (4, 0)])), V.int .i64 i, V.int .i64 1, V.int .i64 0]) (bs := [⟨80, .ro, .ints .u64 l⟩, ⟨129, .ro, .ints .u64 m⟩, ⟨129, .rw, .cs (numCs [0, 0, 0, 0])⟩, ⟨129, .rw, .cs (cellsQ q)⟩, ⟨4, .rw, .cs [.v (.bool b)]⟩, ⟨165, .rw, .cs [.sl 0 0 1]⟩, ⟨149, .rw, .cs [adF]⟩, ⟨251, .rw, .cs [.own 8]⟩, ⟨252, .own 1, .ints .u64 (tlA m)⟩]) (by kernel_rfl) (by kernel_rfl)
    (ocons (ndec h1) onil) hg
theorem s238aE7 {ρ : Env} {w : World} {r : Res} (l m : List Int) (i : Int) (q : Q4) (b : Bool) (j : Int) (h1 : j < 1) (h2 : 0 ≤ j) (h3 : l.length = 4) (h4 : l.all isW = true) (h5 : (tlA m).length = 256) (h6 : (tlA m).all isW = true) (h7 : 0 ≤ i) (h8 : i < 64) (hg : G (mkX Try.prog (tab lcm3) Try.f238 [⟨80, .ro, .ints .u64 l⟩, ⟨129, .ro, .ints .u64 m⟩] ρ w r) (MA3 l m i (newC l (tlA m) j i q) (b || !askZ l j i) (IntKind.wrap .i64 (j + 1)))) : G (mkX Try.prog (tab lcm3) Try.f238 [⟨80, .ro, .ints .u64 l⟩, ⟨129, .ro, .ints .u64 m⟩] ρ w r) (MA3 l m i (cellsQ q) b j) :=
  G.seg (X := mkX Try.prog (tab lcm3) Try.f238 [Blk.mk 80 Mode.ro (K.ints IntKind.u64 l), Blk.mk 129 Mode.ro (K.ints IntKind.u64 m)] ρ w r) ⟨tab_ok lcm3_ok, mixed⟩ [(47, true)] 1000000 0 [2, 6, 10, 11, 12, 13, 45, 46] [(0, none), (1, none), (2, none), (3, none), (4, none), (5, none), (6, none), (7, none), (8, none)] (k := s238ak3) (vs := [V.w (W.c (C.sl 1 0 1)), V.w (W.c (C.ptr 2 0)), V.w (W.c (C.ptr 3 0)), V.w (W.c (C.ptr 4 0)), V.w (W.c (C.fn 265 [(5, 0), (6, 0), (3, 0), (7, 0), (4, 0)])), V.int .i64 i, V.int .i64 1, V.int .i64 (IntKind.wrap .i64 (j + 1))]) (bs := [⟨80, .ro, .ints .u64 l⟩, ⟨129, .ro, .ints .u64 m⟩, ⟨129, .rw, .cs (numCs [0, 0, 0, 0])⟩, ⟨129, .rw, .cs (newC l (tlA m) j i q)⟩, ⟨4, .rw, .cs [.v (.bool (b || !askZ l j i))]⟩, ⟨165, .rw, .cs [.sl 0 0 1]⟩, ⟨149, .rw, .cs [adF]⟩, ⟨251, .rw, .cs [.own 8]⟩, ⟨252, .own 1, .ints .u64 (tlA m)⟩]) (by kernel_rfl) (by kernel_rfl)
    (ocons (decide_eq_true h1) (ocons (decide_eq_true h2) (ocons (decide_eq_true h1) (ocons (beqT h3) (ocons h4 (ocons (beqT h5) (ocons h6 (ocons (decide_eq_true h7) (ocons (decide_eq_true h8) (ocons rfl onil)))))))))) hg
theorem s238aE8 {ρ : Env} {w : World} {r : Res} (l m : List Int) (i : Int) (q : Q4) (b : Bool) (j : Int) (h1 : ¬j < 1) (hg : G (mkX Try.prog (tab lcm3) Try.f238 [⟨80, .ro, .ints .u64 l⟩, ⟨129, .ro, .ints .u64 m⟩] ρ w r) (MA1 l m (IntKind.wrap .i64 (i - 1)) (cellsQ q) b)) : G (mkX Try.prog (tab lcm3) Try.f238 [⟨80, .ro, .ints .u64 l⟩, ⟨129, .ro, .ints .u64 m⟩] ρ w r) (MA3 l m i (cellsQ q) b j) :=
  G.seg (X := mkX Try.prog (tab lcm3) Try.f238 [Blk.mk 80 Mode.ro (K.ints IntKind.u64 l), Blk.mk 129 Mode.ro (K.ints IntKind.u64 m)] ρ w r) ⟨tab_ok lcm3_ok, mixed⟩ [(47, false)] 1000000 0 [2, 6, 10, 11, 12, 13] [(0, none), (1, none), (2, none), (3, none), (4, none), (5, none), (6, none), (7, none), (8, none)] (k := s238ak1) (vs := [V.w (W.c (C.sl 1 0 1)), V.w (W.c (C.ptr 2 0)), V.w (W.c (C.ptr 3 0)), V.w (W.c (C.ptr 4 0)), V.w (W.c (C.fn 265 [(5, 0), (6, 0), (3, 0), (7, 0), (4, 0)])), V.int .i64 (IntKind.wrap .i64 (i - 1))]) (bs := [⟨80, .ro, .ints .u64 l⟩, ⟨129, .ro, .ints .u64 m⟩, ⟨129, .rw, .cs (numCs [0, 0, 0, 0])⟩, ⟨129, .rw, .cs (cellsQ q)⟩, ⟨4, .rw, .cs [.v (.bool b)]⟩, ⟨165, .rw, .cs [.sl 0 0 1]⟩, ⟨149, .rw, .cs [adF]⟩, ⟨251, .rw, .cs [.own 8]⟩, ⟨252, .own 1, .ints .u64 (tlA m)⟩]) (by kernel_rfl) (by kernel_rfl)
    (ocons (ndec h1) onil) hg

noncomputable def s238bk1 : List Item := kAt Try.prog (tab lcm3) Try.f238 [] 3 [W.c (C.v (Value.func (Fn.func 145) #[Value.agg #[Value.int IntKind.u64 16993941304535871833, Value.int IntKind.u64 63073048630374742, Value.int IntKind.u64 1841551078520508720, Value.int IntKind.u64 2596001775599221991]] #[])), W.c (C.sl 0 0 2), W.c (C.sl 1 0 2)] [Blk.mk 0 Mode.ro (K.ints IntKind.u64 [0]), Blk.mk 0 Mode.ro (K.ints IntKind.u64 [0])]
noncomputable def s238bk2 : List Item := kAt Try.prog (tab lcm3) Try.f238 [(32, true)] 4 [W.c (C.v (Value.func (Fn.func 145) #[Value.agg #[Value.int IntKind.u64 16993941304535871833, Value.int IntKind.u64 63073048630374742, Value.int IntKind.u64 1841551078520508720, Value.int IntKind.u64 2596001775599221991]] #[])), W.c (C.sl 0 0 2), W.c (C.sl 1 0 2)] [Blk.mk 0 Mode.ro (K.ints IntKind.u64 [0]), Blk.mk 0 Mode.ro (K.ints IntKind.u64 [0])]
noncomputable def s238bk3 : List Item := kAt Try.prog (tab lcm3) Try.f238 [(32, true), (37, true), (39, false)] 5 [W.c (C.v (Value.func (Fn.func 145) #[Value.agg #[Value.int IntKind.u64 16993941304535871833, Value.int IntKind.u64 63073048630374742, Value.int IntKind.u64 1841551078520508720, Value.int IntKind.u64 2596001775599221991]] #[])), W.c (C.sl 0 0 2), W.c (C.sl 1 0 2)] [Blk.mk 0 Mode.ro (K.ints IntKind.u64 [0]), Blk.mk 0 Mode.ro (K.ints IntKind.u64 [0])]
noncomputable def MB1 (l m : List Int) (i : Int) (cq : List C) (b : Bool) : Cfg := cfg s238bk1 [2, 6, 10, 11, 12, 13] [V.w (W.c (C.sl 1 0 2)), V.w (W.c (C.ptr 2 0)), V.w (W.c (C.ptr 3 0)), V.w (W.c (C.ptr 4 0)), V.w (W.c (C.fn 265 [(5, 0), (6, 0), (3, 0), (7, 0), (4, 0)])), V.int .i64 i] [⟨80, .ro, .ints .u64 l⟩, ⟨129, .ro, .ints .u64 m⟩, ⟨129, .rw, .cs (numCs [0, 0, 0, 0])⟩, ⟨129, .rw, .cs cq⟩, ⟨4, .rw, .cs [.v (.bool b)]⟩, ⟨165, .rw, .cs [.sl 0 0 2]⟩, ⟨149, .rw, .cs [adF]⟩, ⟨251, .rw, .cs [.own 8]⟩, ⟨252, .own 2, .ints .u64 (tlB m)⟩]
noncomputable def MB2 (l m : List Int) (i : Int) (cq : List C) (b : Bool) (t : Int) : Cfg := cfg s238bk2 [2, 6, 10, 11, 12, 13, 14] [V.w (W.c (C.sl 1 0 2)), V.w (W.c (C.ptr 2 0)), V.w (W.c (C.ptr 3 0)), V.w (W.c (C.ptr 4 0)), V.w (W.c (C.fn 265 [(5, 0), (6, 0), (3, 0), (7, 0), (4, 0)])), V.int .i64 i, V.int .i64 t] [⟨80, .ro, .ints .u64 l⟩, ⟨129, .ro, .ints .u64 m⟩, ⟨129, .rw, .cs (numCs [0, 0, 0, 0])⟩, ⟨129, .rw, .cs cq⟩, ⟨4, .rw, .cs [.v (.bool b)]⟩, ⟨165, .rw, .cs [.sl 0 0 2]⟩, ⟨149, .rw, .cs [adF]⟩, ⟨251, .rw, .cs [.own 8]⟩, ⟨252, .own 2, .ints .u64 (tlB m)⟩]
noncomputable def MB3 (l m : List Int) (i : Int) (cq : List C) (b : Bool) (j : Int) : Cfg := cfg s238bk3 [2, 6, 10, 11, 12, 13, 45, 46] [V.w (W.c (C.sl 1 0 2)), V.w (W.c (C.ptr 2 0)), V.w (W.c (C.ptr 3 0)), V.w (W.c (C.ptr 4 0)), V.w (W.c (C.fn 265 [(5, 0), (6, 0), (3, 0), (7, 0), (4, 0)])), V.int .i64 i, V.int .i64 2, V.int .i64 j] [⟨80, .ro, .ints .u64 l⟩, ⟨129, .ro, .ints .u64 m⟩, ⟨129, .rw, .cs (numCs [0, 0, 0, 0])⟩, ⟨129, .rw, .cs cq⟩, ⟨4, .rw, .cs [.v (.bool b)]⟩, ⟨165, .rw, .cs [.sl 0 0 2]⟩, ⟨149, .rw, .cs [adF]⟩, ⟨251, .rw, .cs [.own 8]⟩, ⟨252, .own 2, .ints .u64 (tlB m)⟩]
theorem s238bE1 {ρ : Env} {w : World} {r : Res} (l : List Int) (m : List Int) (h1 : 0 < List.length m) (h2 : 1 < List.length m) (h3 : 2 < List.length m) (h4 : 3 < List.length m) (h5 : 4 < List.length m) (h6 : 5 < List.length m) (h7 : 6 < List.length m) (h8 : 7 < List.length m) (h9 : 8 < List.length m) (h10 : 9 < List.length m) (h11 : 10 < List.length m) (h12 : 11 < List.length m) (h13 : 12 < List.length m) (h14 : 13 < List.length m) (h15 : 14 < List.length m) (h16 : 15 < List.length m) (h17 : (decide (0 ≤ List.getD m 0 0) && decide (List.getD m 0 0 < 18446744073709551616)) = true) (h18 : (decide (0 ≤ List.getD m 1 0) && decide (List.getD m 1 0 < 18446744073709551616)) = true) (h19 : (decide (0 ≤ List.getD m 2 0) && decide (List.getD m 2 0 < 18446744073709551616)) = true) (h20 : (decide (0 ≤ List.getD m 3 0) && decide (List.getD m 3 0 < 18446744073709551616)) = true) (h21 : (decide (0 ≤ List.getD m 4 0) && decide (List.getD m 4 0 < 18446744073709551616)) = true) (h22 : (decide (0 ≤ List.getD m 5 0) && decide (List.getD m 5 0 < 18446744073709551616)) = true) (h23 : (decide (0 ≤ List.getD m 6 0) && decide (List.getD m 6 0 < 18446744073709551616)) = true) (h24 : (decide (0 ≤ List.getD m 7 0) && decide (List.getD m 7 0 < 18446744073709551616)) = true) (h25 : (decide (0 ≤ List.getD m 8 0) && decide (List.getD m 8 0 < 18446744073709551616)) = true) (h26 : (decide (0 ≤ List.getD m 9 0) && decide (List.getD m 9 0 < 18446744073709551616)) = true) (h27 : (decide (0 ≤ List.getD m 10 0) && decide (List.getD m 10 0 < 18446744073709551616)) = true) (h28 : (decide (0 ≤ List.getD m 11 0) && decide (List.getD m 11 0 < 18446744073709551616)) = true) (h29 : (decide (0 ≤ List.getD m 12 0) && decide (List.getD m 12 0 < 18446744073709551616)) = true) (h30 : (decide (0 ≤ List.getD m 13 0) && decide (List.getD m 13 0 < 18446744073709551616)) = true) (h31 : (decide (0 ≤ List.getD m 14 0) && decide (List.getD m 14 0 < 18446744073709551616)) = true) (h32 : (decide (0 ≤ List.getD m 15 0) && decide (List.getD m 15 0 < 18446744073709551616)) = true) (h33 : List.length (tabS (Q4.mk (num4 (Int.toNat (List.getD m 0 0)) (Int.toNat (List.getD m 1 0)) (Int.toNat (List.getD m 2 0)) (Int.toNat (List.getD m 3 0))) (num4 (Int.toNat (List.getD m 4 0)) (Int.toNat (List.getD m 5 0)) (Int.toNat (List.getD m 6 0)) (Int.toNat (List.getD m 7 0))) (num4 (Int.toNat (List.getD m 8 0)) (Int.toNat (List.getD m 9 0)) (Int.toNat (List.getD m 10 0)) (Int.toNat (List.getD m 11 0))) (num4 (Int.toNat (List.getD m 12 0)) (Int.toNat (List.getD m 13 0)) (Int.toNat (List.getD m 14 0)) (Int.toNat (List.getD m 15 0))))) = 256) (h34 : 256 ≤ List.length (tabS (Q4.mk (num4 (Int.toNat (List.getD m 0 0)) (Int.toNat (List.getD m 1 0)) (Int.toNat (List.getD m 2 0)) (Int.toNat (List.getD m 3 0))) (num4 (Int.toNat (List.getD m 4 0)) (Int.toNat (List.getD m 5 0)) (Int.toNat (List.getD m 6 0)) (Int.toNat (List.getD m 7 0))) (num4 (Int.toNat (List.getD m 8 0)) (Int.toNat (List.getD m 9 0)) (Int.toNat (List.getD m 10 0)) (Int.toNat (List.getD m 11 0))) (num4 (Int.toNat (List.getD m 12 0)) (Int.toNat (List.getD m 13 0)) (Int.toNat (List.getD m 14 0)) (Int.toNat (List.getD m 15 0)))))) (h35 : 16 < List.length m) (h36 : 17 < List.length m) (h37 : 18 < List.length m) (h38 : 19 < List.length m) (h39 : 20 < List.length m) (h40 : 21 < List.length m) (h41 : 22 < List.length m) (h42 : 23 < List.length m) (h43 : 24 < List.length m) (h44 : 25 < List.length m) (h45 : 26 < List.length m) (h46 : 27 < List.length m) (h47 : 28 < List.length m) (h48 : 29 < List.length m) (h49 : 30 < List.length m) (h50 : 31 < List.length m) (h51 : (decide (0 ≤ List.getD m 16 0) && decide (List.getD m 16 0 < 18446744073709551616)) = true) (h52 : (decide (0 ≤ List.getD m 17 0) && decide (List.getD m 17 0 < 18446744073709551616)) = true) (h53 : (decide (0 ≤ List.getD m 18 0) && decide (List.getD m 18 0 < 18446744073709551616)) = true) (h54 : (decide (0 ≤ List.getD m 19 0) && decide (List.getD m 19 0 < 18446744073709551616)) = true) (h55 : (decide (0 ≤ List.getD m 20 0) && decide (List.getD m 20 0 < 18446744073709551616)) = true) (h56 : (decide (0 ≤ List.getD m 21 0) && decide (List.getD m 21 0 < 18446744073709551616)) = true) (h57 : (decide (0 ≤ List.getD m 22 0) && decide (List.getD m 22 0 < 18446744073709551616)) = true) (h58 : (decide (0 ≤ List.getD m 23 0) && decide (List.getD m 23 0 < 18446744073709551616)) = true) (h59 : (decide (0 ≤ List.getD m 24 0) && decide (List.getD m 24 0 < 18446744073709551616)) = true) (h60 : (decide (0 ≤ List.getD m 25 0) && decide (List.getD m 25 0 < 18446744073709551616)) = true) (h61 : (decide (0 ≤ List.getD m 26 0) && decide (List.getD m 26 0 < 18446744073709551616)) = true) (h62 : (decide (0 ≤ List.getD m 27 0) && decide (List.getD m 27 0 < 18446744073709551616)) = true) (h63 : (decide (0 ≤ List.getD m 28 0) && decide (List.getD m 28 0 < 18446744073709551616)) = true) (h64 : (decide (0 ≤ List.getD m 29 0) && decide (List.getD m 29 0 < 18446744073709551616)) = true) (h65 : (decide (0 ≤ List.getD m 30 0) && decide (List.getD m 30 0 < 18446744073709551616)) = true) (h66 : (decide (0 ≤ List.getD m 31 0) && decide (List.getD m 31 0 < 18446744073709551616)) = true) (h67 : List.length (tabS (Q4.mk (num4 (Int.toNat (List.getD m 16 0)) (Int.toNat (List.getD m 17 0)) (Int.toNat (List.getD m 18 0)) (Int.toNat (List.getD m 19 0))) (num4 (Int.toNat (List.getD m 20 0)) (Int.toNat (List.getD m 21 0)) (Int.toNat (List.getD m 22 0)) (Int.toNat (List.getD m 23 0))) (num4 (Int.toNat (List.getD m 24 0)) (Int.toNat (List.getD m 25 0)) (Int.toNat (List.getD m 26 0)) (Int.toNat (List.getD m 27 0))) (num4 (Int.toNat (List.getD m 28 0)) (Int.toNat (List.getD m 29 0)) (Int.toNat (List.getD m 30 0)) (Int.toNat (List.getD m 31 0))))) = 256) (h68 : 256 ≤ List.length (tabS (Q4.mk (num4 (Int.toNat (List.getD m 16 0)) (Int.toNat (List.getD m 17 0)) (Int.toNat (List.getD m 18 0)) (Int.toNat (List.getD m 19 0))) (num4 (Int.toNat (List.getD m 20 0)) (Int.toNat (List.getD m 21 0)) (Int.toNat (List.getD m 22 0)) (Int.toNat (List.getD m 23 0))) (num4 (Int.toNat (List.getD m 24 0)) (Int.toNat (List.getD m 25 0)) (Int.toNat (List.getD m 26 0)) (Int.toNat (List.getD m 27 0))) (num4 (Int.toNat (List.getD m 28 0)) (Int.toNat (List.getD m 29 0)) (Int.toNat (List.getD m 30 0)) (Int.toNat (List.getD m 31 0)))))) (hg : G (mkX Try.prog (tab lcm3) Try.f238 [⟨80, .ro, .ints .u64 l⟩, ⟨129, .ro, .ints .u64 m⟩] ρ w r) (MB1 l m 63 (cellsQ zero4) false)) : G (mkX Try.prog (tab lcm3) Try.f238 [⟨80, .ro, .ints .u64 l⟩, ⟨129, .ro, .ints .u64 m⟩] ρ w r) (cfg [.code (Try.f238.body.getD .skip)] (List.range 3) ([W.c adF, .c (.sl 0 0 2), .c (.sl 1 0 2)].map V.w) [⟨80, .ro, .ints .u64 l⟩, ⟨129, .ro, .ints .u64 m⟩]) :=
  G.seg (X := mkX Try.prog (tab lcm3) Try.f238 [Blk.mk 80 Mode.ro (K.ints IntKind.u64 l), Blk.mk 129 Mode.ro (K.ints IntKind.u64 m)] ρ w r) ⟨tab_ok lcm3_ok, mixed⟩ [] 1000000 3 [2, 6, 10, 11, 12, 13] [(0, none), (1, none), (10, none), (150, none), (158, none), (6, none), (2, none), (14, none), (126, none)] (k := s238bk1) (vs := [V.w (W.c (C.sl 1 0 2)), V.w (W.c (C.ptr 2 0)), V.w (W.c (C.ptr 3 0)), V.w (W.c (C.ptr 4 0)), V.w (W.c (C.fn 265 [(5, 0), (6, 0), (3, 0), (7, 0), (4, 0)])), V.int .i64 63]) (bs := [⟨80, .ro, .ints .u64 l⟩, ⟨129, .ro, .ints .u64 m⟩, ⟨129, .rw, .cs (numCs [0, 0, 0, 0])⟩, ⟨129, .rw, .cs (cellsQ zero4)⟩, ⟨4, .rw, .cs [.v (.bool false)]⟩, ⟨165, .rw, .cs [.sl 0 0 2]⟩, ⟨149, .rw, .cs [adF]⟩, ⟨251, .rw, .cs [.own 8]⟩, ⟨252, .own 2, .ints .u64 (tlB m)⟩]) (by kernel_rfl) (by kernel_rfl)
    (ocons rfl (ocons rfl (ocons (bltT h1) (ocons (bltT h2) (ocons (bltT h3) (ocons (bltT h4) (ocons (bltT h5) (ocons (bltT h6) (ocons (bltT h7) (ocons (bltT h8) (ocons (bltT h9) (ocons (bltT h10) (ocons (bltT h11) (ocons (bltT h12) (ocons (bltT h13) (ocons (bltT h14) (ocons (bltT h15) (ocons (bltT h16) (ocons rfl (ocons h17 (ocons h18 (ocons h19 (ocons h20 (ocons h21 (ocons h22 (ocons h23 (ocons h24 (ocons h25 (ocons h26 (ocons h27 (ocons h28 (ocons h29 (ocons h30 (ocons h31 (ocons h32 (ocons (beqT h33) (ocons rfl (ocons rfl (ocons (bleT h34) (ocons rfl (ocons rfl (ocons rfl (ocons (bltT h35) (ocons (bltT h36) (ocons (bltT h37) (ocons (bltT h38) (ocons (bltT h39) (ocons (bltT h40) (ocons (bltT h41) (ocons (bltT h42) (ocons (bltT h43) (ocons (bltT h44) (ocons (bltT h45) (ocons (bltT h46) (ocons (bltT h47) (ocons (bltT h48) (ocons (bltT h49) (ocons (bltT h50) (ocons rfl (ocons h51 (ocons h52 (ocons h53 (ocons h54 (ocons h55 (ocons h56 (ocons h57 (ocons h58 (ocons h59 (ocons h60 (ocons h61 (ocons h62 (ocons h63 (ocons h64 (ocons h65 (ocons h66 (ocons (beqT h67) (ocons rfl (ocons rfl (ocons (bleT h68) (ocons rfl (ocons rfl (ocons rfl onil)))))))))))))))))))))))))))))))))))))))))))))))))))))))))))))))))))))))))))))))))) hg
theorem s238bE2 {ρ : Env} {w : World} {r : Res} (l m : List Int) (i : Int) (q : Q4) (b : Bool) (h1 : i ≥ 0) (hg : G (mkX Try.prog (tab lcm3) Try.f238 [⟨80, .ro, .ints .u64 l⟩, ⟨129, .ro, .ints .u64 m⟩] ρ w r) (MB2 l m i (cellsQ q) b 0)) : G (mkX Try.prog (tab lcm3) Try.f238 [⟨80, .ro, .ints .u64 l⟩, ⟨129, .ro, .ints .u64 m⟩] ρ w r) (MB1 l m i (cellsQ q) b) :=
  G.seg (X := mkX Try.prog (tab lcm3) Try.f238 [Blk.mk 80 Mode.ro (K.ints IntKind.u64 l), Blk.mk 129 Mode.ro (K.ints IntKind.u64 m)] ρ w r) ⟨tab_ok lcm3_ok, mixed⟩ [(32, true)] 1000000 0 [2, 6, 10, 11, 12, 13, 14] [(0, none), (1, none), (2, none), (3, none), (4, none), (5, none), (6, none), (7, none), (8, none)] (k := s238bk2) (vs := [V.w (W.c (C.sl 1 0 2)), V.w (W.c (C.ptr 2 0)), V.w (W.c (C.ptr 3 0)), V.w (W.c (C.ptr 4 0)), V.w (W.c (C.fn 265 [(5, 0), (6, 0), (3, 0), (7, 0), (4, 0)])), V.int .i64 i, V.int .i64 0]) (bs := [⟨80, .ro, .ints .u64 l⟩, ⟨129, .ro, .ints .u64 m⟩, ⟨129, .rw, .cs (numCs [0, 0, 0, 0])⟩, ⟨129, .rw, .cs (cellsQ q)⟩, ⟨4, .rw, .cs [.v (.bool b)]⟩, ⟨165, .rw, .cs [.sl 0 0 2]⟩, ⟨149, .rw, .cs [adF]⟩, ⟨251, .rw, .cs [.own 8]⟩, ⟨252, .own 2, .ints .u64 (tlB m)⟩]) (by kernel_rfl) (by kernel_rfl)
    (ocons (decide_eq_true h1) onil) hg
theorem s238bE3 {ρ : Env} {w : World} (l m : List Int) (i : Int) (q : Q4) (b : Bool) (h1 : ¬i ≥ 0) : G (mkX Try.prog (tab lcm3) Try.f238 [⟨80, .ro, .ints .u64 l⟩, ⟨129, .ro, .ints .u64 m⟩] ρ w ⟨r4 q, [], []⟩) (MB1 l m i (cellsQ q) b) :=
  G.ends (tab_ok lcm3_ok) mixed [(32, false)] 1000000 [(0, none), (1, none)] (by kernel_rfl) (by kernel_rfl) (by kernel_rfl) (by kernel_rfl)
    (ocons (ndec h1) (ocons rfl onil))
theorem s238bE4 {ρ : Env} {w : World} {r : Res} (l m : List Int) (i : Int) (q : Q4) (b : Bool) (t : Int) (h1 : t < 4) (h2 : b = true) (hg : G (mkX Try.prog (tab lcm3) Try.f238 [⟨80, .ro, .ints .u64 l⟩, ⟨129, .ro, .ints .u64 m⟩] ρ w r) (MB2 l m i (cellsQ (dblN q)) b (IntKind.wrap .i64 (t + 1)))) : G (mkX Try.prog (tab lcm3) Try.f238 [⟨80, .ro, .ints .u64 l⟩, ⟨129, .ro, .ints .u64 m⟩] ρ w r) (MB2 l m i (cellsQ q) b t) :=
  G.seg (X := mkX Try.prog (tab lcm3) Try.f238 [Blk.mk 80 Mode.ro (K.ints IntKind.u64 l), Blk.mk 129 Mode.ro (K.ints IntKind.u64 m)] ρ w r) ⟨tab_ok lcm3_ok, mixed⟩ [(37, true), (39, true)] 1000000 0 [2, 6, 10, 11, 12, 13, 14] [(0, none), (1, none), (2, none), (3, none), (4, none), (5, none), (6, none), (7, none), (8, none)] (k := s238bk2) (vs := [V.w (W.c (C.sl 1 0 2)), V.w (W.c (C.ptr 2 0)), V.w (W.c (C.ptr 3 0)), V.w (W.c (C.ptr 4 0)), V.w (W.c (C.fn 265 [(5, 0), (6, 0), (3, 0), (7, 0), (4, 0)])), V.int .i64 i, V.int .i64 (IntKind.wrap .i64 (t + 1))]) (bs := [⟨80, .ro, .ints .u64 l⟩, ⟨129, .ro, .ints .u64 m⟩, ⟨129, .rw, .cs (numCs [0, 0, 0, 0])⟩, ⟨129, .rw, .cs (cellsQ (dblN q))⟩, ⟨4, .rw, .cs [.v (.bool b)]⟩, ⟨165, .rw, .cs [.sl 0 0 2]⟩, ⟨149, .rw, .cs [adF]⟩, ⟨251, .rw, .cs [.own 8]⟩, ⟨252, .own 2, .ints .u64 (tlB m)⟩]) (by kernel_rfl) (by kernel_rfl)
    (ocons (decide_eq_true h1) (ocons h2 (ocons rfl onil))) hg
theorem s238bE5 {ρ : Env} {w : World} {r : Res} (l m : List Int) (i : Int) (q : Q4) (b : Bool) (t : Int) (h1 : t < 4) (h2 : (!b) = true) (hg : G (mkX Try.prog (tab lcm3) Try.f238 [⟨80, .ro, .ints .u64 l⟩, ⟨129, .ro, .ints .u64 m⟩] ρ w r) (MB3 l m i (cellsQ q) b 0)) : G (mkX Try.prog (tab lcm3) Try.f238 [⟨80, .ro, .ints .u64 l⟩, ⟨129, .ro, .ints .u64 m⟩] ρ w r) (MB2 l m i (cellsQ q) b t) :=
  G.seg (X := mkX Try.prog (tab lcm3) Try.f238 [Blk.mk 80 Mode.ro (K.ints IntKind.u64 l), Blk.mk 129 Mode.ro (K.ints IntKind.u64 m)] ρ w r) ⟨tab_ok lcm3_ok, mixed⟩ [(37, true), (39, false)] 1000000 0 [2, 6, 10, 11, 12, 13, 45, 46] [(0, none), (1, none), (2, none), (3, none), (4, none), (5, none), (6, none), (7, none), (8, none)] (k := s238bk3) (vs := [V.w (W.c (C.sl 1 0 2)), V.w (W.c (C.ptr 2 0)), V.w (W.c (C.ptr 3 0)), V.w (W.c (C.ptr 4 0)), V.w (W.c (C.fn 265 [(5, 0), (6, 0), (3, 0), (7, 0), (4, 0)])), V.int .i64 i, V.int .i64 2, V.int .i64 0]) (bs := [⟨80, .ro, .ints .u64 l⟩, ⟨129, .ro, .ints .u64 m⟩, ⟨129, .rw, .cs (numCs [0, 0, 0, 0])⟩, ⟨129, .rw, .cs (cellsQ q)⟩, ⟨4, .rw, .cs [.v (.bool b)]⟩, ⟨165, .rw, .cs [.sl 0 0 2]⟩, ⟨149, .rw, .cs [adF]⟩, ⟨251, .rw, .cs [.own 8]⟩, ⟨252, .own 2, .ints .u64 (tlB m)⟩]) (by kernel_rfl) (by kernel_rfl)
    (ocons (decide_eq_true h1) (ocons h2 onil)) hg
theorem s238bE6 {ρ : Env} {w : World} {r : Res} (l m : List Int) (i : Int) (q : Q4) (b : Bool) (t : Int) (h1 : ¬t < 4) (hg : G (mkX Try.prog (tab lcm3) Try.f238 [⟨80, .ro, .ints .u64 l⟩, ⟨129, .ro, .ints .u64 m⟩] ρ w r) (MB3 l m i (cellsQ q) b 0)) : G (mkX Try.prog (tab lcm3) Try.f238 [⟨80, .ro, .ints .u64 l⟩, ⟨129, .ro, .ints .u64 m⟩] ρ w r) (MB2 l m i (cellsQ q) b t) :=
  G.seg (X := mkX Try.prog (tab lcm3) Try.f238 [Blk.mk 80 Mode.ro (K.ints IntKind.u64 l), Blk.mk 129 Mode.ro (K.ints IntKind.u64 m)] ρ w r) ⟨tab_ok lcm3_ok, mixed⟩ [(37, false)] 1000000 0 [2, 6, 10, 11, 12, 13, 45, 46] [(0, none), (1, none), (2, none), (3, none), (4, none), (5, none), (6, none), (7, none), (8, none)] (k := s238bk3) (vs := [V.w (W.c (C.sl 1 0 2)), V.w (W.c (C.ptr 2 0)), V.w (W.c (C.ptr 3 0)), V.w (W.c (C.ptr 4 0)), V.w (W.c (C.fn 265 [(5, 0), (6, 0), (3, 0), (7, 0), (4, 0)])), V.int .i64 i, V.int .i64 2, V.int .i64 0]) (bs := [⟨80, .ro, .ints .u64 l⟩, ⟨129, .ro, .ints .u64 m⟩, ⟨129, .rw, .cs (numCs [0, 0, 0, 0])⟩, ⟨129, .rw, .cs (cellsQ q)⟩, ⟨4, .rw, .cs [.v (.bool b)]⟩, ⟨165, .rw, .cs [.sl 0 0 2]⟩, ⟨149, .rw, .cs [adF]⟩, ⟨251, .rw, .cs [.own 8]⟩, ⟨252, .own 2, .ints .u64 (tlB m)⟩]) (by kernel_rfl) (by kernel_rfl)
    (ocons (ndec h1) onil) hg
theorem s238bE7 {ρ : Env} {w : World} {r : Res} (l m : List Int) (i : Int) (q : Q4) (b : Bool) (j : Int) (h1 : j < 2) (h2 : 0 ≤ j) (h3 : l.length = 8) (h4 : l.all isW = true) (h5 : (tlB m).length = 512) (h6 : (tlB m).all isW = true) (h7 : 0 ≤ i) (h8 : i < 64) (hg : G (mkX Try.prog (tab lcm3) Try.f238 [⟨80, .ro, .ints .u64 l⟩, ⟨129, .ro, .ints .u64 m⟩] ρ w r) (MB3 l m i (newC l (tlB m) j i q) (b || !askZ l j i) (IntKind.wrap .i64 (j + 1)))) : G (mkX Try.prog (tab lcm3) Try.f238 [⟨80, .ro, .ints .u64 l⟩, ⟨129, .ro, .ints .u64 m⟩] ρ w r) (MB3 l m i (cellsQ q) b j) :=
  G.seg (X := mkX Try.prog (tab lcm3) Try.f238 [Blk.mk 80 Mode.ro (K.ints IntKind.u64 l), Blk.mk 129 Mode.ro (K.ints IntKind.u64 m)] ρ w r) ⟨tab_ok lcm3_ok, mixed⟩ [(47, true)] 1000000 0 [2, 6, 10, 11, 12, 13, 45, 46] [(0, none), (1, none), (2, none), (3, none), (4, none), (5, none), (6, none), (7, none), (8, none)] (k := s238bk3) (vs := [V.w (W.c (C.sl 1 0 2)), V.w (W.c (C.ptr 2 0)), V.w (W.c (C.ptr 3 0)), V.w (W.c (C.ptr 4 0)), V.w (W.c (C.fn 265 [(5, 0), (6, 0), (3, 0), (7, 0), (4, 0)])), V.int .i64 i, V.int .i64 2, V.int .i64 (IntKind.wrap .i64 (j + 1))]) (bs := [⟨80, .ro, .ints .u64 l⟩, ⟨129, .ro, .ints .u64 m⟩, ⟨129, .rw, .cs (numCs [0, 0, 0, 0])⟩, ⟨129, .rw, .cs (newC l (tlB m) j i q)⟩, ⟨4, .rw, .cs [.v (.bool (b || !askZ l j i))]⟩, ⟨165, .rw, .cs [.sl 0 0 2]⟩, ⟨149, .rw, .cs [adF]⟩, ⟨251, .rw, .cs [.own 8]⟩, ⟨252, .own 2, .ints .u64 (tlB m)⟩]) (by kernel_rfl) (by kernel_rfl)
    (ocons (decide_eq_true h1) (ocons (decide_eq_true h2) (ocons (decide_eq_true h1) (ocons (beqT h3) (ocons h4 (ocons (beqT h5) (ocons h6 (ocons (decide_eq_true h7) (ocons (decide_eq_true h8) (ocons rfl onil)))))))))) hg
theorem s238bE8 {ρ : Env} {w : World} {r : Res} (l m : List Int) (i : Int) (q : Q4) (b : Bool) (j : Int) (h1 : ¬j < 2) (hg : G (mkX Try.prog (tab lcm3) Try.f238 [⟨80, .ro, .ints .u64 l⟩, ⟨129, .ro, .ints .u64 m⟩] ρ w r) (MB1 l m (IntKind.wrap .i64 (i - 1)) (cellsQ q) b)) : G (mkX Try.prog (tab lcm3) Try.f238 [⟨80, .ro, .ints .u64 l⟩, ⟨129, .ro, .ints .u64 m⟩] ρ w r) (MB3 l m i (cellsQ q) b j) :=
  G.seg (X := mkX Try.prog (tab lcm3) Try.f238 [Blk.mk 80 Mode.ro (K.ints IntKind.u64 l), Blk.mk 129 Mode.ro (K.ints IntKind.u64 m)] ρ w r) ⟨tab_ok lcm3_ok, mixed⟩ [(47, false)] 1000000 0 [2, 6, 10, 11, 12, 13] [(0, none), (1, none), (2, none), (3, none), (4, none), (5, none), (6, none), (7, none), (8, none)] (k := s238bk1) (vs := [V.w (W.c (C.sl 1 0 2)), V.w (W.c (C.ptr 2 0)), V.w (W.c (C.ptr 3 0)), V.w (W.c (C.ptr 4 0)), V.w (W.c (C.fn 265 [(5, 0), (6, 0), (3, 0), (7, 0), (4, 0)])), V.int .i64 (IntKind.wrap .i64 (i - 1))]) (bs := [⟨80, .ro, .ints .u64 l⟩, ⟨129, .ro, .ints .u64 m⟩, ⟨129, .rw, .cs (numCs [0, 0, 0, 0])⟩, ⟨129, .rw, .cs (cellsQ q)⟩, ⟨4, .rw, .cs [.v (.bool b)]⟩, ⟨165, .rw, .cs [.sl 0 0 2]⟩, ⟨149, .rw, .cs [adF]⟩, ⟨251, .rw, .cs [.own 8]⟩, ⟨252, .own 2, .ints .u64 (tlB m)⟩]) (by kernel_rfl) (by kernel_rfl)
    (ocons (ndec h1) onil) hg

theorem MA_key (l m : List Int) (hl : l.length = 4) (hlw : l.all isW = true) {ρ : Env} {w : World} {r : Res} : ∀ (c : Nat) (q : Q4) (b : Bool), c ≤ 64 → r = ⟨r4 (runA l (tlA m) c q b), [], []⟩ → G (mkX Try.prog (tab lcm3) Try.f238 [⟨80, .ro, .ints .u64 l⟩, ⟨129, .ro, .ints .u64 m⟩] ρ w r) (MA1 l m ((c : Int) - 1) (cellsQ q) b)
  | 0, q, b, _, hr => by
    subst hr
    exact s238aE3 l m _ q b (by omega)
  | c + 1, q, b, hc, hr => by
    rw [show ((c + 1 : Nat) : Int) - 1 = (c : Int) by omega]
    refine s238aE2 l m _ q b (by omega) ?_
    have rest : G (mkX Try.prog (tab lcm3) Try.f238 [⟨80, .ro, .ints .u64 l⟩, ⟨129, .ro, .ints .u64 m⟩] ρ w r) (MA3 l m (c : Int) (cellsQ (bif b then dbl4 q else q)) b 0) := by
      refine s238aE7 l m _ _ _ _ (by omega) (by omega) hl hlw (tlA_length m) (tlA_isW m) (by omega) (by omega) ?_
      rw [newC_eq, show IntKind.wrap .i64 ((0 : Int) + 1) = 1 by decide]
      refine s238aE8 l m _ _ _ _ (by omega) ?_
      rw [show IntKind.wrap .i64 ((c : Int) - 1) = (c : Int) - 1 by rw [i64w] <;> omega]
      exact MA_key l m hl hlw c _ _ (by omega) hr
    cases b with
    | false => exact s238aE5 l m _ q false 0 (by omega) rfl rest
    | true =>
      refine s238aE4 l m _ q true 0 (by omega) rfl ?_
      rw [show IntKind.wrap .i64 ((0 : Int) + 1) = 1 by decide]
      refine s238aE4 l m _ _ true 1 (by omega) rfl ?_
      rw [show IntKind.wrap .i64 ((1 : Int) + 1) = 2 by decide]
      refine s238aE4 l m _ _ true 2 (by omega) rfl ?_
      rw [show IntKind.wrap .i64 ((2 : Int) + 1) = 3 by decide]
      refine s238aE4 l m _ _ true 3 (by omega) rfl ?_
      rw [show IntKind.wrap .i64 ((3 : Int) + 1) = 4 by decide]
      exact s238aE6 l m _ _ true 4 (by omega) rest
theorem MB_key (l m : List Int) (hl : l.length = 8) (hlw : l.all isW = true) {ρ : Env} {w : World} {r : Res} : ∀ (c : Nat) (q : Q4) (b : Bool), c ≤ 64 → r = ⟨r4 (runB l (tlB m) c q b), [], []⟩ → G (mkX Try.prog (tab lcm3) Try.f238 [⟨80, .ro, .ints .u64 l⟩, ⟨129, .ro, .ints .u64 m⟩] ρ w r) (MB1 l m ((c : Int) - 1) (cellsQ q) b)
  | 0, q, b, _, hr => by
    subst hr
    exact s238bE3 l m _ q b (by omega)
  | c + 1, q, b, hc, hr => by
    rw [show ((c + 1 : Nat) : Int) - 1 = (c : Int) by omega]
    refine s238bE2 l m _ q b (by omega) ?_
    have rest : G (mkX Try.prog (tab lcm3) Try.f238 [⟨80, .ro, .ints .u64 l⟩, ⟨129, .ro, .ints .u64 m⟩] ρ w r) (MB3 l m (c : Int) (cellsQ (bif b then dbl4 q else q)) b 0) := by
      refine s238bE7 l m _ _ _ _ (by omega) (by omega) hl hlw (tlB_length m) (tlB_isW m) (by omega) (by omega) ?_
      rw [newC_eq, show IntKind.wrap .i64 ((0 : Int) + 1) = 1 by decide]
      refine s238bE7 l m _ _ _ _ (by omega) (by omega) hl hlw (tlB_length m) (tlB_isW m) (by omega) (by omega) ?_
      rw [newC_eq, show IntKind.wrap .i64 ((1 : Int) + 1) = 2 by decide]
      refine s238bE8 l m _ _ _ _ (by omega) ?_
      rw [show IntKind.wrap .i64 ((c : Int) - 1) = (c : Int) - 1 by rw [i64w] <;> omega]
      exact MB_key l m hl hlw c _ _ (by omega) hr
    cases b with
    | false => exact s238bE5 l m _ q false 0 (by omega) rfl rest
    | true =>
      refine s238bE4 l m _ q true 0 (by omega) rfl ?_
      rw [show IntKind.wrap .i64 ((0 : Int) + 1) = 1 by decide]
      refine s238bE4 l m _ _ true 1 (by omega) rfl ?_
      rw [show IntKind.wrap .i64 ((1 : Int) + 1) = 2 by decide]
      refine s238bE4 l m _ _ true 2 (by omega) rfl ?_
      rw [show IntKind.wrap .i64 ((2 : Int) + 1) = 3 by decide]
      refine s238bE4 l m _ _ true 3 (by omega) rfl ?_
      rw [show IntKind.wrap .i64 ((3 : Int) + 1) = 4 by decide]
      exact s238bE6 l m _ _ true 4 (by omega) rest
theorem s238an (l m : List Int) (hl : l.length = 4) (hlw : l.all isW = true) (hm : m.length = 16) (hmw : m.all isW = true) : Sx.Spec Try.prog 238 [.c adF, .c (.sl 0 0 1), .c (.sl 1 0 1)] [⟨80, .ro, .ints .u64 l⟩, ⟨129, .ro, .ints .u64 m⟩] ⟨r4 (runA l (tlA m) 64 zero4 false), [], []⟩ := by
  refine spec_body (tab := tab lcm3) Try.func238 (by kernel_rfl) (by kernel_rfl) (by kernel_rfl) fun ρ w => ?_
  have hL : ∀ k, k < 16 → k < m.length := fun k hk => by omega
  have hW : ∀ k, (decide (0 ≤ List.getD m k 0) && decide (List.getD m k 0 < 18446744073709551616)) = true := fun k => getD_w hmw k
  exact s238aE1 l m (hL 0 (by omega)) (hL 1 (by omega)) (hL 2 (by omega)) (hL 3 (by omega)) (hL 4 (by omega)) (hL 5 (by omega)) (hL 6 (by omega)) (hL 7 (by omega)) (hL 8 (by omega)) (hL 9 (by omega)) (hL 10 (by omega)) (hL 11 (by omega)) (hL 12 (by omega)) (hL 13 (by omega)) (hL 14 (by omega)) (hL 15 (by omega)) (hW 0) (hW 1) (hW 2) (hW 3) (hW 4) (hW 5) (hW 6) (hW 7) (hW 8) (hW 9) (hW 10) (hW 11) (hW 12) (hW 13) (hW 14) (hW 15) (tab256_length _) (Nat.le_of_eq (tab256_length _).symm) (MA_key l m hl hlw 64 zero4 false (Nat.le_refl _) rfl)
theorem s238bn (l m : List Int) (hl : l.length = 8) (hlw : l.all isW = true) (hm : m.length = 32) (hmw : m.all isW = true) : Sx.Spec Try.prog 238 [.c adF, .c (.sl 0 0 2), .c (.sl 1 0 2)] [⟨80, .ro, .ints .u64 l⟩, ⟨129, .ro, .ints .u64 m⟩] ⟨r4 (runB l (tlB m) 64 zero4 false), [], []⟩ := by
  refine spec_body (tab := tab lcm3) Try.func238 (by kernel_rfl) (by kernel_rfl) (by kernel_rfl) fun ρ w => ?_
  have hL : ∀ k, k < 32 → k < m.length := fun k hk => by omega
  have hW : ∀ k, (decide (0 ≤ List.getD m k 0) && decide (List.getD m k 0 < 18446744073709551616)) = true := fun k => getD_w hmw k
  exact s238bE1 l m (hL 0 (by omega)) (hL 1 (by omega)) (hL 2 (by omega)) (hL 3 (by omega)) (hL 4 (by omega)) (hL 5 (by omega)) (hL 6 (by omega)) (hL 7 (by omega)) (hL 8 (by omega)) (hL 9 (by omega)) (hL 10 (by omega)) (hL 11 (by omega)) (hL 12 (by omega)) (hL 13 (by omega)) (hL 14 (by omega)) (hL 15 (by omega)) (hW 0) (hW 1) (hW 2) (hW 3) (hW 4) (hW 5) (hW 6) (hW 7) (hW 8) (hW 9) (hW 10) (hW 11) (hW 12) (hW 13) (hW 14) (hW 15) (tab256_length _) (Nat.le_of_eq (tab256_length _).symm) (hL 16 (by omega)) (hL 17 (by omega)) (hL 18 (by omega)) (hL 19 (by omega)) (hL 20 (by omega)) (hL 21 (by omega)) (hL 22 (by omega)) (hL 23 (by omega)) (hL 24 (by omega)) (hL 25 (by omega)) (hL 26 (by omega)) (hL 27 (by omega)) (hL 28 (by omega)) (hL 29 (by omega)) (hL 30 (by omega)) (hL 31 (by omega)) (hW 16) (hW 17) (hW 18) (hW 19) (hW 20) (hW 21) (hW 22) (hW 23) (hW 24) (hW 25) (hW 26) (hW 27) (hW 28) (hW 29) (hW 30) (hW 31) (tab256_length _) (Nat.le_of_eq (tab256_length _).symm) (MB_key l m hl hlw 64 zero4 false (Nat.le_refl _) rfl)
noncomputable def runAS (l m : List Int) : Q4 := sQ (runA l (tlA m) 64 zero4 false)
noncomputable def runBS (l m : List Int) : Q4 := sQ (runB l (tlB m) 64 zero4 false)
noncomputable def e238a : Entry := fun args ms => match args, ms with
  | [.c f, .c (.sl 0 0 1), .c (.sl 1 0 1)], [⟨t, .ro, .ints .u64 l⟩, ⟨u, .ro, .ints .u64 m⟩] =>
    bif isAd f && (Nat.beq t 80 && Nat.beq u 129) then some (⟨r4 (runAS l m), [], []⟩, [Nat.beq l.length 4, l.all isW, Nat.beq m.length 16, m.all isW]) else none
  | _, _ => none
noncomputable def e238b : Entry := fun args ms => match args, ms with
  | [.c f, .c (.sl 0 0 2), .c (.sl 1 0 2)], [⟨t, .ro, .ints .u64 l⟩, ⟨u, .ro, .ints .u64 m⟩] =>
    bif isAd f && (Nat.beq t 80 && Nat.beq u 129) then some (⟨r4 (runBS l m), [], []⟩, [Nat.beq l.length 8, l.all isW, Nat.beq m.length 32, m.all isW]) else none
  | _, _ => none
theorem e238a_ok : EntryOk Try.prog 238 e238a := by
  intro args ms r obs he ho
  unfold e238a at he
  split at he
  · rename_i f t l u m
    cases hb : (isAd f && (Nat.beq t 80 && Nat.beq u 129)) with
    | false => rw [hb] at he; cases he
    | true =>
      rw [hb, cond_true] at he
      cases he
      simp only [Bool.and_eq_true, Nat.beq_eq] at hb
      obtain ⟨hf, rfl, rfl⟩ := hb
      have ef := isAd_eq hf
      subst ef
      simp only [List.mem_cons, List.not_mem_nil, or_false, forall_eq_or_imp, forall_eq, Nat.beq_eq] at ho
      obtain ⟨h1, h2, h3, h4⟩ := ho
      unfold runAS
      rw [sQ_eq]
      exact s238an l m h1 h2 h3 h4
  · cases he
theorem e238b_ok : EntryOk Try.prog 238 e238b := by
  intro args ms r obs he ho
  unfold e238b at he
  split at he
  · rename_i f t l u m
    cases hb : (isAd f && (Nat.beq t 80 && Nat.beq u 129)) with
    | false => rw [hb] at he; cases he
    | true =>
      rw [hb, cond_true] at he
      cases he
      simp only [Bool.and_eq_true, Nat.beq_eq] at hb
      obtain ⟨hf, rfl, rfl⟩ := hb
      have ef := isAd_eq hf
      subst ef
      simp only [List.mem_cons, List.not_mem_nil, or_false, forall_eq_or_imp, forall_eq, Nat.beq_eq] at ho
      obtain ⟨h1, h2, h3, h4⟩ := ho
      unfold runBS
      rw [sQ_eq]
      exact s238bn l m h1 h2 h3 h4
  · cases he
noncomputable def lcm4 : List (Nat × Entry) := [(238, roE [.val, .ints .u64, .ints .u64] (orE e238a e238b))] ++ lcm3
theorem lcm4_ok : AllOk Try.prog lcm4 := .cons (roE_ok (orE_ok e238a_ok e238b_ok)) lcm3_ok
end Go.Proofs.Ytmjejlbmcefaoaa
namespace Go.Proofs.Ytmjejlbmcefaoaa
open Go Sx
def nmN2QNN (f : Nat → Q4 → Nat → V) : List Nat → Res
  | [k, a, b, c, d, l] => ⟨f k ⟨a, b, c, d⟩ l, [], []⟩
  | _ => ⟨f 0 zero4 0, [], []⟩
def nmNQ (f : Nat → Q4 → V) : List Nat → Res
  | [k, a, b, c, d] => ⟨f k ⟨a, b, c, d⟩, [], []⟩
  | _ => ⟨f 0 zero4, [], []⟩
noncomputable def timS (k : Nat) (p : Q4) : Q4 := sQ (runAS (row4 k) (rowQ p))
noncomputable def bthS (k : Nat) (p : Q4) (l : Nat) : Q4 := sQ (runBS (row4 k ++ row4 l) (rowQ p ++ rowQ base4))
noncomputable def e156 : Entry := numsE [1, 4] (nmNQ fun k p => r4 (timS k p))
noncomputable def e158 : Entry := numsE [1, 4, 1] (nmN2QNN fun k p l => r4 (bthS k p l))
theorem s156 (k a b c d : Nat) (h1 : (row4 k).all isW = true) (h2 : (rowQ ⟨a, b, c, d⟩).all isW = true) : Sx.Spec Try.prog 156 [.agg (numC k), .agg (numCs [a, b, c, d])] [] ⟨r4 (runAS (row4 k) (rowQ ⟨a, b, c, d⟩)), [], []⟩ :=
  spec_of_whole (tab_ok lcm4_ok) mixed Try.func156 [] 1000000 [] (by kernel_rfl) (by kernel_rfl) (by kernel_rfl) (by kernel_rfl) (by kernel_rfl) (by kernel_rfl)
    (ocons rfl (ocons rfl (ocons h1 (ocons rfl (ocons h2 (ocons rfl onil))))))

theorem s158 (k a b c d l : Nat) (h1 : (row4 k ++ row4 l).all isW = true) (h2 : (rowQ ⟨a, b, c, d⟩ ++ rowQ base4).all isW = true) : Sx.Spec Try.prog 158 [.agg (numC k), .agg (numCs [a, b, c, d]), .agg (numC l)] [] ⟨r4 (runBS (row4 k ++ row4 l) (rowQ ⟨a, b, c, d⟩ ++ rowQ base4)), [], []⟩ :=
  spec_of_whole (tab_ok lcm4_ok) mixed Try.func158 [] 1000000 [] (by kernel_rfl) (by kernel_rfl) (by kernel_rfl) (by kernel_rfl) (by kernel_rfl) (by kernel_rfl)
    (ocons rfl (ocons rfl (ocons h1 (ocons rfl (ocons h2 (ocons rfl onil))))))

theorem row4_isW (n : Nat) : ∀ x ∈ row4 n, isW x = true := by
  intro x hx
  exact rowQ_isW ⟨n, 0, 0, 0⟩ x (List.mem_append_left _ hx)
theorem row4_all (n : Nat) : (row4 n).all isW = true := List.all_eq_true.2 (row4_isW n)
theorem rowQ_all (q : Q4) : (rowQ q).all isW = true := List.all_eq_true.2 (rowQ_isW q)
theorem e156_ok : EntryOk Try.prog 156 e156 := numsE_ok fun ns h hl => by
  obtain ⟨k, a, b, c, d, rfl⟩ := ns5 h
  show Sx.Spec _ _ _ _ ⟨r4 (timS k ⟨a, b, c, d⟩), [], []⟩
  unfold timS
  rw [sQ_eq]
  exact s156 k a b c d (row4_all k) (rowQ_all _)
theorem ns6 {ns : List Nat} (h : ns.length = 6) : ∃ a b c d e f, ns = [a, b, c, d, e, f] := by
  match ns, h with
  | [a, b, c, d, e, f], _ => exact ⟨a, b, c, d, e, f, rfl⟩
theorem e158_ok : EntryOk Try.prog 158 e158 := numsE_ok fun ns h hl => by
  obtain ⟨k, a, b, c, d, l, rfl⟩ := ns6 h
  show Sx.Spec _ _ _ _ ⟨r4 (bthS k ⟨a, b, c, d⟩ l), [], []⟩
  unfold bthS
  rw [sQ_eq]
  exact s158 k a b c d l (by rw [List.all_append, row4_all, row4_all]; rfl) (by rw [List.all_append, rowQ_all, rowQ_all]; rfl)
noncomputable def lcm5 : List (Nat × Entry) := [(156, e156), (158, e158)] ++ lcm4
theorem lcm5_ok : AllOk Try.prog lcm5 := .cons e156_ok (.cons e158_ok lcm4_ok)
/-- what is reckoned is what is meant. -/
theorem dblN_rep {q : Q4} {Q : Pf} (h : Rep q Q) : Rep (dblN q) (padd Q Q) := db (rn h)
theorem dbl4_rep {q : Q4} {Q : Pf} (h : Rep q Q) : Rep (dbl4 q) (ptimes Q 16) := by
  have e := dblN_rep (dblN_rep (dblN_rep (dblN_rep h)))
  have e1 : padd Q Q = ptimes Q 2 := by rw [show (2 : Nat) = 2 * 1 from rfl, ptimes_two, show ptimes Q 1 = Q from Pt.times_one crv Q]
  rw [e1, ← ptimes_two, ← ptimes_two, ← ptimes_two] at e
  exact e
theorem askN_rep {l tl : List Int} {j : Int} {k i : Nat} {P Q : Pf} {q : Q4} (hk : kAtL l j = k) (hp : ∀ d, d < 16 → Rep (ptAt tl (spot (spot 0 j.toNat 256) (Int.toNat ((d : Nat) : Int)) 16)) (ptimes P d)) (h : Rep q Q) : Rep (askN l tl j (i : Int) q) (padd Q (ptimes P (k / 16 ^ i % 16))) := by
  unfold askN askZ askQ digS
  rw [hk, sealN_eq, Int.toNat_natCast]
  cases hz : Nat.beq (k / 16 ^ i % 16) 0 with
  | true =>
    rw [Nat.beq_eq.mp hz, cond_true]
    rw [show ptimes P 0 = Pt.zero from rfl, padd_zero]
    exact h
  | false =>
    rw [cond_false]
    exact adr (rn h) (hp _ (Nat.mod_lt _ (by decide)))
theorem askZ_iff {l : List Int} {j : Int} {k i : Nat} (hk : kAtL l j = k) : askZ l j (i : Int) = Nat.beq (k / 16 ^ i % 16) 0 := by
  unfold askZ digS
  rw [hk, sealN_eq, Int.toNat_natCast]
theorem dig_split (k c : Nat) : k / 16 ^ c = k / 16 ^ (c + 1) * 16 + k / 16 ^ c % 16 := by
  rw [Nat.pow_succ, ← Nat.div_div_eq_div_mul]
  omega
theorem step_rep {P Q : Pf} {k m c : Nat} {q : Q4} {b : Bool} (h : Rep q (padd (ptimes P (k / 16 ^ (c + 1))) (ptimes Q (m / 16 ^ (c + 1))))) (hb : b = false → k / 16 ^ (c + 1) = 0 ∧ m / 16 ^ (c + 1) = 0) : Rep (bif b then dbl4 q else q) (padd (ptimes P (k / 16 ^ (c + 1) * 16)) (ptimes Q (m / 16 ^ (c + 1) * 16))) := by
  cases b with
  | true =>
    rw [cond_true]
    have e := dbl4_rep h
    rw [show ptimes (padd (ptimes P (k / 16 ^ (c + 1))) (ptimes Q (m / 16 ^ (c + 1)))) 16 = padd (ptimes (ptimes P (k / 16 ^ (c + 1))) 16) (ptimes (ptimes Q (m / 16 ^ (c + 1))) 16) from Pt.times_sum crv _ _ 16] at e
    rw [show ptimes P (k / 16 ^ (c + 1) * 16) = ptimes (ptimes P (k / 16 ^ (c + 1))) 16 from Pt.times_mul crv P _ 16, show ptimes Q (m / 16 ^ (c + 1) * 16) = ptimes (ptimes Q (m / 16 ^ (c + 1))) 16 from Pt.times_mul crv Q _ 16]
    exact e
  | false =>
    obtain ⟨h1, h2⟩ := hb rfl
    rw [h1, h2] at h ⊢
    exact h
theorem padd4 (A B C D : Pf) : padd (padd (padd A B) C) D = padd (padd A C) (padd B D) := by
  rw [show padd (padd A B) C = padd A (padd B C) from Pt.assoc crv A B C, show padd B C = padd C B from Pt.comm crv B C, show padd A (padd C B) = padd (padd A C) B from (Pt.assoc crv A C B).symm, show padd (padd (padd A C) B) D = padd (padd A C) (padd B D) from Pt.assoc crv _ _ _]
theorem runA_rep {l tl : List Int} {k : Nat} {P : Pf} (hk : kAtL l 0 = k) (hp : ∀ d, d < 16 → Rep (ptAt tl (spot (spot 0 (Int.toNat 0) 256) (Int.toNat ((d : Nat) : Int)) 16)) (ptimes P d)) : ∀ (c : Nat) (q : Q4) (b : Bool), Rep q (ptimes P (k / 16 ^ c)) → (b = false → k / 16 ^ c = 0) → Rep (runA l tl c q b) (ptimes P k)
  | 0, q, b, h, _ => by
    rw [Nat.pow_zero, Nat.div_one] at h
    exact h
  | c + 1, q, b, h, hb => by
    have z : ∀ n : Nat, 0 / n = 0 := Nat.zero_div
    have h1 := step_rep (P := P) (Q := P) (k := k) (m := 0) (c := c) (q := q) (b := b) (by rw [z, show ptimes P 0 = Pt.zero from rfl, padd_zero]; exact h) (fun e => ⟨hb e, z _⟩)
    rw [z, Nat.zero_mul, show ptimes P 0 = Pt.zero from rfl, padd_zero] at h1
    have h2 := askN_rep (i := c) hk hp h1
    rw [show padd (ptimes P (k / 16 ^ (c + 1) * 16)) (ptimes P (k / 16 ^ c % 16)) = ptimes P (k / 16 ^ (c + 1) * 16 + k / 16 ^ c % 16) from (Pt.times_add crv P _ _).symm, ← dig_split] at h2
    refine runA_rep hk hp c _ _ h2 fun e => ?_
    rw [askZ_iff hk, Bool.or_eq_false_iff] at e
    have e1 := hb e.1
    have e2 : k / 16 ^ c % 16 = 0 := Nat.beq_eq.mp (by simpa using e.2)
    rw [dig_split, e1, e2]
theorem runB_rep {l tl : List Int} {k m : Nat} {P Q : Pf} (hk : kAtL l 0 = k) (hm : kAtL l 1 = m) (hp : ∀ d, d < 16 → Rep (ptAt tl (spot (spot 0 (Int.toNat 0) 256) (Int.toNat ((d : Nat) : Int)) 16)) (ptimes P d)) (hq : ∀ d, d < 16 → Rep (ptAt tl (spot (spot 0 (Int.toNat 1) 256) (Int.toNat ((d : Nat) : Int)) 16)) (ptimes Q d)) : ∀ (c : Nat) (q : Q4) (b : Bool), Rep q (padd (ptimes P (k / 16 ^ c)) (ptimes Q (m / 16 ^ c))) → (b = false → k / 16 ^ c = 0 ∧ m / 16 ^ c = 0) → Rep (runB l tl c q b) (padd (ptimes P k) (ptimes Q m))
  | 0, q, b, h, _ => by
    rw [Nat.pow_zero, Nat.div_one, Nat.div_one] at h
    exact h
  | c + 1, q, b, h, hb => by
    have h2 := askN_rep (i := c) hm hq (askN_rep (i := c) hk hp (step_rep h hb))
    rw [padd4, show padd (ptimes P (k / 16 ^ (c + 1) * 16)) (ptimes P (k / 16 ^ c % 16)) = ptimes P (k / 16 ^ (c + 1) * 16 + k / 16 ^ c % 16) from (Pt.times_add crv P _ _).symm, ← dig_split, show padd (ptimes Q (m / 16 ^ (c + 1) * 16)) (ptimes Q (m / 16 ^ c % 16)) = ptimes Q (m / 16 ^ (c + 1) * 16 + m / 16 ^ c % 16) from (Pt.times_add crv Q _ _).symm, ← dig_split] at h2
    refine runB_rep hk hm hp hq c _ _ h2 fun e => ?_
    rw [askZ_iff hk, askZ_iff hm, Bool.or_eq_false_iff, Bool.or_eq_false_iff] at e
    obtain ⟨e1, e2⟩ := hb e.1.1
    have e3 : k / 16 ^ c % 16 = 0 := Nat.beq_eq.mp (by simpa using e.1.2)
    have e4 : m / 16 ^ c % 16 = 0 := Nat.beq_eq.mp (by simpa using e.2)
    rw [dig_split k, dig_split m, e1, e2, e3, e4]
    exact ⟨rfl, rfl⟩
theorem kAtL_0 (k : Nat) (r : List Int) (hk : k < P256) : kAtL (row4 k ++ r) 0 = k := (show kAtL (row4 k ++ r) 0 = nn k from rfl).trans (nn_id hk)
theorem kAtL_1 (k l : Nat) (hl : l < P256) : kAtL (row4 k ++ row4 l) 1 = l := (show kAtL (row4 k ++ row4 l) 1 = nn l from rfl).trans (nn_id hl)
theorem ptAt_0 {p : Q4} (r : List Int) (hp : OkQ p) : ptAt (rowQ p ++ r) 0 = p := (show ptAt (rowQ p ++ r) 0 = nq p from rfl).trans (nq_id hp)
theorem ptAt_16 {p q : Q4} (hq : OkQ q) : ptAt (rowQ p ++ rowQ q) 16 = q := (show ptAt (rowQ p ++ rowQ q) 16 = nq q from rfl).trans (nq_id hq)
theorem spot_0 (d : Nat) : spot (spot 0 (Int.toNat 0) 256) (Int.toNat ((d : Nat) : Int)) 16 = d * 16 := rfl
theorem spot_1 (d : Nat) : spot (spot 0 (Int.toNat 1) 256) (Int.toNat ((d : Nat) : Int)) 16 = 256 + d * 16 := rfl
theorem tab_at {p : Q4} {P : Pf} (h : Rep p P) (r : List Int) (d : Nat) (hd : d < 16) : Rep (ptAt (tabL p 16 ++ r) (d * 16)) (ptimes P d) := by
  unfold tabL
  rw [List.append_assoc, ptAt_rowP _ _ hd, nq_id (tabQ_ok p d)]
  exact tabQ_rep h d
theorem getD_app {a b : List Int} (i : Nat) : List.getD (a ++ b) (a.length + i) 0 = List.getD b i 0 := by
  rw [List.getD_eq_getElem?_getD, List.getElem?_append_right (by omega), Nat.add_sub_cancel_left, ← List.getD_eq_getElem?_getD]
theorem ptAt_app {a b : List Int} (h : a.length = 256) (i : Nat) : ptAt (a ++ b) (256 + i) = ptAt b i := by
  unfold ptAt numAt
  simp only [Nat.add_assoc, ← h, getD_app]
theorem timS_rep {k : Nat} (hk : k < P256) {p : Q4} {P : Pf} (h : Rep p P) : Rep (timS k p) (ptimes P k) := by
  unfold timS runAS
  rw [sQ_eq, sQ_eq]
  have hk0 : kAtL (row4 k) 0 = k := by have := kAtL_0 k [] hk; rwa [List.append_nil] at this
  have hp0 : ptAt (rowQ p) 0 = p := by have := ptAt_0 [] h.ok; rwa [List.append_nil] at this
  refine runA_rep hk0 (fun d hd => ?_) 64 _ _ ?_ ?_
  · rw [spot_0, tlA_eq, hp0]
    have := tab_at h [] d hd
    rwa [List.append_nil] at this
  · rw [Nat.div_eq_of_lt (show k < 16 ^ 64 from hk)]
    exact zero4_rep
  · intro _
    exact Nat.div_eq_of_lt (show k < 16 ^ 64 from hk)
theorem bthS_rep {k l : Nat} (hk : k < P256) (hl : l < P256) {p : Q4} {P : Pf} (h : Rep p P) : Rep (bthS k p l) (padd (ptimes P k) (ptimes bP l)) := by
  unfold bthS runBS
  rw [sQ_eq, sQ_eq]
  refine runB_rep (kAtL_0 k _ hk) (kAtL_1 k l hl) (fun d hd => ?_) (fun d hd => ?_) 64 _ _ ?_ ?_
  · rw [spot_0, tlB_eq, ptAt_0 _ h.ok]
    exact tab_at h _ d hd
  · rw [spot_1, tlB_eq, ptAt_16 base4_rep.ok, ptAt_app (tabL_length _ (by omega))]
    have := tab_at base4_rep [] d hd
    rwa [List.append_nil] at this
  · rw [Nat.div_eq_of_lt (show k < 16 ^ 64 from hk), Nat.div_eq_of_lt (show l < 16 ^ 64 from hl)]
    rw [show ptimes P 0 = Pt.zero from rfl, show ptimes bP 0 = Pt.zero from rfl, padd_zero]
    exact zero4_rep
  · intro _
    exact ⟨Nat.div_eq_of_lt (show k < 16 ^ 64 from hk), Nat.div_eq_of_lt (show l < 16 ^ 64 from hl)⟩
end Go.Proofs.Ytmjejlbmcefaoaa
namespace Go.Proofs.Ytmjejlbmcefaoaa
open Go Sx
def e153 : Entry := numsE [] (nm0 (vN 7237005577332262213973186563042994240857116359379907606001950938285454250989))
def nmNR (f : Nat → Q3 → V) : List Nat → Res
  | [k, a, b, c] => ⟨f k ⟨a, b, c⟩, [], []⟩
  | _ => ⟨f 0 zero3, [], []⟩
def nmNRN' (f : Nat → Q3 → Nat → V) : List Nat → Res
  | [k, a, b, c, l] => ⟨f k ⟨a, b, c⟩ l, [], []⟩
  | _ => ⟨f 0 zero3 0, [], []⟩
noncomputable def e157 : Entry := numsE [1, 3] (nmNR fun k p => r3 (timesRS k p 37095705934669439343138083508754565189542113879843219016388785533085940283555))
noncomputable def bth3 (k : Nat) (p : Q3) (l : Nat) : Q3 := addRS (nq3 (timesRS k p 37095705934669439343138083508754565189542113879843219016388785533085940283555)) (nq3 (timesRS l base3 37095705934669439343138083508754565189542113879843219016388785533085940283555)) 37095705934669439343138083508754565189542113879843219016388785533085940283555
noncomputable def e159 : Entry := numsE [1, 3, 1] (nmNRN' fun k p l => r3 (bth3 k p l))
noncomputable def e169 : Entry := numsE [1] (nm1 fun k => r4 (timS k base4))
noncomputable def smallS (q : Q4) : Bool := sameS (nq (dblS (nq (dblS (nq (dblS q)))))) zero4
noncomputable def e170 : Entry := numsE [4] (nmQ fun q => V.bool (smallS q))
noncomputable def mainS (q : Q4) : Bool := sameS (nq (timS 7237005577332262213973186563042994240857116359379907606001950938285454250989 q)) zero4
noncomputable def e171 : Entry := numsE [4] (nmQ fun q => V.bool (mainS q))
theorem s153v : Sx.Spec Try.prog 153 [] [] ⟨.w (.agg [C.v (Value.int .u64 6346243789798364141), C.v (Value.int .u64 1503914060200516822), C.v (Value.int .u64 0), C.v (Value.int .u64 1152921504606846976)]), [], []⟩ :=
  spec_of_whole (tab_ok lcm5_ok) mixed Try.func153 [] 1000000 [] (by kernel_rfl) (by kernel_rfl) (by kernel_rfl) (by kernel_rfl) (by kernel_rfl) (by kernel_rfl)
    (ocons rfl onil)

theorem e153_ok : EntryOk Try.prog 153 e153 := numsE_ok fun ns h hl => by
  obtain rfl : ns = [] := List.length_eq_zero_iff.1 h
  refine Spec.resv (fun ρ y hy => ?_) s153v
  obtain ⟨cs, rfl, hc⟩ := hy
  cases hc with | cons x1 h => cases h with | cons x2 h => cases h with | cons x3 h => cases h with | cons x4 h =>
  cases h
  refine ⟨_, rfl, ?_⟩
  refine .cons ?_ (.cons ?_ (.cons ?_ (.cons ?_ .nil)))
  · exact (show _ = _ from x1).trans (by kernel_rfl)
  · exact (show _ = _ from x2).trans (by kernel_rfl)
  · exact (show _ = _ from x3).trans (by kernel_rfl)
  · exact (show _ = _ from x4).trans (by kernel_rfl)
theorem s157 (k a b c : Nat) : Sx.Spec Try.prog 157 [.agg (numC k), .agg (numCs [a, b, c])] [] ⟨r3 (timesRS (nn k) (nq3 ⟨a, b, c⟩) 37095705934669439343138083508754565189542113879843219016388785533085940283555), [], []⟩ :=
  spec_of_whole (tab_ok lcm5_ok) mixed Try.func157 [] 1000000 [] (by kernel_rfl) (by kernel_rfl) (by kernel_rfl) (by kernel_rfl) (by kernel_rfl) (by kernel_rfl)
    (ocons rfl onil)

theorem okr3 {a b c : Nat} {l : List Nat} (hl : ∀ n ∈ l, n < P256) (ha : a ∈ l) (hb : b ∈ l) (hc : c ∈ l) : OkR ⟨a, b, c⟩ := ⟨hl a ha, hl b hb, hl c hc⟩
theorem e157_ok : EntryOk Try.prog 157 e157 := numsE_ok fun ns h hl => by
  obtain ⟨k, a, b, c, rfl⟩ := ns4 h
  have e := s157 k a b c
  rw [nn_id (hl k (by simp)), nq3_id (okr3 hl (by simp) (by simp) (by simp))] at e
  exact e
theorem s169 (k : Nat) : Sx.Spec Try.prog 169 [.agg (numC k)] [] ⟨r4 (timS (nn k) base4), [], []⟩ :=
  spec_of_whole (tab_ok lcm5_ok) mixed Try.func169 [] 1000000 [] (by kernel_rfl) (by kernel_rfl) (by kernel_rfl) (by kernel_rfl) (by kernel_rfl) (by kernel_rfl)
    (ocons rfl onil)

theorem e169_ok : EntryOk Try.prog 169 e169 := numsE_ok fun ns h hl => by
  obtain ⟨k, rfl⟩ := ns1 h
  have e := s169 k
  rw [nn_id (hl k (by simp))] at e
  exact e
theorem s170 (a b c d : Nat) : Sx.Spec Try.prog 170 [.agg (numCs [a, b, c, d])] [] ⟨V.bool (smallS (nq ⟨a, b, c, d⟩)), [], []⟩ :=
  spec_of_whole (tab_ok lcm5_ok) mixed Try.func170 [] 1000000 [] (by kernel_rfl) (by kernel_rfl) (by kernel_rfl) (by kernel_rfl) (by kernel_rfl) (by kernel_rfl)
    onil

theorem e170_ok : EntryOk Try.prog 170 e170 := numsE_ok fun ns h hl => by
  obtain ⟨a, b, c, d, rfl⟩ := ns4 h
  have e := s170 a b c d
  rw [nq_id (okq4 hl (by simp) (by simp) (by simp) (by simp))] at e
  exact e
noncomputable def lcm5' : List (Nat × Entry) := [(153, e153)] ++ lcm5
theorem lcm5'_ok : AllOk Try.prog lcm5' := .cons e153_ok lcm5_ok
theorem s171 (a b c d : Nat) : Sx.Spec Try.prog 171 [.agg (numCs [a, b, c, d])] [] ⟨V.bool (mainS (nq ⟨a, b, c, d⟩)), [], []⟩ :=
  spec_of_whole (tab_ok lcm5'_ok) mixed Try.func171 [] 1000000 [] (by kernel_rfl) (by kernel_rfl) (by kernel_rfl) (by kernel_rfl) (by kernel_rfl) (by kernel_rfl)
    onil

theorem e171_ok : EntryOk Try.prog 171 e171 := numsE_ok fun ns h hl => by
  obtain ⟨a, b, c, d, rfl⟩ := ns4 h
  have e := s171 a b c d
  rw [nq_id (okq4 hl (by simp) (by simp) (by simp) (by simp))] at e
  exact e
noncomputable def lcm6 : List (Nat × Entry) := [(153, e153), (157, e157), (169, e169), (170, e170), (171, e171)] ++ lcm5
theorem lcm6_ok : AllOk Try.prog lcm6 := .cons e153_ok (.cons e157_ok (.cons e169_ok (.cons e170_ok (.cons e171_ok lcm5_ok))))
theorem s159 (k a b c l : Nat) : Sx.Spec Try.prog 159 [.agg (numC k), .agg (numCs [a, b, c]), .agg (numC l)] [] ⟨r3 (bth3 (nn k) (nq3 ⟨a, b, c⟩) (nn l)), [], []⟩ :=
  spec_of_whole (tab_ok lcm6_ok) mixed Try.func159 [] 1000000 [] (by kernel_rfl) (by kernel_rfl) (by kernel_rfl) (by kernel_rfl) (by kernel_rfl) (by kernel_rfl)
    (ocons rfl onil)

theorem e159_ok : EntryOk Try.prog 159 e159 := numsE_ok fun ns h hl => by
  obtain ⟨k, a, b, c, l, rfl⟩ := ns5 h
  have e := s159 k a b c l
  rw [nn_id (hl k (by simp)), nn_id (hl l (by simp)), nq3_id (okr3 hl (by simp) (by simp) (by simp))] at e
  exact e
theorem s160_1 (h1 : sameS (Q4.mk (num4 (Q4.x (timS 1 (Q4.mk 15112221349535400772501151409588531511454012693041857206046113283949847762202 46316835694926478169428394003475163141307993866256225615783033603165251855960 1 46827403850823179245072216630277197565144205554125654976674165829533817101731)) % 18446744073709551616) (Q4.x (timS 1 (Q4.mk 15112221349535400772501151409588531511454012693041857206046113283949847762202 46316835694926478169428394003475163141307993866256225615783033603165251855960 1 46827403850823179245072216630277197565144205554125654976674165829533817101731)) / 18446744073709551616 % 18446744073709551616) (Q4.x (timS 1 (Q4.mk 15112221349535400772501151409588531511454012693041857206046113283949847762202 46316835694926478169428394003475163141307993866256225615783033603165251855960 1 46827403850823179245072216630277197565144205554125654976674165829533817101731)) / 340282366920938463463374607431768211456 % 18446744073709551616) (Q4.x (timS 1 (Q4.mk 15112221349535400772501151409588531511454012693041857206046113283949847762202 46316835694926478169428394003475163141307993866256225615783033603165251855960 1 46827403850823179245072216630277197565144205554125654976674165829533817101731)) / 6277101735386680763835789423207666416102355444464034512896 % 18446744073709551616)) (num4 (Q4.y (timS 1 (Q4.mk 15112221349535400772501151409588531511454012693041857206046113283949847762202 46316835694926478169428394003475163141307993866256225615783033603165251855960 1 46827403850823179245072216630277197565144205554125654976674165829533817101731)) % 18446744073709551616) (Q4.y (timS 1 (Q4.mk 15112221349535400772501151409588531511454012693041857206046113283949847762202 46316835694926478169428394003475163141307993866256225615783033603165251855960 1 46827403850823179245072216630277197565144205554125654976674165829533817101731)) / 18446744073709551616 % 18446744073709551616) (Q4.y (timS 1 (Q4.mk 15112221349535400772501151409588531511454012693041857206046113283949847762202 46316835694926478169428394003475163141307993866256225615783033603165251855960 1 46827403850823179245072216630277197565144205554125654976674165829533817101731)) / 340282366920938463463374607431768211456 % 18446744073709551616) (Q4.y (timS 1 (Q4.mk 15112221349535400772501151409588531511454012693041857206046113283949847762202 46316835694926478169428394003475163141307993866256225615783033603165251855960 1 46827403850823179245072216630277197565144205554125654976674165829533817101731)) / 6277101735386680763835789423207666416102355444464034512896 % 18446744073709551616)) (num4 (Q4.z (timS 1 (Q4.mk 15112221349535400772501151409588531511454012693041857206046113283949847762202 46316835694926478169428394003475163141307993866256225615783033603165251855960 1 46827403850823179245072216630277197565144205554125654976674165829533817101731)) % 18446744073709551616) (Q4.z (timS 1 (Q4.mk 15112221349535400772501151409588531511454012693041857206046113283949847762202 46316835694926478169428394003475163141307993866256225615783033603165251855960 1 46827403850823179245072216630277197565144205554125654976674165829533817101731)) / 18446744073709551616 % 18446744073709551616) (Q4.z (timS 1 (Q4.mk 15112221349535400772501151409588531511454012693041857206046113283949847762202 46316835694926478169428394003475163141307993866256225615783033603165251855960 1 46827403850823179245072216630277197565144205554125654976674165829533817101731)) / 340282366920938463463374607431768211456 % 18446744073709551616) (Q4.z (timS 1 (Q4.mk 15112221349535400772501151409588531511454012693041857206046113283949847762202 46316835694926478169428394003475163141307993866256225615783033603165251855960 1 46827403850823179245072216630277197565144205554125654976674165829533817101731)) / 6277101735386680763835789423207666416102355444464034512896 % 18446744073709551616)) (num4 (Q4.t (timS 1 (Q4.mk 15112221349535400772501151409588531511454012693041857206046113283949847762202 46316835694926478169428394003475163141307993866256225615783033603165251855960 1 46827403850823179245072216630277197565144205554125654976674165829533817101731)) % 18446744073709551616) (Q4.t (timS 1 (Q4.mk 15112221349535400772501151409588531511454012693041857206046113283949847762202 46316835694926478169428394003475163141307993866256225615783033603165251855960 1 46827403850823179245072216630277197565144205554125654976674165829533817101731)) / 18446744073709551616 % 18446744073709551616) (Q4.t (timS 1 (Q4.mk 15112221349535400772501151409588531511454012693041857206046113283949847762202 46316835694926478169428394003475163141307993866256225615783033603165251855960 1 46827403850823179245072216630277197565144205554125654976674165829533817101731)) / 340282366920938463463374607431768211456 % 18446744073709551616) (Q4.t (timS 1 (Q4.mk 15112221349535400772501151409588531511454012693041857206046113283949847762202 46316835694926478169428394003475163141307993866256225615783033603165251855960 1 46827403850823179245072216630277197565144205554125654976674165829533817101731)) / 6277101735386680763835789423207666416102355444464034512896 % 18446744073709551616))) (Q4.mk 15112221349535400772501151409588531511454012693041857206046113283949847762202 46316835694926478169428394003475163141307993866256225615783033603165251855960 1 46827403850823179245072216630277197565144205554125654976674165829533817101731) = true) (h2 : sameS (Q4.mk (num4 (Q4.x (timS 0 (Q4.mk 15112221349535400772501151409588531511454012693041857206046113283949847762202 46316835694926478169428394003475163141307993866256225615783033603165251855960 1 46827403850823179245072216630277197565144205554125654976674165829533817101731)) % 18446744073709551616) (Q4.x (timS 0 (Q4.mk 15112221349535400772501151409588531511454012693041857206046113283949847762202 46316835694926478169428394003475163141307993866256225615783033603165251855960 1 46827403850823179245072216630277197565144205554125654976674165829533817101731)) / 18446744073709551616 % 18446744073709551616) (Q4.x (timS 0 (Q4.mk 15112221349535400772501151409588531511454012693041857206046113283949847762202 46316835694926478169428394003475163141307993866256225615783033603165251855960 1 46827403850823179245072216630277197565144205554125654976674165829533817101731)) / 340282366920938463463374607431768211456 % 18446744073709551616) (Q4.x (timS 0 (Q4.mk 15112221349535400772501151409588531511454012693041857206046113283949847762202 46316835694926478169428394003475163141307993866256225615783033603165251855960 1 46827403850823179245072216630277197565144205554125654976674165829533817101731)) / 6277101735386680763835789423207666416102355444464034512896 % 18446744073709551616)) (num4 (Q4.y (timS 0 (Q4.mk 15112221349535400772501151409588531511454012693041857206046113283949847762202 46316835694926478169428394003475163141307993866256225615783033603165251855960 1 46827403850823179245072216630277197565144205554125654976674165829533817101731)) % 18446744073709551616) (Q4.y (timS 0 (Q4.mk 15112221349535400772501151409588531511454012693041857206046113283949847762202 46316835694926478169428394003475163141307993866256225615783033603165251855960 1 46827403850823179245072216630277197565144205554125654976674165829533817101731)) / 18446744073709551616 % 18446744073709551616) (Q4.y (timS 0 (Q4.mk 15112221349535400772501151409588531511454012693041857206046113283949847762202 46316835694926478169428394003475163141307993866256225615783033603165251855960 1 46827403850823179245072216630277197565144205554125654976674165829533817101731)) / 340282366920938463463374607431768211456 % 18446744073709551616) (Q4.y (timS 0 (Q4.mk 15112221349535400772501151409588531511454012693041857206046113283949847762202 46316835694926478169428394003475163141307993866256225615783033603165251855960 1 46827403850823179245072216630277197565144205554125654976674165829533817101731)) / 6277101735386680763835789423207666416102355444464034512896 % 18446744073709551616)) (num4 (Q4.z (timS 0 (Q4.mk 15112221349535400772501151409588531511454012693041857206046113283949847762202 46316835694926478169428394003475163141307993866256225615783033603165251855960 1 46827403850823179245072216630277197565144205554125654976674165829533817101731)) % 18446744073709551616) (Q4.z (timS 0 (Q4.mk 15112221349535400772501151409588531511454012693041857206046113283949847762202 46316835694926478169428394003475163141307993866256225615783033603165251855960 1 46827403850823179245072216630277197565144205554125654976674165829533817101731)) / 18446744073709551616 % 18446744073709551616) (Q4.z (timS 0 (Q4.mk 15112221349535400772501151409588531511454012693041857206046113283949847762202 46316835694926478169428394003475163141307993866256225615783033603165251855960 1 46827403850823179245072216630277197565144205554125654976674165829533817101731)) / 340282366920938463463374607431768211456 % 18446744073709551616) (Q4.z (timS 0 (Q4.mk 15112221349535400772501151409588531511454012693041857206046113283949847762202 46316835694926478169428394003475163141307993866256225615783033603165251855960 1 46827403850823179245072216630277197565144205554125654976674165829533817101731)) / 6277101735386680763835789423207666416102355444464034512896 % 18446744073709551616)) (num4 (Q4.t (timS 0 (Q4.mk 15112221349535400772501151409588531511454012693041857206046113283949847762202 46316835694926478169428394003475163141307993866256225615783033603165251855960 1 46827403850823179245072216630277197565144205554125654976674165829533817101731)) % 18446744073709551616) (Q4.t (timS 0 (Q4.mk 15112221349535400772501151409588531511454012693041857206046113283949847762202 46316835694926478169428394003475163141307993866256225615783033603165251855960 1 46827403850823179245072216630277197565144205554125654976674165829533817101731)) / 18446744073709551616 % 18446744073709551616) (Q4.t (timS 0 (Q4.mk 15112221349535400772501151409588531511454012693041857206046113283949847762202 46316835694926478169428394003475163141307993866256225615783033603165251855960 1 46827403850823179245072216630277197565144205554125654976674165829533817101731)) / 340282366920938463463374607431768211456 % 18446744073709551616) (Q4.t (timS 0 (Q4.mk 15112221349535400772501151409588531511454012693041857206046113283949847762202 46316835694926478169428394003475163141307993866256225615783033603165251855960 1 46827403850823179245072216630277197565144205554125654976674165829533817101731)) / 6277101735386680763835789423207666416102355444464034512896 % 18446744073709551616))) (Q4.mk 0 1 1 0) = true) (h3 : (!sameS (Q4.mk 15112221349535400772501151409588531511454012693041857206046113283949847762202 46316835694926478169428394003475163141307993866256225615783033603165251855960 1 46827403850823179245072216630277197565144205554125654976674165829533817101731) (Q4.mk 0 1 1 0)) = true) (h4 : mainS (Q4.mk 15112221349535400772501151409588531511454012693041857206046113283949847762202 46316835694926478169428394003475163141307993866256225615783033603165251855960 1 46827403850823179245072216630277197565144205554125654976674165829533817101731) = true) (h5 : smallS (Q4.mk 0 1 1 0) = true) : Sx.Spec Try.prog 160 [] [] ⟨V.bool (!smallS (Q4.mk 15112221349535400772501151409588531511454012693041857206046113283949847762202 46316835694926478169428394003475163141307993866256225615783033603165251855960 1 46827403850823179245072216630277197565144205554125654976674165829533817101731)), [], []⟩ :=
  spec_of_whole (tab_ok lcm6_ok) mixed Try.func160 [(8, true), (14, true), (20, true), (24, true), (28, true)] 1000000 [] (by kernel_rfl) (by kernel_rfl) (by kernel_rfl) (by kernel_rfl) (by kernel_rfl) (by kernel_rfl)
    (ocons rfl (ocons rfl (ocons h1 (ocons rfl (ocons h2 (ocons h3 (ocons h4 (ocons h5 onil))))))))
theorem eight {P : Pf} : padd (padd (padd P P) (padd P P)) (padd (padd P P) (padd P P)) = ptimes P 8 := by
  have e1 : padd P P = ptimes P 2 := by rw [show (2 : Nat) = 2 * 1 from rfl, ptimes_two, show ptimes P 1 = P from Pt.times_one crv P]
  rw [e1, ← ptimes_two, ← ptimes_two]
theorem smallS_iff {q : Q4} {P : Pf} (h : Rep q P) : smallS q = true ↔ ptimes P 8 = Pt.zero := by
  have e := same_iff (rn (db (rn (db (rn (db h)))))) zero4_rep
  rw [eight] at e
  exact e
theorem mainS_iff {q : Q4} {P : Pf} (h : Rep q P) : mainS q = true ↔ ptimes P lN = Pt.zero := by
  unfold mainS
  exact same_iff (rn (timS_rep (show 7237005577332262213973186563042994240857116359379907606001950938285454250989 < P256 by decide) h)) zero4_rep
theorem base4_lit : (⟨15112221349535400772501151409588531511454012693041857206046113283949847762202, 46316835694926478169428394003475163141307993866256225615783033603165251855960, 1, 46827403850823179245072216630277197565144205554125654976674165829533817101731⟩ : Q4) = base4 := by kernel_rfl
theorem s160 : Sx.Spec Try.prog 160 [] [] ⟨V.bool true, [], []⟩ := by
  have h1 := timS_rep (show 1 < P256 by decide) base4_rep
  have h0 := timS_rep (show 0 < P256 by decide) base4_rep
  rw [show ptimes bP 1 = bP from Pt.times_one crv bP] at h1
  have hb : sameS base4 zero4 = false := by
    cases hs : sameS base4 zero4 with
    | false => rfl
    | true => exact absurd ((same_iff base4_rep zero4_rep).1 hs) bP_ne
  have hs : smallS base4 = false := by
    cases hs : smallS base4 with
    | false => rfl
    | true =>
      have := times_zero_iff.1 ((smallS_iff base4_rep).1 hs)
      revert this
      decide +kernel
  have k := s160_1 (same_t (rn h1) base4_rep rfl) (same_t (rn h0) zero4_rep rfl) (by rw [base4_lit]; exact congrArg (fun b => !b) hb) ((mainS_iff base4_rep).2 base_order) ((smallS_iff zero4_rep).2 (Pt.times_zero crv 8))
  have k2 : Sx.Spec Try.prog 160 [] [] ⟨V.bool (!smallS base4), [], []⟩ := k
  rw [hs] at k2
  exact k2
def e160 : Entry := fun args ms => match args, ms with
  | [], [] => some (⟨V.bool true, [], []⟩, [])
  | _, _ => none
theorem e160_ok : EntryOk Try.prog 160 e160 := by
  intro args ms r obs h ho
  unfold e160 at h
  split at h
  · cases h
    exact s160
  · cases h
noncomputable def lcm7 : List (Nat × Entry) := [(159, e159), (160, e160)] ++ lcm6
theorem lcm7_ok : AllOk Try.prog lcm7 := .cons e159_ok (.cons e160_ok lcm6_ok)
end Go.Proofs.Ytmjejlbmcefaoaa
namespace Go.Proofs.Ytmjejlbmcefaoaa
open Go Sx
noncomputable def remS (a b m : Nat) : Nat := sealN (remN a b m)
noncomputable def r93s : List Nat → Res := fun ns => match ns with | [a, b, m] => ⟨.w (.agg (numC (remS a b m))), [], []⟩ | _ => ⟨.tup [], [], []⟩
noncomputable def e244 : Entry := numsE [1, 1] (nm2 fun a b => .tup [.agg (numC (sealN (a + b))), .agg (numC (sealN ((a + b) / P256)))])
noncomputable def r89s : List Nat → Res := fun ns => match ns with | [a, b] => ⟨.tup [.agg (numC (sealN (a * b))), .agg (numC (sealN (a * b / P256)))], [], []⟩ | _ => ⟨.tup [], [], []⟩
theorem e93s_ok : EntryOk Try.prog 93 (numsE [1, 1, 1] r93s) := by
  have h : r93s = r93 := by
    funext ns
    unfold r93s r93 remS
    simp only [sealN_eq]
    rfl
  rw [h]
  exact e93n_ok
theorem e89s_ok : EntryOk Try.prog 89 (numsE [1, 1] r89s) := by
  have h : r89s = r89 := by
    funext ns
    unfold r89s r89
    simp only [sealN_eq]
    rfl
  rw [h]
  exact e89n_ok
noncomputable def lsc0 : List (Nat × Entry) := [(93, numsE [1, 1, 1] r93s), (89, numsE [1, 1] r89s)] ++ (libJ ++ lcm7)
theorem lsc0_ok : AllOk Try.prog lsc0 := .cons e93s_ok (.cons e89s_ok (AllOk.append (l := libJ) (m := lcm7) libJ_ok lcm7_ok))
theorem s244_1 (a : Nat) (b : Nat) : Sx.Spec Try.prog 244 [W.agg (numC a), W.agg (numC b)] [] ⟨V.tup [W.agg [C.u (nn a + nn b), C.u ((nn a + nn b) / 18446744073709551616), C.u ((nn a + nn b) / 340282366920938463463374607431768211456), C.u ((nn a + nn b) / 6277101735386680763835789423207666416102355444464034512896)], W.agg (numC ((nn a + nn b) / 115792089237316195423570985008687907853269984665640564039457584007913129639936 % 18446744073709551616))], [], []⟩ :=
  spec_of_whole (tab_ok lsc0_ok) mixed Try.func244 [] 1000000 [] (by kernel_rfl) (by kernel_rfl) (by kernel_rfl) (by kernel_rfl) (by kernel_rfl) (by kernel_rfl)
    (ocons rfl (ocons rfl (ocons rfl onil)))

theorem e244_ok : EntryOk Try.prog 244 e244 := numsE_ok fun ns h hl => by
  obtain ⟨a, b, rfl⟩ := ns2 h
  have ha := hl a (by simp)
  have hb := hl b (by simp)
  have k := s244_1 a b
  rw [nn_id ha, nn_id hb, Nat.mod_eq_of_lt (show (a + b) / 115792089237316195423570985008687907853269984665640564039457584007913129639936 < 18446744073709551616 from Nat.lt_of_le_of_lt (Nat.div_le_div_right (show a + b ≤ P256 + P256 by omega)) (by decide))] at k
  show Sx.Spec _ _ _ _ ⟨.tup [.agg (numC (sealN (a + b))), .agg (numC (sealN ((a + b) / 115792089237316195423570985008687907853269984665640564039457584007913129639936)))], [], []⟩
  rw [sealN_eq, sealN_eq]
  exact k
noncomputable def lsc1 : List (Nat × Entry) := (244, e244) :: lsc0
theorem lsc1_ok : AllOk Try.prog lsc1 := .cons e244_ok lsc0_ok
def addL (s x : Nat) : Nat := (s + x) % 7237005577332262213973186563042994240857116359379907606001950938285454250989
def mulL (s x : Nat) : Nat := s * x % 7237005577332262213973186563042994240857116359379907606001950938285454250989
theorem rem_join {n : Nat} (h : n < P256 * P256) : remS (nn (sealN n)) (nn (sealN (n / 115792089237316195423570985008687907853269984665640564039457584007913129639936))) 7237005577332262213973186563042994240857116359379907606001950938285454250989 = n % 7237005577332262213973186563042994240857116359379907606001950938285454250989 := by
  unfold remS
  rw [sealN_eq, sealN_eq, sealN_eq, nn_id (show n / 115792089237316195423570985008687907853269984665640564039457584007913129639936 < P256 from Nat.div_lt_of_lt_mul h), nn_eq]
  unfold remN
  rw [show Nat.beq 7237005577332262213973186563042994240857116359379907606001950938285454250989 0 = false from rfl, cond_false]
  congr 1
  exact Nat.mod_add_div n 115792089237316195423570985008687907853269984665640564039457584007913129639936
theorem fold_lt {f : Nat → Nat → Nat} (hf : ∀ a b, f a b < 7237005577332262213973186563042994240857116359379907606001950938285454250989) : ∀ (ns : List Nat) (a : Nat), a < P256 → ns.foldl f a < P256
  | [], a, h => h
  | n :: ns, a, _ => fold_lt hf ns _ (Nat.lt_trans (hf a n) (by decide))
def isFn (k : Nat) : C → Bool
  | .v (.func (.func f) fs cs) => Nat.beq f k && (Nat.beq fs.size 0 && Nat.beq cs.size 0)
  | _ => false
theorem isFn_eq {k : Nat} {c : C} (h : isFn k c = true) : c = .v (.func (.func k) #[] #[]) := by
  unfold isFn at h
  split at h
  · rename_i f fs cs
    rw [Bool.and_eq_true, Bool.and_eq_true, Nat.beq_eq, Nat.beq_eq, Nat.beq_eq] at h
    obtain ⟨rfl, h2, h3⟩ := h
    rw [Array.eq_empty_of_size_eq_zero h2, Array.eq_empty_of_size_eq_zero h3]
  · cases h
noncomputable def foldE (k : Nat) (op : Nat → Nat → Nat) : Entry := fun args ms => match args, ms with
  | [x, .c (.sl 0 0 n), .c f], [⟨_, .ro, .ints .u64 l⟩] => bif isFn k f then match decA [1] [x] with
    | some ([a], o) => some (⟨vN (sealN ((unrow l).foldl op a)), [], []⟩, Nat.beq l.length (4 * n) :: Nat.blt n 4096 :: l.all isW :: o)
    | _ => none
    else none
  | _, _ => none
theorem foldE_ok {k : Nat} {op : Nat → Nat → Nat} (h : ∀ (t a : Nat) (ns : List Nat), a < P256 → ns.length < 4096 → (∀ n ∈ ns, n < P256) → Sx.Spec Try.prog 243 [.agg (numC a), .c (.sl 0 0 ns.length), .c (.v (.func (.func k) #[] #[]))] [⟨t, .ro, .ints .u64 (rowN ns)⟩] ⟨vN (ns.foldl op a), [], []⟩) : EntryOk Try.prog 243 (foldE k op) := by
  intro args ms r obs he ho
  unfold foldE at he
  split at he
  · rename_i x n f t l
    cases hf : isFn k f with
    | false => rw [hf] at he; cases he
    | true =>
      rw [hf, cond_true] at he
      have ef := isFn_eq hf
      subst ef
      split at he
      · rename_i a o hd
        cases he
        have h1 := Nat.beq_eq.mp (ho _ (List.mem_cons_self ..))
        have h2 := Nat.blt_eq.mp (ho _ (List.mem_cons_of_mem _ (List.mem_cons_self ..)))
        have h3 := ho _ (List.mem_cons_of_mem _ (List.mem_cons_of_mem _ (List.mem_cons_self ..)))
        obtain ⟨a1, a2, a3⟩ := decA_ok hd fun b hb => ho b (List.mem_cons_of_mem _ (List.mem_cons_of_mem _ (List.mem_cons_of_mem _ hb)))
        obtain ⟨e1, e2⟩ := rowN_unrow l n h1 h3
        have hlen := unrow_length l n h1
        have s := h t a (unrow l) (a2 a (by simp)) (by omega) e2
        rw [e1, hlen] at s
        rw [sealN_eq]
        refine Spec.args (fun ρ vs hv => ?_) s
        cases hv with
        | cons x1 hr =>
          have := a3 ρ _ (.cons x1 .nil)
          cases this with
          | cons y1 y2 => exact .cons y1 hr
      · cases he
  · cases he
theorem sum_join {v x : Nat} (hv : v < P256) (hx : x < P256) : remS (nn (sealN (v + x))) (nn (sealN ((v + x) / 115792089237316195423570985008687907853269984665640564039457584007913129639936))) 7237005577332262213973186563042994240857116359379907606001950938285454250989 = addL v x := rem_join (by unfold P256 at *; omega)
theorem prod_join {v x : Nat} (hv : v < P256) (hx : x < P256) : remS (nn (sealN (v * x))) (nn (sealN (v * x / 115792089237316195423570985008687907853269984665640564039457584007913129639936))) 7237005577332262213973186563042994240857116359379907606001950938285454250989 = mulL v x := rem_join (Nat.mul_lt_mul'' hv hx)
noncomputable def s243ak0 : List Item := kAt Try.prog (tab lsc1) Try.f243 [] 0 [W.agg [C.u 1, C.u 0, C.u 0, C.u 0], W.c (C.sl 0 0 1), W.c (C.v (Value.func (Fn.func 244) #[] #[]))] [Blk.mk 1 Mode.ro (K.ints IntKind.u64 [0])]
noncomputable def s243ast0 (n : Nat) (t : Nat) (l : List Int) (t13 : Int) (b1_0 : Nat) (b1_1 : Nat) (b1_2 : Nat) (b1_3 : Nat) : Cfg := cfg s243ak0 [2, 3, 6, 11, 12, 13] [V.w (W.c (C.v (Value.func (Fn.func 244) #[] #[]))), V.w (W.c (C.ptr 1 0)), V.w (W.c (C.ptr 2 0)), V.w (W.c (C.sl 0 0 n)), V.int IntKind.i64 (↑n : Int), V.int IntKind.i64 t13] [Blk.mk t Mode.ro (K.ints IntKind.u64 l), Blk.mk 80 Mode.rw (K.cs [C.u b1_0, C.u b1_1, C.u b1_2, C.u b1_3]), Blk.mk 80 Mode.rw (K.cs [C.u 0, C.u 0, C.u 0, C.u 0])]
theorem s243a_1 {ρ : Env} {w : World} {r : Res} (a : Nat) (n : Nat) (t : Nat) (l : List Int) (hg : G (mkX Try.prog (tab lsc1) Try.f243 [Blk.mk t Mode.ro (K.ints IntKind.u64 l)] ρ w r) (s243ast0 (n) t (l) (0) (a) (a / 18446744073709551616) (a / 340282366920938463463374607431768211456) (a / 6277101735386680763835789423207666416102355444464034512896))) : G (mkX Try.prog (tab lsc1) Try.f243 [Blk.mk t Mode.ro (K.ints IntKind.u64 l)] ρ w r) (cfg [.code (Try.f243.body.getD .skip)] (List.range 3) ([W.agg (numC a), W.c (C.sl 0 0 n), W.c (C.v (Value.func (Fn.func 244) #[] #[]))].map V.w) [Blk.mk t Mode.ro (K.ints IntKind.u64 l)]) :=
  G.seg (X := mkX Try.prog (tab lsc1) Try.f243 [Blk.mk t Mode.ro (K.ints IntKind.u64 l)] ρ w r) ⟨tab_ok lsc1_ok, mixed⟩ [] 1000000 0 [2, 3, 6, 11, 12, 13] [(0, none), (1, none), (5, none)] (k := s243ak0) (vs := [V.w (W.c (C.v (Value.func (Fn.func 244) #[] #[]))), V.w (W.c (C.ptr 1 0)), V.w (W.c (C.ptr 2 0)), V.w (W.c (C.sl 0 0 n)), V.int IntKind.i64 (↑n : Int), V.int IntKind.i64 0]) (bs := [Blk.mk t Mode.ro (K.ints IntKind.u64 l), Blk.mk 80 Mode.rw (K.cs (numC a)), Blk.mk 80 Mode.rw (K.cs [C.u 0, C.u 0, C.u 0, C.u 0])]) (by kernel_rfl) (by kernel_rfl)
    onil hg
theorem s243a_2 {ρ : Env} {w : World} {r : Res} (a : Nat) (n : Nat) (t : Nat) (l : List Int) (t13 : Int) (b1_0 : Nat) (b1_1 : Nat) (b1_2 : Nat) (b1_3 : Nat) (h1 : t13 < (↑n : Int)) (h2 : 0 ≤ t13) (h3 : spot 0 (Int.toNat t13) 4 + 0 < List.length l) (h4 : spot 0 (Int.toNat t13) 4 + 1 < List.length l) (h5 : spot 0 (Int.toNat t13) 4 + 2 < List.length l) (h6 : spot 0 (Int.toNat t13) 4 + 3 < List.length l) (h7 : (decide (0 ≤ List.getD l (spot 0 (Int.toNat t13) 4 + 0) 0) && decide (List.getD l (spot 0 (Int.toNat t13) 4 + 0) 0 < 18446744073709551616)) = true) (h8 : (decide (0 ≤ List.getD l (spot 0 (Int.toNat t13) 4 + 1) 0) && decide (List.getD l (spot 0 (Int.toNat t13) 4 + 1) 0 < 18446744073709551616)) = true) (h9 : (decide (0 ≤ List.getD l (spot 0 (Int.toNat t13) 4 + 2) 0) && decide (List.getD l (spot 0 (Int.toNat t13) 4 + 2) 0 < 18446744073709551616)) = true) (h10 : (decide (0 ≤ List.getD l (spot 0 (Int.toNat t13) 4 + 3) 0) && decide (List.getD l (spot 0 (Int.toNat t13) 4 + 3) 0 < 18446744073709551616)) = true) (hg : G (mkX Try.prog (tab lsc1) Try.f243 [Blk.mk t Mode.ro (K.ints IntKind.u64 l)] ρ w r) (s243ast0 (n) t (l) (IntKind.wrap IntKind.i64 (t13 + 1)) (remS (nn (sealN (num4 (b1_0 % 18446744073709551616) (b1_1 % 18446744073709551616) (b1_2 % 18446744073709551616) (b1_3 % 18446744073709551616) + num4 (Int.toNat (List.getD l (spot 0 (Int.toNat t13) 4 + 0) 0)) (Int.toNat (List.getD l (spot 0 (Int.toNat t13) 4 + 1) 0)) (Int.toNat (List.getD l (spot 0 (Int.toNat t13) 4 + 2) 0)) (Int.toNat (List.getD l (spot 0 (Int.toNat t13) 4 + 3) 0))))) (nn (sealN ((num4 (b1_0 % 18446744073709551616) (b1_1 % 18446744073709551616) (b1_2 % 18446744073709551616) (b1_3 % 18446744073709551616) + num4 (Int.toNat (List.getD l (spot 0 (Int.toNat t13) 4 + 0) 0)) (Int.toNat (List.getD l (spot 0 (Int.toNat t13) 4 + 1) 0)) (Int.toNat (List.getD l (spot 0 (Int.toNat t13) 4 + 2) 0)) (Int.toNat (List.getD l (spot 0 (Int.toNat t13) 4 + 3) 0))) / 115792089237316195423570985008687907853269984665640564039457584007913129639936))) 7237005577332262213973186563042994240857116359379907606001950938285454250989) (remS (nn (sealN (num4 (b1_0 % 18446744073709551616) (b1_1 % 18446744073709551616) (b1_2 % 18446744073709551616) (b1_3 % 18446744073709551616) + num4 (Int.toNat (List.getD l (spot 0 (Int.toNat t13) 4 + 0) 0)) (Int.toNat (List.getD l (spot 0 (Int.toNat t13) 4 + 1) 0)) (Int.toNat (List.getD l (spot 0 (Int.toNat t13) 4 + 2) 0)) (Int.toNat (List.getD l (spot 0 (Int.toNat t13) 4 + 3) 0))))) (nn (sealN ((num4 (b1_0 % 18446744073709551616) (b1_1 % 18446744073709551616) (b1_2 % 18446744073709551616) (b1_3 % 18446744073709551616) + num4 (Int.toNat (List.getD l (spot 0 (Int.toNat t13) 4 + 0) 0)) (Int.toNat (List.getD l (spot 0 (Int.toNat t13) 4 + 1) 0)) (Int.toNat (List.getD l (spot 0 (Int.toNat t13) 4 + 2) 0)) (Int.toNat (List.getD l (spot 0 (Int.toNat t13) 4 + 3) 0))) / 115792089237316195423570985008687907853269984665640564039457584007913129639936))) 7237005577332262213973186563042994240857116359379907606001950938285454250989 / 18446744073709551616) (remS (nn (sealN (num4 (b1_0 % 18446744073709551616) (b1_1 % 18446744073709551616) (b1_2 % 18446744073709551616) (b1_3 % 18446744073709551616) + num4 (Int.toNat (List.getD l (spot 0 (Int.toNat t13) 4 + 0) 0)) (Int.toNat (List.getD l (spot 0 (Int.toNat t13) 4 + 1) 0)) (Int.toNat (List.getD l (spot 0 (Int.toNat t13) 4 + 2) 0)) (Int.toNat (List.getD l (spot 0 (Int.toNat t13) 4 + 3) 0))))) (nn (sealN ((num4 (b1_0 % 18446744073709551616) (b1_1 % 18446744073709551616) (b1_2 % 18446744073709551616) (b1_3 % 18446744073709551616) + num4 (Int.toNat (List.getD l (spot 0 (Int.toNat t13) 4 + 0) 0)) (Int.toNat (List.getD l (spot 0 (Int.toNat t13) 4 + 1) 0)) (Int.toNat (List.getD l (spot 0 (Int.toNat t13) 4 + 2) 0)) (Int.toNat (List.getD l (spot 0 (Int.toNat t13) 4 + 3) 0))) / 115792089237316195423570985008687907853269984665640564039457584007913129639936))) 7237005577332262213973186563042994240857116359379907606001950938285454250989 / 340282366920938463463374607431768211456) (remS (nn (sealN (num4 (b1_0 % 18446744073709551616) (b1_1 % 18446744073709551616) (b1_2 % 18446744073709551616) (b1_3 % 18446744073709551616) + num4 (Int.toNat (List.getD l (spot 0 (Int.toNat t13) 4 + 0) 0)) (Int.toNat (List.getD l (spot 0 (Int.toNat t13) 4 + 1) 0)) (Int.toNat (List.getD l (spot 0 (Int.toNat t13) 4 + 2) 0)) (Int.toNat (List.getD l (spot 0 (Int.toNat t13) 4 + 3) 0))))) (nn (sealN ((num4 (b1_0 % 18446744073709551616) (b1_1 % 18446744073709551616) (b1_2 % 18446744073709551616) (b1_3 % 18446744073709551616) + num4 (Int.toNat (List.getD l (spot 0 (Int.toNat t13) 4 + 0) 0)) (Int.toNat (List.getD l (spot 0 (Int.toNat t13) 4 + 1) 0)) (Int.toNat (List.getD l (spot 0 (Int.toNat t13) 4 + 2) 0)) (Int.toNat (List.getD l (spot 0 (Int.toNat t13) 4 + 3) 0))) / 115792089237316195423570985008687907853269984665640564039457584007913129639936))) 7237005577332262213973186563042994240857116359379907606001950938285454250989 / 6277101735386680763835789423207666416102355444464034512896))) : G (mkX Try.prog (tab lsc1) Try.f243 [Blk.mk t Mode.ro (K.ints IntKind.u64 l)] ρ w r) (s243ast0 n t l t13 b1_0 b1_1 b1_2 b1_3) :=
  G.seg (X := mkX Try.prog (tab lsc1) Try.f243 [Blk.mk t Mode.ro (K.ints IntKind.u64 l)] ρ w r) ⟨tab_ok lsc1_ok, mixed⟩ [(14, true)] 1000000 0 [2, 3, 6, 11, 12, 13] [(0, none), (1, none), (2, none)] (k := s243ak0) (vs := [V.w (W.c (C.v (Value.func (Fn.func 244) #[] #[]))), V.w (W.c (C.ptr 1 0)), V.w (W.c (C.ptr 2 0)), V.w (W.c (C.sl 0 0 n)), V.int IntKind.i64 (↑n : Int), V.int IntKind.i64 (IntKind.wrap IntKind.i64 (t13 + 1))]) (bs := [Blk.mk t Mode.ro (K.ints IntKind.u64 l), Blk.mk 80 Mode.rw (K.cs (numC (remS (nn (sealN (num4 (b1_0 % 18446744073709551616) (b1_1 % 18446744073709551616) (b1_2 % 18446744073709551616) (b1_3 % 18446744073709551616) + num4 (Int.toNat (List.getD l (spot 0 (Int.toNat t13) 4 + 0) 0)) (Int.toNat (List.getD l (spot 0 (Int.toNat t13) 4 + 1) 0)) (Int.toNat (List.getD l (spot 0 (Int.toNat t13) 4 + 2) 0)) (Int.toNat (List.getD l (spot 0 (Int.toNat t13) 4 + 3) 0))))) (nn (sealN ((num4 (b1_0 % 18446744073709551616) (b1_1 % 18446744073709551616) (b1_2 % 18446744073709551616) (b1_3 % 18446744073709551616) + num4 (Int.toNat (List.getD l (spot 0 (Int.toNat t13) 4 + 0) 0)) (Int.toNat (List.getD l (spot 0 (Int.toNat t13) 4 + 1) 0)) (Int.toNat (List.getD l (spot 0 (Int.toNat t13) 4 + 2) 0)) (Int.toNat (List.getD l (spot 0 (Int.toNat t13) 4 + 3) 0))) / 115792089237316195423570985008687907853269984665640564039457584007913129639936))) 7237005577332262213973186563042994240857116359379907606001950938285454250989))), Blk.mk 80 Mode.rw (K.cs [C.u 0, C.u 0, C.u 0, C.u 0])]) (by kernel_rfl) (by kernel_rfl)
    (ocons (decide_eq_true h1) (ocons (decide_eq_true h2) (ocons (decide_eq_true h1) (ocons (bltT h3) (ocons (bltT h4) (ocons (bltT h5) (ocons (bltT h6) (ocons rfl (ocons h7 (ocons h8 (ocons h9 (ocons h10 (ocons rfl (ocons rfl (ocons rfl onil))))))))))))))) hg
theorem s243a_3 {ρ : Env} {w : World} (a : Nat) (n : Nat) (t : Nat) (l : List Int) (t13 : Int) (b1_0 : Nat) (b1_1 : Nat) (b1_2 : Nat) (b1_3 : Nat) (h1 : ¬t13 < (↑n : Int)) : G (mkX Try.prog (tab lsc1) Try.f243 [Blk.mk t Mode.ro (K.ints IntKind.u64 l)] ρ w ⟨V.w (W.agg [C.u b1_0, C.u b1_1, C.u b1_2, C.u b1_3]), [], []⟩) (s243ast0 n t l t13 b1_0 b1_1 b1_2 b1_3) :=
  G.ends (tab_ok lsc1_ok) mixed [(14, false)] 1000000 [(0, none)] (by kernel_rfl) (by kernel_rfl) (by kernel_rfl) (by kernel_rfl)
    (ocons (ndec h1) (ocons rfl onil))

theorem f243a (t a : Nat) (ns : List Nat) (ha : a < P256) (hlen : ns.length < 4096) (hl : ∀ n ∈ ns, n < P256) : Sx.Spec Try.prog 243 [.agg (numC a), .c (.sl 0 0 ns.length), .c (.v (.func (.func 244) #[] #[]))] [⟨t, .ro, .ints .u64 (rowN ns)⟩] ⟨vN (ns.foldl addL a), [], []⟩ := by
  refine spec_body (tab := tab lsc1) Try.func243 (by kernel_rfl) (by kernel_rfl) (by kernel_rfl) fun ρ w => ?_
  refine s243a_1 a _ t _ ?_
  exact G.loop (X := mkX Try.prog (tab lsc1) Try.f243 [⟨t, .ro, .ints .u64 (rowN ns)⟩] ρ w ⟨vN (ns.foldl addL a), [], []⟩) (fun i => s243ast0 ns.length t (rowN ns) (i : Int) ((ns.take i).foldl addL a) ((ns.take i).foldl addL a / 18446744073709551616) ((ns.take i).foldl addL a / 340282366920938463463374607431768211456) ((ns.take i).foldl addL a / 6277101735386680763835789423207666416102355444464034512896)) ns.length (fun i hi hg => by
    have hv : (ns.take i).foldl addL a < P256 := fold_lt (fun _ _ => Nat.mod_lt _ (by decide)) _ _ ha
    have hx : ns.getD i 0 < P256 := hl _ (by simp [List.getD, hi])
    have hs : (ns.take (i + 1)).foldl addL a = addL ((ns.take i).foldl addL a) (ns.getD i 0) := by rw [List.take_add_one, List.foldl_append]; simp [hi]
    rw [hs] at hg
    have k := s243a_2 (ρ := ρ) (w := w) (r := ⟨vN (ns.foldl addL a), [], []⟩) a ns.length t (rowN ns) (i : Int) ((ns.take i).foldl addL a) ((ns.take i).foldl addL a / 18446744073709551616) ((ns.take i).foldl addL a / 340282366920938463463374607431768211456) ((ns.take i).foldl addL a / 6277101735386680763835789423207666416102355444464034512896)
    generalize (ns.take i).foldl addL a = v at *
    rw [row_el hi, show num4 (v % 18446744073709551616) (v / 18446744073709551616 % 18446744073709551616) (v / 340282366920938463463374607431768211456 % 18446744073709551616) (v / 6277101735386680763835789423207666416102355444464034512896 % 18446744073709551616) = nn v from rfl, nn_id hv, nn_id hx, sum_join hv hx, show IntKind.wrap .i64 ((i : Int) + 1) = ((i + 1 : Nat) : Int) by rw [i64w] <;> omega] at k
    exact k (by omega) (by omega) (row_in hi 0 (by omega)) (row_in hi 1 (by omega)) (row_in hi 2 (by omega)) (row_in hi 3 (by omega)) (row_w hi 0 (by omega)) (row_w hi 1 (by omega)) (row_w hi 2 (by omega)) (row_w hi 3 (by omega)) hg) (by
    rw [List.take_length]
    exact s243a_3 a _ t _ _ _ _ _ _ (by omega))
noncomputable def s243bk0 : List Item := kAt Try.prog (tab lsc1) Try.f243 [] 0 [W.agg [C.u 1, C.u 0, C.u 0, C.u 0], W.c (C.sl 0 0 1), W.c (C.v (Value.func (Fn.func 89) #[] #[]))] [Blk.mk 1 Mode.ro (K.ints IntKind.u64 [0])]
noncomputable def s243bst0 (n : Nat) (t : Nat) (l : List Int) (t13 : Int) (b1_0 : Nat) (b1_1 : Nat) (b1_2 : Nat) (b1_3 : Nat) : Cfg := cfg s243bk0 [2, 3, 6, 11, 12, 13] [V.w (W.c (C.v (Value.func (Fn.func 89) #[] #[]))), V.w (W.c (C.ptr 1 0)), V.w (W.c (C.ptr 2 0)), V.w (W.c (C.sl 0 0 n)), V.int IntKind.i64 (↑n : Int), V.int IntKind.i64 t13] [Blk.mk t Mode.ro (K.ints IntKind.u64 l), Blk.mk 80 Mode.rw (K.cs [C.u b1_0, C.u b1_1, C.u b1_2, C.u b1_3]), Blk.mk 80 Mode.rw (K.cs [C.u 0, C.u 0, C.u 0, C.u 0])]
theorem s243b_1 {ρ : Env} {w : World} {r : Res} (a : Nat) (n : Nat) (t : Nat) (l : List Int) (hg : G (mkX Try.prog (tab lsc1) Try.f243 [Blk.mk t Mode.ro (K.ints IntKind.u64 l)] ρ w r) (s243bst0 (n) t (l) (0) (a) (a / 18446744073709551616) (a / 340282366920938463463374607431768211456) (a / 6277101735386680763835789423207666416102355444464034512896))) : G (mkX Try.prog (tab lsc1) Try.f243 [Blk.mk t Mode.ro (K.ints IntKind.u64 l)] ρ w r) (cfg [.code (Try.f243.body.getD .skip)] (List.range 3) ([W.agg (numC a), W.c (C.sl 0 0 n), W.c (C.v (Value.func (Fn.func 89) #[] #[]))].map V.w) [Blk.mk t Mode.ro (K.ints IntKind.u64 l)]) :=
  G.seg (X := mkX Try.prog (tab lsc1) Try.f243 [Blk.mk t Mode.ro (K.ints IntKind.u64 l)] ρ w r) ⟨tab_ok lsc1_ok, mixed⟩ [] 1000000 0 [2, 3, 6, 11, 12, 13] [(0, none), (1, none), (5, none)] (k := s243bk0) (vs := [V.w (W.c (C.v (Value.func (Fn.func 89) #[] #[]))), V.w (W.c (C.ptr 1 0)), V.w (W.c (C.ptr 2 0)), V.w (W.c (C.sl 0 0 n)), V.int IntKind.i64 (↑n : Int), V.int IntKind.i64 0]) (bs := [Blk.mk t Mode.ro (K.ints IntKind.u64 l), Blk.mk 80 Mode.rw (K.cs (numC a)), Blk.mk 80 Mode.rw (K.cs [C.u 0, C.u 0, C.u 0, C.u 0])]) (by kernel_rfl) (by kernel_rfl)
    onil hg
theorem s243b_2 {ρ : Env} {w : World} {r : Res} (a : Nat) (n : Nat) (t : Nat) (l : List Int) (t13 : Int) (b1_0 : Nat) (b1_1 : Nat) (b1_2 : Nat) (b1_3 : Nat) (h1 : t13 < (↑n : Int)) (h2 : 0 ≤ t13) (h3 : spot 0 (Int.toNat t13) 4 + 0 < List.length l) (h4 : spot 0 (Int.toNat t13) 4 + 1 < List.length l) (h5 : spot 0 (Int.toNat t13) 4 + 2 < List.length l) (h6 : spot 0 (Int.toNat t13) 4 + 3 < List.length l) (h7 : (decide (0 ≤ List.getD l (spot 0 (Int.toNat t13) 4 + 0) 0) && decide (List.getD l (spot 0 (Int.toNat t13) 4 + 0) 0 < 18446744073709551616)) = true) (h8 : (decide (0 ≤ List.getD l (spot 0 (Int.toNat t13) 4 + 1) 0) && decide (List.getD l (spot 0 (Int.toNat t13) 4 + 1) 0 < 18446744073709551616)) = true) (h9 : (decide (0 ≤ List.getD l (spot 0 (Int.toNat t13) 4 + 2) 0) && decide (List.getD l (spot 0 (Int.toNat t13) 4 + 2) 0 < 18446744073709551616)) = true) (h10 : (decide (0 ≤ List.getD l (spot 0 (Int.toNat t13) 4 + 3) 0) && decide (List.getD l (spot 0 (Int.toNat t13) 4 + 3) 0 < 18446744073709551616)) = true) (hg : G (mkX Try.prog (tab lsc1) Try.f243 [Blk.mk t Mode.ro (K.ints IntKind.u64 l)] ρ w r) (s243bst0 (n) t (l) (IntKind.wrap IntKind.i64 (t13 + 1)) (remS (nn (sealN (num4 (b1_0 % 18446744073709551616) (b1_1 % 18446744073709551616) (b1_2 % 18446744073709551616) (b1_3 % 18446744073709551616) * num4 (Int.toNat (List.getD l (spot 0 (Int.toNat t13) 4 + 0) 0)) (Int.toNat (List.getD l (spot 0 (Int.toNat t13) 4 + 1) 0)) (Int.toNat (List.getD l (spot 0 (Int.toNat t13) 4 + 2) 0)) (Int.toNat (List.getD l (spot 0 (Int.toNat t13) 4 + 3) 0))))) (nn (sealN (num4 (b1_0 % 18446744073709551616) (b1_1 % 18446744073709551616) (b1_2 % 18446744073709551616) (b1_3 % 18446744073709551616) * num4 (Int.toNat (List.getD l (spot 0 (Int.toNat t13) 4 + 0) 0)) (Int.toNat (List.getD l (spot 0 (Int.toNat t13) 4 + 1) 0)) (Int.toNat (List.getD l (spot 0 (Int.toNat t13) 4 + 2) 0)) (Int.toNat (List.getD l (spot 0 (Int.toNat t13) 4 + 3) 0)) / 115792089237316195423570985008687907853269984665640564039457584007913129639936))) 7237005577332262213973186563042994240857116359379907606001950938285454250989) (remS (nn (sealN (num4 (b1_0 % 18446744073709551616) (b1_1 % 18446744073709551616) (b1_2 % 18446744073709551616) (b1_3 % 18446744073709551616) * num4 (Int.toNat (List.getD l (spot 0 (Int.toNat t13) 4 + 0) 0)) (Int.toNat (List.getD l (spot 0 (Int.toNat t13) 4 + 1) 0)) (Int.toNat (List.getD l (spot 0 (Int.toNat t13) 4 + 2) 0)) (Int.toNat (List.getD l (spot 0 (Int.toNat t13) 4 + 3) 0))))) (nn (sealN (num4 (b1_0 % 18446744073709551616) (b1_1 % 18446744073709551616) (b1_2 % 18446744073709551616) (b1_3 % 18446744073709551616) * num4 (Int.toNat (List.getD l (spot 0 (Int.toNat t13) 4 + 0) 0)) (Int.toNat (List.getD l (spot 0 (Int.toNat t13) 4 + 1) 0)) (Int.toNat (List.getD l (spot 0 (Int.toNat t13) 4 + 2) 0)) (Int.toNat (List.getD l (spot 0 (Int.toNat t13) 4 + 3) 0)) / 115792089237316195423570985008687907853269984665640564039457584007913129639936))) 7237005577332262213973186563042994240857116359379907606001950938285454250989 / 18446744073709551616) (remS (nn (sealN (num4 (b1_0 % 18446744073709551616) (b1_1 % 18446744073709551616) (b1_2 % 18446744073709551616) (b1_3 % 18446744073709551616) * num4 (Int.toNat (List.getD l (spot 0 (Int.toNat t13) 4 + 0) 0)) (Int.toNat (List.getD l (spot 0 (Int.toNat t13) 4 + 1) 0)) (Int.toNat (List.getD l (spot 0 (Int.toNat t13) 4 + 2) 0)) (Int.toNat (List.getD l (spot 0 (Int.toNat t13) 4 + 3) 0))))) (nn (sealN (num4 (b1_0 % 18446744073709551616) (b1_1 % 18446744073709551616) (b1_2 % 18446744073709551616) (b1_3 % 18446744073709551616) * num4 (Int.toNat (List.getD l (spot 0 (Int.toNat t13) 4 + 0) 0)) (Int.toNat (List.getD l (spot 0 (Int.toNat t13) 4 + 1) 0)) (Int.toNat (List.getD l (spot 0 (Int.toNat t13) 4 + 2) 0)) (Int.toNat (List.getD l (spot 0 (Int.toNat t13) 4 + 3) 0)) / 115792089237316195423570985008687907853269984665640564039457584007913129639936))) 7237005577332262213973186563042994240857116359379907606001950938285454250989 / 340282366920938463463374607431768211456) (remS (nn (sealN (num4 (b1_0 % 18446744073709551616) (b1_1 % 18446744073709551616) (b1_2 % 18446744073709551616) (b1_3 % 18446744073709551616) * num4 (Int.toNat (List.getD l (spot 0 (Int.toNat t13) 4 + 0) 0)) (Int.toNat (List.getD l (spot 0 (Int.toNat t13) 4 + 1) 0)) (Int.toNat (List.getD l (spot 0 (Int.toNat t13) 4 + 2) 0)) (Int.toNat (List.getD l (spot 0 (Int.toNat t13) 4 + 3) 0))))) (nn (sealN (num4 (b1_0 % 18446744073709551616) (b1_1 % 18446744073709551616) (b1_2 % 18446744073709551616) (b1_3 % 18446744073709551616) * num4 (Int.toNat (List.getD l (spot 0 (Int.toNat t13) 4 + 0) 0)) (Int.toNat (List.getD l (spot 0 (Int.toNat t13) 4 + 1) 0)) (Int.toNat (List.getD l (spot 0 (Int.toNat t13) 4 + 2) 0)) (Int.toNat (List.getD l (spot 0 (Int.toNat t13) 4 + 3) 0)) / 115792089237316195423570985008687907853269984665640564039457584007913129639936))) 7237005577332262213973186563042994240857116359379907606001950938285454250989 / 6277101735386680763835789423207666416102355444464034512896))) : G (mkX Try.prog (tab lsc1) Try.f243 [Blk.mk t Mode.ro (K.ints IntKind.u64 l)] ρ w r) (s243bst0 n t l t13 b1_0 b1_1 b1_2 b1_3) :=
  G.seg (X := mkX Try.prog (tab lsc1) Try.f243 [Blk.mk t Mode.ro (K.ints IntKind.u64 l)] ρ w r) ⟨tab_ok lsc1_ok, mixed⟩ [(14, true)] 1000000 0 [2, 3, 6, 11, 12, 13] [(0, none), (1, none), (2, none)] (k := s243bk0) (vs := [V.w (W.c (C.v (Value.func (Fn.func 89) #[] #[]))), V.w (W.c (C.ptr 1 0)), V.w (W.c (C.ptr 2 0)), V.w (W.c (C.sl 0 0 n)), V.int IntKind.i64 (↑n : Int), V.int IntKind.i64 (IntKind.wrap IntKind.i64 (t13 + 1))]) (bs := [Blk.mk t Mode.ro (K.ints IntKind.u64 l), Blk.mk 80 Mode.rw (K.cs (numC (remS (nn (sealN (num4 (b1_0 % 18446744073709551616) (b1_1 % 18446744073709551616) (b1_2 % 18446744073709551616) (b1_3 % 18446744073709551616) * num4 (Int.toNat (List.getD l (spot 0 (Int.toNat t13) 4 + 0) 0)) (Int.toNat (List.getD l (spot 0 (Int.toNat t13) 4 + 1) 0)) (Int.toNat (List.getD l (spot 0 (Int.toNat t13) 4 + 2) 0)) (Int.toNat (List.getD l (spot 0 (Int.toNat t13) 4 + 3) 0))))) (nn (sealN (num4 (b1_0 % 18446744073709551616) (b1_1 % 18446744073709551616) (b1_2 % 18446744073709551616) (b1_3 % 18446744073709551616) * num4 (Int.toNat (List.getD l (spot 0 (Int.toNat t13) 4 + 0) 0)) (Int.toNat (List.getD l (spot 0 (Int.toNat t13) 4 + 1) 0)) (Int.toNat (List.getD l (spot 0 (Int.toNat t13) 4 + 2) 0)) (Int.toNat (List.getD l (spot 0 (Int.toNat t13) 4 + 3) 0)) / 115792089237316195423570985008687907853269984665640564039457584007913129639936))) 7237005577332262213973186563042994240857116359379907606001950938285454250989))), Blk.mk 80 Mode.rw (K.cs [C.u 0, C.u 0, C.u 0, C.u 0])]) (by kernel_rfl) (by kernel_rfl)
    (ocons (decide_eq_true h1) (ocons (decide_eq_true h2) (ocons (decide_eq_true h1) (ocons (bltT h3) (ocons (bltT h4) (ocons (bltT h5) (ocons (bltT h6) (ocons rfl (ocons h7 (ocons h8 (ocons h9 (ocons h10 (ocons rfl (ocons rfl (ocons rfl onil))))))))))))))) hg
theorem s243b_3 {ρ : Env} {w : World} (a : Nat) (n : Nat) (t : Nat) (l : List Int) (t13 : Int) (b1_0 : Nat) (b1_1 : Nat) (b1_2 : Nat) (b1_3 : Nat) (h1 : ¬t13 < (↑n : Int)) : G (mkX Try.prog (tab lsc1) Try.f243 [Blk.mk t Mode.ro (K.ints IntKind.u64 l)] ρ w ⟨V.w (W.agg [C.u b1_0, C.u b1_1, C.u b1_2, C.u b1_3]), [], []⟩) (s243bst0 n t l t13 b1_0 b1_1 b1_2 b1_3) :=
  G.ends (tab_ok lsc1_ok) mixed [(14, false)] 1000000 [(0, none)] (by kernel_rfl) (by kernel_rfl) (by kernel_rfl) (by kernel_rfl)
    (ocons (ndec h1) (ocons rfl onil))

theorem f243b (t a : Nat) (ns : List Nat) (ha : a < P256) (hlen : ns.length < 4096) (hl : ∀ n ∈ ns, n < P256) : Sx.Spec Try.prog 243 [.agg (numC a), .c (.sl 0 0 ns.length), .c (.v (.func (.func 89) #[] #[]))] [⟨t, .ro, .ints .u64 (rowN ns)⟩] ⟨vN (ns.foldl mulL a), [], []⟩ := by
  refine spec_body (tab := tab lsc1) Try.func243 (by kernel_rfl) (by kernel_rfl) (by kernel_rfl) fun ρ w => ?_
  refine s243b_1 a _ t _ ?_
  exact G.loop (X := mkX Try.prog (tab lsc1) Try.f243 [⟨t, .ro, .ints .u64 (rowN ns)⟩] ρ w ⟨vN (ns.foldl mulL a), [], []⟩) (fun i => s243bst0 ns.length t (rowN ns) (i : Int) ((ns.take i).foldl mulL a) ((ns.take i).foldl mulL a / 18446744073709551616) ((ns.take i).foldl mulL a / 340282366920938463463374607431768211456) ((ns.take i).foldl mulL a / 6277101735386680763835789423207666416102355444464034512896)) ns.length (fun i hi hg => by
    have hv : (ns.take i).foldl mulL a < P256 := fold_lt (fun _ _ => Nat.mod_lt _ (by decide)) _ _ ha
    have hx : ns.getD i 0 < P256 := hl _ (by simp [List.getD, hi])
    have hs : (ns.take (i + 1)).foldl mulL a = mulL ((ns.take i).foldl mulL a) (ns.getD i 0) := by rw [List.take_add_one, List.foldl_append]; simp [hi]
    rw [hs] at hg
    have k := s243b_2 (ρ := ρ) (w := w) (r := ⟨vN (ns.foldl mulL a), [], []⟩) a ns.length t (rowN ns) (i : Int) ((ns.take i).foldl mulL a) ((ns.take i).foldl mulL a / 18446744073709551616) ((ns.take i).foldl mulL a / 340282366920938463463374607431768211456) ((ns.take i).foldl mulL a / 6277101735386680763835789423207666416102355444464034512896)
    generalize (ns.take i).foldl mulL a = v at *
    rw [row_el hi, show num4 (v % 18446744073709551616) (v / 18446744073709551616 % 18446744073709551616) (v / 340282366920938463463374607431768211456 % 18446744073709551616) (v / 6277101735386680763835789423207666416102355444464034512896 % 18446744073709551616) = nn v from rfl, nn_id hv, nn_id hx, prod_join hv hx, show IntKind.wrap .i64 ((i : Int) + 1) = ((i + 1 : Nat) : Int) by rw [i64w] <;> omega] at k
    exact k (by omega) (by omega) (row_in hi 0 (by omega)) (row_in hi 1 (by omega)) (row_in hi 2 (by omega)) (row_in hi 3 (by omega)) (row_w hi 0 (by omega)) (row_w hi 1 (by omega)) (row_w hi 2 (by omega)) (row_w hi 3 (by omega)) hg) (by
    rw [List.take_length]
    exact s243b_3 a _ t _ _ _ _ _ _ (by omega))
noncomputable def lsc2 : List (Nat × Entry) := [(243, roE [.val, .ints .u64, .val] (orE (foldE 244 addL) (foldE 89 mulL)))] ++ lsc1
theorem lsc2_ok : AllOk Try.prog lsc2 := .cons (roE_ok (orE_ok (foldE_ok f243a) (foldE_ok f243b))) lsc1_ok
end Go.Proofs.Ytmjejlbmcefaoaa
