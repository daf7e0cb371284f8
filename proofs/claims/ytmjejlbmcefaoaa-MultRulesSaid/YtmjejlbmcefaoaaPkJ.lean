/- A symbolic executor, checked once, and what it shows of the functions: part 10. -/
import Derived.Test.YtmjejlbmcefaoaaPkI
namespace Go.Proofs.Ytmjejlbmcefaoaa
open Go Sx

def orF (F G : Entry) : Entry := fun args ms => match F args ms with
  | some r => some r
  | none => G args ms
theorem orF_ok {P : Program} {f : FuncId} {F G : Entry} (hF : EntryOk P f F) (hG : EntryOk P f G) : EntryOk P f (orF F G) := by
  intro args ms r obs h ho
  unfold orF at h
  split at h
  · rename_i p hp
    cases h
    exact hF _ _ _ _ hp ho
  · exact hG _ _ _ _ h ho

/-- p and a word that is no limb: minus two, minus one. -/
def e85x : Entry := fun args ms => match args, ms with
  | [.c (.sl 0 0 16), .c (.sl 1 0 1)], [⟨t, .ro, .ints .u64 l⟩, ⟨u, .ro, .ints .u64 m⟩] =>
    bif Nat.beq t 22 && Nat.beq u 22 && decide (l = [65517, 65535, 65535, 65535, 65535, 65535, 65535, 65535, 65535, 65535, 65535, 65535, 65535, 65535, 65535, 32767]) then
      (bif decide (m = [18446744073709551614]) then some (⟨.w (.c (.own 2)), [], [⟨22, .own 17, .ints .u64 [65515, 65535, 65535, 65535, 65535, 65535, 65535, 65535, 65535, 65535, 65535, 65535, 65535, 65535, 65535, 32767, 0]⟩]⟩, [])
       else bif decide (m = [18446744073709551615]) then some (⟨.w (.c (.own 2)), [], [⟨22, .own 17, .ints .u64 [65516, 65535, 65535, 65535, 65535, 65535, 65535, 65535, 65535, 65535, 65535, 65535, 65535, 65535, 65535, 32767, 0]⟩]⟩, []) else none)
    else none
  | _, _ => none
theorem s85x_1 : Sx.Spec Try.prog 85 [W.c (C.sl 0 0 16), W.c (C.sl 1 0 1)] [Blk.mk 22 Mode.ro (K.ints IntKind.u64 [65517, 65535, 65535, 65535, 65535, 65535, 65535, 65535, 65535, 65535, 65535, 65535, 65535, 65535, 65535, 32767]), Blk.mk 22 Mode.ro (K.ints IntKind.u64 [18446744073709551614])] ⟨V.w (W.c (C.own 2)), [], [Blk.mk 22 (Mode.own 17) (K.ints IntKind.u64 [65515, 65535, 65535, 65535, 65535, 65535, 65535, 65535, 65535, 65535, 65535, 65535, 65535, 65535, 65535, 32767, 0])]⟩ :=
  spec_of_whole (tab_ok libg0_ok) mixed Try.func85 [] 1000000 [(0, none), (1, none), (30, none)] (by kernel_rfl) (by kernel_rfl) (by kernel_rfl) (by kernel_rfl) (by kernel_rfl) (by kernel_rfl)
    (ocons rfl (ocons rfl (ocons rfl (ocons rfl (ocons rfl (ocons rfl (ocons rfl (ocons rfl (ocons rfl (ocons rfl (ocons rfl (ocons rfl (ocons rfl (ocons rfl (ocons rfl (ocons rfl (ocons rfl (ocons rfl (ocons rfl (ocons rfl (ocons rfl (ocons rfl (ocons rfl (ocons rfl (ocons rfl (ocons rfl (ocons rfl (ocons rfl (ocons rfl (ocons rfl (ocons rfl (ocons rfl (ocons rfl (ocons rfl (ocons rfl (ocons rfl (ocons rfl (ocons rfl (ocons rfl (ocons rfl (ocons rfl (ocons rfl (ocons rfl (ocons rfl (ocons rfl (ocons rfl (ocons rfl (ocons rfl (ocons rfl (ocons rfl (ocons rfl (ocons rfl (ocons rfl (ocons rfl (ocons rfl (ocons rfl (ocons rfl (ocons rfl (ocons rfl (ocons rfl (ocons rfl (ocons rfl (ocons rfl (ocons rfl (ocons rfl (ocons rfl (ocons rfl (ocons rfl (ocons rfl (ocons rfl (ocons rfl (ocons rfl (ocons rfl (ocons rfl (ocons rfl (ocons rfl (ocons rfl (ocons rfl (ocons rfl (ocons rfl (ocons rfl (ocons rfl (ocons rfl (ocons rfl (ocons rfl (ocons rfl (ocons rfl (ocons rfl (ocons rfl (ocons rfl (ocons rfl (ocons rfl (ocons rfl (ocons rfl (ocons rfl (ocons rfl (ocons rfl (ocons rfl (ocons rfl (ocons rfl (ocons rfl (ocons rfl (ocons rfl (ocons rfl (ocons rfl (ocons rfl (ocons rfl (ocons rfl (ocons rfl (ocons rfl (ocons rfl (ocons rfl (ocons rfl (ocons rfl (ocons rfl (ocons rfl (ocons rfl (ocons rfl (ocons rfl (ocons rfl (ocons rfl (ocons rfl (ocons rfl (ocons rfl (ocons rfl (ocons rfl (ocons rfl (ocons rfl (ocons rfl (ocons rfl (ocons rfl (ocons rfl (ocons rfl (ocons rfl (ocons rfl (ocons rfl (ocons rfl (ocons rfl (ocons rfl onil)))))))))))))))))))))))))))))))))))))))))))))))))))))))))))))))))))))))))))))))))))))))))))))))))))))))))))))))))))))))))))))))))))))))))))

theorem s85y_1 : Sx.Spec Try.prog 85 [W.c (C.sl 0 0 16), W.c (C.sl 1 0 1)] [Blk.mk 22 Mode.ro (K.ints IntKind.u64 [65517, 65535, 65535, 65535, 65535, 65535, 65535, 65535, 65535, 65535, 65535, 65535, 65535, 65535, 65535, 32767]), Blk.mk 22 Mode.ro (K.ints IntKind.u64 [18446744073709551615])] ⟨V.w (W.c (C.own 2)), [], [Blk.mk 22 (Mode.own 17) (K.ints IntKind.u64 [65516, 65535, 65535, 65535, 65535, 65535, 65535, 65535, 65535, 65535, 65535, 65535, 65535, 65535, 65535, 32767, 0])]⟩ :=
  spec_of_whole (tab_ok libg0_ok) mixed Try.func85 [] 1000000 [(0, none), (1, none), (30, none)] (by kernel_rfl) (by kernel_rfl) (by kernel_rfl) (by kernel_rfl) (by kernel_rfl) (by kernel_rfl)
    (ocons rfl (ocons rfl (ocons rfl (ocons rfl (ocons rfl (ocons rfl (ocons rfl (ocons rfl (ocons rfl (ocons rfl (ocons rfl (ocons rfl (ocons rfl (ocons rfl (ocons rfl (ocons rfl (ocons rfl (ocons rfl (ocons rfl (ocons rfl (ocons rfl (ocons rfl (ocons rfl (ocons rfl (ocons rfl (ocons rfl (ocons rfl (ocons rfl (ocons rfl (ocons rfl (ocons rfl (ocons rfl (ocons rfl (ocons rfl (ocons rfl (ocons rfl (ocons rfl (ocons rfl (ocons rfl (ocons rfl (ocons rfl (ocons rfl (ocons rfl (ocons rfl (ocons rfl (ocons rfl (ocons rfl (ocons rfl (ocons rfl (ocons rfl (ocons rfl (ocons rfl (ocons rfl (ocons rfl (ocons rfl (ocons rfl (ocons rfl (ocons rfl (ocons rfl (ocons rfl (ocons rfl (ocons rfl (ocons rfl (ocons rfl (ocons rfl (ocons rfl (ocons rfl (ocons rfl (ocons rfl (ocons rfl (ocons rfl (ocons rfl (ocons rfl (ocons rfl (ocons rfl (ocons rfl (ocons rfl (ocons rfl (ocons rfl (ocons rfl (ocons rfl (ocons rfl (ocons rfl (ocons rfl (ocons rfl (ocons rfl (ocons rfl (ocons rfl (ocons rfl (ocons rfl (ocons rfl (ocons rfl (ocons rfl (ocons rfl (ocons rfl (ocons rfl (ocons rfl (ocons rfl (ocons rfl (ocons rfl (ocons rfl (ocons rfl (ocons rfl (ocons rfl (ocons rfl (ocons rfl (ocons rfl (ocons rfl (ocons rfl (ocons rfl (ocons rfl (ocons rfl (ocons rfl (ocons rfl (ocons rfl (ocons rfl (ocons rfl (ocons rfl (ocons rfl (ocons rfl (ocons rfl (ocons rfl (ocons rfl (ocons rfl (ocons rfl (ocons rfl (ocons rfl (ocons rfl (ocons rfl (ocons rfl (ocons rfl (ocons rfl (ocons rfl (ocons rfl (ocons rfl (ocons rfl (ocons rfl (ocons rfl (ocons rfl onil)))))))))))))))))))))))))))))))))))))))))))))))))))))))))))))))))))))))))))))))))))))))))))))))))))))))))))))))))))))))))))))))))))))))))))


theorem e85x_ok : EntryOk Try.prog 85 e85x := by
  intro args ms r obs h ho
  unfold e85x at h
  split at h
  · rename_i t l u m
    cases hb : Nat.beq t 22 && Nat.beq u 22 && decide (l = [65517, 65535, 65535, 65535, 65535, 65535, 65535, 65535, 65535, 65535, 65535, 65535, 65535, 65535, 65535, 32767]) with
    | false => rw [hb] at h; cases h
    | true =>
      rw [hb, cond_true] at h
      simp only [Bool.and_eq_true, Nat.beq_eq, decide_eq_true_eq] at hb
      obtain ⟨⟨rfl, rfl⟩, rfl⟩ := hb
      cases h1 : decide (m = [18446744073709551614]) with
      | true =>
        rw [h1, cond_true] at h
        have := of_decide_eq_true h1
        subst this
        cases h
        exact s85x_1
      | false =>
        rw [h1, cond_false] at h
        cases h2 : decide (m = [18446744073709551615]) with
        | true =>
          rw [h2, cond_true] at h
          have := of_decide_eq_true h2
          subst this
          cases h
          exact s85y_1
        | false => rw [h2] at h; cases h
  · cases h
def libr1 :List (Nat × Entry) := [(105, e105), (109, e109), (112, e112), (114, e114), (115, e115), (117, e117)] ++ libr0
def libr1x : List (Nat × Entry) := (85, roE [.ints .u64, .ints .u64] (orF e85x e85)) :: libr1
theorem libr1_ok : AllOk Try.prog libr1 := .cons e105_ok (.cons e109_ok (.cons e112_ok (.cons e114_ok (.cons e115_ok (.cons e117_ok libr0_ok)))))
theorem libr1x_ok : AllOk Try.prog libr1x := .cons (roE_ok (orF_ok e85x_ok e85_ok)) libr1_ok
noncomputable def s119k0 : List Item := kAt Try.prog (tab libr1) Try.f119 [] 0 [W.agg [C.u 1, C.u 0, C.u 0, C.u 0], W.agg [C.u 1, C.u 0, C.u 0, C.u 0]] []
noncomputable def s119st0 (k : Nat) (t8 : Int) (b2_0 : Nat) (b2_1 : Nat) (b2_2 : Nat) (b2_3 : Nat) (b3_0 : Nat) (b3_1 : Nat) (b3_2 : Nat) (b3_3 : Nat) : Cfg := cfg s119k0 [4, 5, 6, 7, 8] [V.w (W.c (C.ptr 0 0)), V.w (W.c (C.own 1)), V.w (W.c (C.ptr 2 0)), V.w (W.c (C.ptr 3 0)), V.int IntKind.i64 t8] [Blk.mk 79 Mode.rw (K.cs [C.u 0, C.u 0, C.u 0, C.u 0]), Blk.mk 22 (Mode.own 16) (K.ints IntKind.u64 (lim 16 (nn k))), Blk.mk 79 Mode.rw (K.cs [C.u b2_0, C.u b2_1, C.u b2_2, C.u b2_3]), Blk.mk 79 Mode.rw (K.cs [C.u b3_0, C.u b3_1, C.u b3_2, C.u b3_3])]
theorem s119_1 {ρ : Env} {w : World} {r : Res} (a : Nat) (k : Nat) (hg : G (mkX Try.prog (tab libr1) Try.f119 [] ρ w r) (s119st0 k (0) (1) (0) (0) (0) (a) (a / 18446744073709551616) (a / 340282366920938463463374607431768211456) (a / 6277101735386680763835789423207666416102355444464034512896))) : G (mkX Try.prog (tab libr1) Try.f119 [] ρ w r) (cfg [.code (Try.f119.body.getD .skip)] (List.range 2) ([W.agg (numC a), W.agg (numC k)].map V.w) []) :=
  G.seg (X := mkX Try.prog (tab libr1) Try.f119 [] ρ w r) ⟨tab_ok libr1_ok, mixed⟩ [] 1000000 0 [4, 5, 6, 7, 8] [(8, none), (16, none), (28, none), (40, none)] (k := s119k0) (vs := [V.w (W.c (C.ptr 0 0)), V.w (W.c (C.own 1)), V.w (W.c (C.ptr 2 0)), V.w (W.c (C.ptr 3 0)), V.int IntKind.i64 0]) (bs := [Blk.mk 79 Mode.rw (K.cs [C.u 0, C.u 0, C.u 0, C.u 0]), Blk.mk 22 (Mode.own 16) (K.ints IntKind.u64 (lim 16 (nn k))), Blk.mk 79 Mode.rw (K.cs [C.u 1, C.u 0, C.u 0, C.u 0]), Blk.mk 79 Mode.rw (K.cs (numC a))]) (by kernel_rfl) (by kernel_rfl)
    (ocons rfl (ocons rfl (ocons rfl onil))) hg
theorem s119_2 {ρ : Env} {w : World} {r : Res} (a : Nat) (k : Nat) (t8 : Int) (b2_0 : Nat) (b2_1 : Nat) (b2_2 : Nat) (b2_3 : Nat) (b3_0 : Nat) (b3_1 : Nat) (b3_2 : Nat) (b3_3 : Nat) (h1 : t8 < 256) (h2 : List.length (lim 16 (nn k)) = 16) (h3 : limOk (lim 16 (nn k)) = true) (h4 : 0 ≤ t8) (h5 : t8 ≤ 16000000000) (h6 : (↑(bitL (lim 16 (nn k)) t8) : Int) = 1) (hg : G (mkX Try.prog (tab libr1) Try.f119 [] ρ w r) (s119st0 k (IntKind.wrap IntKind.i64 (t8 + 1)) (num4 (b2_0 % 18446744073709551616) (b2_1 % 18446744073709551616) (b2_2 % 18446744073709551616) (b2_3 % 18446744073709551616) * num4 (b3_0 % 18446744073709551616) (b3_1 % 18446744073709551616) (b3_2 % 18446744073709551616) (b3_3 % 18446744073709551616) % 57896044618658097711785492504343953926634992332820282019728792003956564819949) (num4 (b2_0 % 18446744073709551616) (b2_1 % 18446744073709551616) (b2_2 % 18446744073709551616) (b2_3 % 18446744073709551616) * num4 (b3_0 % 18446744073709551616) (b3_1 % 18446744073709551616) (b3_2 % 18446744073709551616) (b3_3 % 18446744073709551616) % 57896044618658097711785492504343953926634992332820282019728792003956564819949 / 18446744073709551616) (num4 (b2_0 % 18446744073709551616) (b2_1 % 18446744073709551616) (b2_2 % 18446744073709551616) (b2_3 % 18446744073709551616) * num4 (b3_0 % 18446744073709551616) (b3_1 % 18446744073709551616) (b3_2 % 18446744073709551616) (b3_3 % 18446744073709551616) % 57896044618658097711785492504343953926634992332820282019728792003956564819949 / 340282366920938463463374607431768211456) (num4 (b2_0 % 18446744073709551616) (b2_1 % 18446744073709551616) (b2_2 % 18446744073709551616) (b2_3 % 18446744073709551616) * num4 (b3_0 % 18446744073709551616) (b3_1 % 18446744073709551616) (b3_2 % 18446744073709551616) (b3_3 % 18446744073709551616) % 57896044618658097711785492504343953926634992332820282019728792003956564819949 / 6277101735386680763835789423207666416102355444464034512896) (num4 (b3_0 % 18446744073709551616) (b3_1 % 18446744073709551616) (b3_2 % 18446744073709551616) (b3_3 % 18446744073709551616) * num4 (b3_0 % 18446744073709551616) (b3_1 % 18446744073709551616) (b3_2 % 18446744073709551616) (b3_3 % 18446744073709551616) % 57896044618658097711785492504343953926634992332820282019728792003956564819949) (num4 (b3_0 % 18446744073709551616) (b3_1 % 18446744073709551616) (b3_2 % 18446744073709551616) (b3_3 % 18446744073709551616) * num4 (b3_0 % 18446744073709551616) (b3_1 % 18446744073709551616) (b3_2 % 18446744073709551616) (b3_3 % 18446744073709551616) % 57896044618658097711785492504343953926634992332820282019728792003956564819949 / 18446744073709551616) (num4 (b3_0 % 18446744073709551616) (b3_1 % 18446744073709551616) (b3_2 % 18446744073709551616) (b3_3 % 18446744073709551616) * num4 (b3_0 % 18446744073709551616) (b3_1 % 18446744073709551616) (b3_2 % 18446744073709551616) (b3_3 % 18446744073709551616) % 57896044618658097711785492504343953926634992332820282019728792003956564819949 / 340282366920938463463374607431768211456) (num4 (b3_0 % 18446744073709551616) (b3_1 % 18446744073709551616) (b3_2 % 18446744073709551616) (b3_3 % 18446744073709551616) * num4 (b3_0 % 18446744073709551616) (b3_1 % 18446744073709551616) (b3_2 % 18446744073709551616) (b3_3 % 18446744073709551616) % 57896044618658097711785492504343953926634992332820282019728792003956564819949 / 6277101735386680763835789423207666416102355444464034512896))) : G (mkX Try.prog (tab libr1) Try.f119 [] ρ w r) (s119st0 k t8 b2_0 b2_1 b2_2 b2_3 b3_0 b3_1 b3_2 b3_3) :=
  G.seg (X := mkX Try.prog (tab libr1) Try.f119 [] ρ w r) ⟨tab_ok libr1_ok, mixed⟩ [(14, true), (20, true)] 1000000 0 [4, 5, 6, 7, 8] [(0, none), (1, none), (2, none), (3, none)] (k := s119k0) (vs := [V.w (W.c (C.ptr 0 0)), V.w (W.c (C.own 1)), V.w (W.c (C.ptr 2 0)), V.w (W.c (C.ptr 3 0)), V.int IntKind.i64 (IntKind.wrap IntKind.i64 (t8 + 1))]) (bs := [Blk.mk 79 Mode.rw (K.cs [C.u 0, C.u 0, C.u 0, C.u 0]), Blk.mk 22 (Mode.own 16) (K.ints IntKind.u64 (lim 16 (nn k))), Blk.mk 79 Mode.rw (K.cs (numC (num4 (b2_0 % 18446744073709551616) (b2_1 % 18446744073709551616) (b2_2 % 18446744073709551616) (b2_3 % 18446744073709551616) * num4 (b3_0 % 18446744073709551616) (b3_1 % 18446744073709551616) (b3_2 % 18446744073709551616) (b3_3 % 18446744073709551616) % 57896044618658097711785492504343953926634992332820282019728792003956564819949))), Blk.mk 79 Mode.rw (K.cs (numC (num4 (b3_0 % 18446744073709551616) (b3_1 % 18446744073709551616) (b3_2 % 18446744073709551616) (b3_3 % 18446744073709551616) * num4 (b3_0 % 18446744073709551616) (b3_1 % 18446744073709551616) (b3_2 % 18446744073709551616) (b3_3 % 18446744073709551616) % 57896044618658097711785492504343953926634992332820282019728792003956564819949)))]) (by kernel_rfl) (by kernel_rfl)
    (ocons (decide_eq_true h1) (ocons (beqT h2) (ocons h3 (ocons (decide_eq_true h4) (ocons (decide_eq_true h5) (ocons (eqI h6) (ocons rfl (ocons rfl onil)))))))) hg
theorem s119_3 {ρ : Env} {w : World} {r : Res} (a : Nat) (k : Nat) (t8 : Int) (b2_0 : Nat) (b2_1 : Nat) (b2_2 : Nat) (b2_3 : Nat) (b3_0 : Nat) (b3_1 : Nat) (b3_2 : Nat) (b3_3 : Nat) (h1 : t8 < 256) (h2 : List.length (lim 16 (nn k)) = 16) (h3 : limOk (lim 16 (nn k)) = true) (h4 : 0 ≤ t8) (h5 : t8 ≤ 16000000000) (h6 : ¬(↑(bitL (lim 16 (nn k)) t8) : Int) = 1) (hg : G (mkX Try.prog (tab libr1) Try.f119 [] ρ w r) (s119st0 k (IntKind.wrap IntKind.i64 (t8 + 1)) (b2_0) (b2_1) (b2_2) (b2_3) (num4 (b3_0 % 18446744073709551616) (b3_1 % 18446744073709551616) (b3_2 % 18446744073709551616) (b3_3 % 18446744073709551616) * num4 (b3_0 % 18446744073709551616) (b3_1 % 18446744073709551616) (b3_2 % 18446744073709551616) (b3_3 % 18446744073709551616) % 57896044618658097711785492504343953926634992332820282019728792003956564819949) (num4 (b3_0 % 18446744073709551616) (b3_1 % 18446744073709551616) (b3_2 % 18446744073709551616) (b3_3 % 18446744073709551616) * num4 (b3_0 % 18446744073709551616) (b3_1 % 18446744073709551616) (b3_2 % 18446744073709551616) (b3_3 % 18446744073709551616) % 57896044618658097711785492504343953926634992332820282019728792003956564819949 / 18446744073709551616) (num4 (b3_0 % 18446744073709551616) (b3_1 % 18446744073709551616) (b3_2 % 18446744073709551616) (b3_3 % 18446744073709551616) * num4 (b3_0 % 18446744073709551616) (b3_1 % 18446744073709551616) (b3_2 % 18446744073709551616) (b3_3 % 18446744073709551616) % 57896044618658097711785492504343953926634992332820282019728792003956564819949 / 340282366920938463463374607431768211456) (num4 (b3_0 % 18446744073709551616) (b3_1 % 18446744073709551616) (b3_2 % 18446744073709551616) (b3_3 % 18446744073709551616) * num4 (b3_0 % 18446744073709551616) (b3_1 % 18446744073709551616) (b3_2 % 18446744073709551616) (b3_3 % 18446744073709551616) % 57896044618658097711785492504343953926634992332820282019728792003956564819949 / 6277101735386680763835789423207666416102355444464034512896))) : G (mkX Try.prog (tab libr1) Try.f119 [] ρ w r) (s119st0 k t8 b2_0 b2_1 b2_2 b2_3 b3_0 b3_1 b3_2 b3_3) :=
  G.seg (X := mkX Try.prog (tab libr1) Try.f119 [] ρ w r) ⟨tab_ok libr1_ok, mixed⟩ [(14, true), (20, false)] 1000000 0 [4, 5, 6, 7, 8] [(0, none), (1, none), (2, none), (3, none)] (k := s119k0) (vs := [V.w (W.c (C.ptr 0 0)), V.w (W.c (C.own 1)), V.w (W.c (C.ptr 2 0)), V.w (W.c (C.ptr 3 0)), V.int IntKind.i64 (IntKind.wrap IntKind.i64 (t8 + 1))]) (bs := [Blk.mk 79 Mode.rw (K.cs [C.u 0, C.u 0, C.u 0, C.u 0]), Blk.mk 22 (Mode.own 16) (K.ints IntKind.u64 (lim 16 (nn k))), Blk.mk 79 Mode.rw (K.cs [C.u b2_0, C.u b2_1, C.u b2_2, C.u b2_3]), Blk.mk 79 Mode.rw (K.cs (numC (num4 (b3_0 % 18446744073709551616) (b3_1 % 18446744073709551616) (b3_2 % 18446744073709551616) (b3_3 % 18446744073709551616) * num4 (b3_0 % 18446744073709551616) (b3_1 % 18446744073709551616) (b3_2 % 18446744073709551616) (b3_3 % 18446744073709551616) % 57896044618658097711785492504343953926634992332820282019728792003956564819949)))]) (by kernel_rfl) (by kernel_rfl)
    (ocons (decide_eq_true h1) (ocons (beqT h2) (ocons h3 (ocons (decide_eq_true h4) (ocons (decide_eq_true h5) (ocons (neI h6) (ocons rfl onil))))))) hg
theorem s119_4 {ρ : Env} {w : World} (a : Nat) (k : Nat) (t8 : Int) (b2_0 : Nat) (b2_1 : Nat) (b2_2 : Nat) (b2_3 : Nat) (b3_0 : Nat) (b3_1 : Nat) (b3_2 : Nat) (b3_3 : Nat) (h1 : ¬t8 < 256) : G (mkX Try.prog (tab libr1) Try.f119 [] ρ w ⟨V.w (W.agg [C.u b2_0, C.u b2_1, C.u b2_2, C.u b2_3]), [], []⟩) (s119st0 k t8 b2_0 b2_1 b2_2 b2_3 b3_0 b3_1 b3_2 b3_3) :=
  G.ends (tab_ok libr1_ok) mixed [(14, false)] 1000000 [] (by kernel_rfl) (by kernel_rfl) (by kernel_rfl) (by kernel_rfl)
    (ocons (ndec h1) (ocons rfl onil))

theorem s228a_1 : Sx.Spec Try.prog 228 [W.int IntKind.i64 (-2), W.int IntKind.i64 0] [] ⟨V.w (W.agg [C.u 57896044618658097711785492504343953926634992332820282019728792003956564819947, C.u 3138550867693340381917894711603833208051177722232017256447, C.u 170141183460469231731687303715884105727, C.u 9223372036854775807]), [], []⟩ :=
  spec_of_whole (tab_ok libr1x_ok) mixed Try.func228 [] 1000000 [] (by kernel_rfl) (by kernel_rfl) (by kernel_rfl) (by kernel_rfl) (by kernel_rfl) (by kernel_rfl)
    (ocons rfl (ocons rfl (ocons rfl (ocons rfl (ocons rfl (ocons rfl (ocons rfl (ocons rfl (ocons rfl (ocons rfl (ocons rfl (ocons rfl (ocons rfl (ocons rfl (ocons rfl (ocons rfl (ocons rfl (ocons rfl (ocons rfl (ocons rfl (ocons rfl (ocons rfl (ocons rfl (ocons rfl (ocons rfl (ocons rfl (ocons rfl (ocons rfl (ocons rfl (ocons rfl (ocons rfl (ocons rfl (ocons rfl (ocons rfl (ocons rfl (ocons rfl (ocons rfl (ocons rfl (ocons rfl (ocons rfl (ocons rfl (ocons rfl (ocons rfl (ocons rfl (ocons rfl (ocons rfl (ocons rfl (ocons rfl (ocons rfl (ocons rfl (ocons rfl (ocons rfl (ocons rfl (ocons rfl (ocons rfl (ocons rfl (ocons rfl (ocons rfl (ocons rfl (ocons rfl (ocons rfl (ocons rfl (ocons rfl (ocons rfl (ocons rfl (ocons rfl (ocons rfl (ocons rfl (ocons rfl (ocons rfl (ocons rfl (ocons rfl (ocons rfl (ocons rfl (ocons rfl (ocons rfl (ocons rfl (ocons rfl (ocons rfl (ocons rfl (ocons rfl (ocons rfl (ocons rfl (ocons rfl (ocons rfl (ocons rfl (ocons rfl (ocons rfl (ocons rfl (ocons rfl (ocons rfl (ocons rfl (ocons rfl (ocons rfl (ocons rfl (ocons rfl (ocons rfl (ocons rfl (ocons rfl (ocons rfl (ocons rfl (ocons rfl (ocons rfl (ocons rfl (ocons rfl (ocons rfl (ocons rfl (ocons rfl (ocons rfl (ocons rfl (ocons rfl (ocons rfl (ocons rfl (ocons rfl (ocons rfl (ocons rfl (ocons rfl (ocons rfl (ocons rfl (ocons rfl (ocons rfl (ocons rfl (ocons rfl (ocons rfl (ocons rfl (ocons rfl (ocons rfl (ocons rfl (ocons rfl (ocons rfl (ocons rfl (ocons rfl (ocons rfl (ocons rfl (ocons rfl (ocons rfl (ocons rfl (ocons rfl (ocons rfl (ocons rfl (ocons rfl (ocons rfl (ocons rfl (ocons rfl (ocons rfl (ocons rfl (ocons rfl (ocons rfl (ocons rfl (ocons rfl (ocons rfl (ocons rfl (ocons rfl (ocons rfl (ocons rfl (ocons rfl (ocons rfl (ocons rfl (ocons rfl (ocons rfl (ocons rfl (ocons rfl (ocons rfl (ocons rfl (ocons rfl (ocons rfl (ocons rfl (ocons rfl (ocons rfl (ocons rfl (ocons rfl (ocons rfl (ocons rfl (ocons rfl (ocons rfl (ocons rfl (ocons rfl (ocons rfl (ocons rfl (ocons rfl (ocons rfl (ocons rfl (ocons rfl (ocons rfl (ocons rfl (ocons rfl (ocons rfl (ocons rfl (ocons rfl (ocons rfl (ocons rfl (ocons rfl (ocons rfl (ocons rfl (ocons rfl (ocons rfl (ocons rfl (ocons rfl onil))))))))))))))))))))))))))))))))))))))))))))))))))))))))))))))))))))))))))))))))))))))))))))))))))))))))))))))))))))))))))))))))))))))))))))))))))))))))))))))))))))))))))))))))))))))))))))))))))))))

theorem s228b_1 : Sx.Spec Try.prog 228 [W.int IntKind.i64 (-1), W.int IntKind.i64 1] [] ⟨V.w (W.agg [C.u 28948022309329048855892746252171976963317496166410141009864396001978282409974, C.u 1569275433846670190958947355801916604025588861116008628223, C.u 85070591730234615865843651857942052863, C.u 4611686018427387903]), [], []⟩ :=
  spec_of_whole (tab_ok libr1x_ok) mixed Try.func228 [] 1000000 [] (by kernel_rfl) (by kernel_rfl) (by kernel_rfl) (by kernel_rfl) (by kernel_rfl) (by kernel_rfl)
    (ocons rfl (ocons rfl (ocons rfl (ocons rfl (ocons rfl (ocons rfl (ocons rfl (ocons rfl (ocons rfl (ocons rfl (ocons rfl (ocons rfl (ocons rfl (ocons rfl (ocons rfl (ocons rfl (ocons rfl (ocons rfl (ocons rfl (ocons rfl (ocons rfl (ocons rfl (ocons rfl (ocons rfl (ocons rfl (ocons rfl (ocons rfl (ocons rfl (ocons rfl (ocons rfl (ocons rfl (ocons rfl (ocons rfl (ocons rfl (ocons rfl (ocons rfl (ocons rfl (ocons rfl (ocons rfl (ocons rfl (ocons rfl (ocons rfl (ocons rfl (ocons rfl (ocons rfl (ocons rfl (ocons rfl (ocons rfl (ocons rfl (ocons rfl (ocons rfl (ocons rfl (ocons rfl (ocons rfl (ocons rfl (ocons rfl (ocons rfl (ocons rfl (ocons rfl (ocons rfl (ocons rfl (ocons rfl (ocons rfl (ocons rfl (ocons rfl (ocons rfl (ocons rfl (ocons rfl (ocons rfl (ocons rfl (ocons rfl (ocons rfl (ocons rfl (ocons rfl (ocons rfl (ocons rfl (ocons rfl (ocons rfl (ocons rfl (ocons rfl (ocons rfl (ocons rfl (ocons rfl (ocons rfl (ocons rfl (ocons rfl (ocons rfl (ocons rfl (ocons rfl (ocons rfl (ocons rfl (ocons rfl (ocons rfl (ocons rfl (ocons rfl (ocons rfl (ocons rfl (ocons rfl (ocons rfl (ocons rfl (ocons rfl (ocons rfl (ocons rfl (ocons rfl (ocons rfl (ocons rfl (ocons rfl (ocons rfl (ocons rfl (ocons rfl (ocons rfl (ocons rfl (ocons rfl (ocons rfl (ocons rfl (ocons rfl (ocons rfl (ocons rfl (ocons rfl (ocons rfl (ocons rfl (ocons rfl (ocons rfl (ocons rfl (ocons rfl (ocons rfl (ocons rfl (ocons rfl (ocons rfl (ocons rfl (ocons rfl (ocons rfl (ocons rfl (ocons rfl (ocons rfl (ocons rfl (ocons rfl (ocons rfl (ocons rfl (ocons rfl (ocons rfl (ocons rfl (ocons rfl (ocons rfl (ocons rfl (ocons rfl (ocons rfl (ocons rfl (ocons rfl (ocons rfl (ocons rfl (ocons rfl (ocons rfl (ocons rfl (ocons rfl (ocons rfl (ocons rfl (ocons rfl (ocons rfl (ocons rfl (ocons rfl (ocons rfl (ocons rfl (ocons rfl (ocons rfl (ocons rfl (ocons rfl (ocons rfl (ocons rfl (ocons rfl (ocons rfl (ocons rfl (ocons rfl (ocons rfl (ocons rfl (ocons rfl (ocons rfl (ocons rfl (ocons rfl (ocons rfl (ocons rfl (ocons rfl (ocons rfl (ocons rfl (ocons rfl (ocons rfl (ocons rfl (ocons rfl (ocons rfl (ocons rfl (ocons rfl (ocons rfl (ocons rfl (ocons rfl (ocons rfl (ocons rfl (ocons rfl (ocons rfl onil))))))))))))))))))))))))))))))))))))))))))))))))))))))))))))))))))))))))))))))))))))))))))))))))))))))))))))))))))))))))))))))))))))))))))))))))))))))))))))))))))))))))))))))))))))))))))))))))))))))

theorem s228c_1 : Sx.Spec Try.prog 228 [W.int IntKind.i64 3, W.int IntKind.i64 3] [] ⟨V.w (W.agg [C.u 7237005577332262213973186563042994240829374041602535252466099000494570602494, C.u 392318858461667547739736838950479151006397215279002157055, C.u 21267647932558653966460912964485513215, C.u 1152921504606846975]), [], []⟩ :=
  spec_of_whole (tab_ok libr1x_ok) mixed Try.func228 [] 1000000 [] (by kernel_rfl) (by kernel_rfl) (by kernel_rfl) (by kernel_rfl) (by kernel_rfl) (by kernel_rfl)
    (ocons rfl (ocons rfl (ocons rfl (ocons rfl (ocons rfl (ocons rfl (ocons rfl (ocons rfl (ocons rfl (ocons rfl (ocons rfl (ocons rfl (ocons rfl (ocons rfl (ocons rfl (ocons rfl (ocons rfl (ocons rfl (ocons rfl (ocons rfl (ocons rfl (ocons rfl (ocons rfl (ocons rfl (ocons rfl (ocons rfl (ocons rfl (ocons rfl (ocons rfl (ocons rfl (ocons rfl (ocons rfl (ocons rfl (ocons rfl (ocons rfl (ocons rfl (ocons rfl (ocons rfl (ocons rfl (ocons rfl (ocons rfl (ocons rfl (ocons rfl (ocons rfl (ocons rfl (ocons rfl (ocons rfl (ocons rfl (ocons rfl (ocons rfl (ocons rfl (ocons rfl (ocons rfl (ocons rfl (ocons rfl (ocons rfl (ocons rfl (ocons rfl (ocons rfl (ocons rfl (ocons rfl (ocons rfl (ocons rfl (ocons rfl (ocons rfl (ocons rfl (ocons rfl (ocons rfl (ocons rfl (ocons rfl (ocons rfl (ocons rfl (ocons rfl (ocons rfl (ocons rfl (ocons rfl (ocons rfl (ocons rfl (ocons rfl (ocons rfl (ocons rfl (ocons rfl (ocons rfl (ocons rfl (ocons rfl (ocons rfl (ocons rfl (ocons rfl (ocons rfl (ocons rfl (ocons rfl (ocons rfl (ocons rfl (ocons rfl (ocons rfl (ocons rfl (ocons rfl (ocons rfl (ocons rfl (ocons rfl (ocons rfl (ocons rfl (ocons rfl (ocons rfl (ocons rfl (ocons rfl (ocons rfl (ocons rfl (ocons rfl (ocons rfl (ocons rfl (ocons rfl (ocons rfl (ocons rfl (ocons rfl (ocons rfl (ocons rfl (ocons rfl (ocons rfl (ocons rfl (ocons rfl (ocons rfl (ocons rfl (ocons rfl (ocons rfl (ocons rfl (ocons rfl (ocons rfl (ocons rfl (ocons rfl (ocons rfl (ocons rfl (ocons rfl (ocons rfl (ocons rfl (ocons rfl (ocons rfl (ocons rfl (ocons rfl (ocons rfl (ocons rfl (ocons rfl (ocons rfl (ocons rfl (ocons rfl (ocons rfl (ocons rfl (ocons rfl (ocons rfl (ocons rfl (ocons rfl (ocons rfl (ocons rfl (ocons rfl (ocons rfl (ocons rfl (ocons rfl (ocons rfl (ocons rfl (ocons rfl (ocons rfl (ocons rfl (ocons rfl (ocons rfl (ocons rfl (ocons rfl (ocons rfl (ocons rfl (ocons rfl (ocons rfl (ocons rfl (ocons rfl (ocons rfl (ocons rfl (ocons rfl (ocons rfl (ocons rfl (ocons rfl (ocons rfl (ocons rfl (ocons rfl (ocons rfl (ocons rfl (ocons rfl (ocons rfl (ocons rfl (ocons rfl (ocons rfl (ocons rfl (ocons rfl (ocons rfl (ocons rfl (ocons rfl (ocons rfl (ocons rfl (ocons rfl (ocons rfl (ocons rfl (ocons rfl (ocons rfl (ocons rfl (ocons rfl (ocons rfl onil)))))))))))))))))))))))))))))))))))))))))))))))))))))))))))))))))))))))))))))))))))))))))))))))))))))))))))))))))))))))))))))))))))))))))))))))))))))))))))))))))))))))))))))))))))))))))))))))))))))))))))

theorem s228d_1 : Sx.Spec Try.prog 228 [W.int IntKind.i64 (-1), W.int IntKind.i64 2] [] ⟨V.w (W.agg [C.u 14474011154664524427946373126085988481658748083205070504932198000989141204987, C.u 784637716923335095479473677900958302012794430558004314111, C.u 42535295865117307932921825928971026431, C.u 2305843009213693951]), [], []⟩ :=
  spec_of_whole (tab_ok libr1x_ok) mixed Try.func228 [] 1000000 [] (by kernel_rfl) (by kernel_rfl) (by kernel_rfl) (by kernel_rfl) (by kernel_rfl) (by kernel_rfl)
    (ocons rfl (ocons rfl (ocons rfl (ocons rfl (ocons rfl (ocons rfl (ocons rfl (ocons rfl (ocons rfl (ocons rfl (ocons rfl (ocons rfl (ocons rfl (ocons rfl (ocons rfl (ocons rfl (ocons rfl (ocons rfl (ocons rfl (ocons rfl (ocons rfl (ocons rfl (ocons rfl (ocons rfl (ocons rfl (ocons rfl (ocons rfl (ocons rfl (ocons rfl (ocons rfl (ocons rfl (ocons rfl (ocons rfl (ocons rfl (ocons rfl (ocons rfl (ocons rfl (ocons rfl (ocons rfl (ocons rfl (ocons rfl (ocons rfl (ocons rfl (ocons rfl (ocons rfl (ocons rfl (ocons rfl (ocons rfl (ocons rfl (ocons rfl (ocons rfl (ocons rfl (ocons rfl (ocons rfl (ocons rfl (ocons rfl (ocons rfl (ocons rfl (ocons rfl (ocons rfl (ocons rfl (ocons rfl (ocons rfl (ocons rfl (ocons rfl (ocons rfl (ocons rfl (ocons rfl (ocons rfl (ocons rfl (ocons rfl (ocons rfl (ocons rfl (ocons rfl (ocons rfl (ocons rfl (ocons rfl (ocons rfl (ocons rfl (ocons rfl (ocons rfl (ocons rfl (ocons rfl (ocons rfl (ocons rfl (ocons rfl (ocons rfl (ocons rfl (ocons rfl (ocons rfl (ocons rfl (ocons rfl (ocons rfl (ocons rfl (ocons rfl (ocons rfl (ocons rfl (ocons rfl (ocons rfl (ocons rfl (ocons rfl (ocons rfl (ocons rfl (ocons rfl (ocons rfl (ocons rfl (ocons rfl (ocons rfl (ocons rfl (ocons rfl (ocons rfl (ocons rfl (ocons rfl (ocons rfl (ocons rfl (ocons rfl (ocons rfl (ocons rfl (ocons rfl (ocons rfl (ocons rfl (ocons rfl (ocons rfl (ocons rfl (ocons rfl (ocons rfl (ocons rfl (ocons rfl (ocons rfl (ocons rfl (ocons rfl (ocons rfl (ocons rfl (ocons rfl (ocons rfl (ocons rfl (ocons rfl (ocons rfl (ocons rfl (ocons rfl (ocons rfl (ocons rfl (ocons rfl (ocons rfl (ocons rfl (ocons rfl (ocons rfl (ocons rfl (ocons rfl (ocons rfl (ocons rfl (ocons rfl (ocons rfl (ocons rfl (ocons rfl (ocons rfl (ocons rfl (ocons rfl (ocons rfl (ocons rfl (ocons rfl (ocons rfl (ocons rfl (ocons rfl (ocons rfl (ocons rfl (ocons rfl (ocons rfl (ocons rfl (ocons rfl (ocons rfl (ocons rfl (ocons rfl (ocons rfl (ocons rfl (ocons rfl (ocons rfl (ocons rfl (ocons rfl (ocons rfl (ocons rfl (ocons rfl (ocons rfl (ocons rfl (ocons rfl (ocons rfl (ocons rfl (ocons rfl (ocons rfl (ocons rfl (ocons rfl (ocons rfl (ocons rfl (ocons rfl (ocons rfl (ocons rfl (ocons rfl (ocons rfl onil))))))))))))))))))))))))))))))))))))))))))))))))))))))))))))))))))))))))))))))))))))))))))))))))))))))))))))))))))))))))))))))))))))))))))))))))))))))))))))))))))))))))))))))))))))))))))))))))))))))

theorem s103_1 : Sx.Spec Try.prog 103 [] [] ⟨V.bool true, [], []⟩ :=
  spec_of_whole (tab_ok libr1_ok) mixed Try.func103 [] 1000000 [] (by kernel_rfl) (by kernel_rfl) (by kernel_rfl) (by kernel_rfl) (by kernel_rfl) (by kernel_rfl)
    (ocons rfl (ocons rfl (ocons rfl (ocons rfl (ocons rfl (ocons rfl (ocons rfl (ocons rfl (ocons rfl (ocons rfl (ocons rfl (ocons rfl onil))))))))))))


/-- (p + s) / 2^i, for the four that are asked for. -/
def e228 : Entry := fun args ms => match args, ms with
  | [.c (.v (.int .i64 s)), .c (.v (.int .i64 i))], [] =>
    bif decide (s = -2) && decide (i = 0) then some (⟨vN 57896044618658097711785492504343953926634992332820282019728792003956564819947, [], []⟩, [])
    else bif decide (s = -1) && decide (i = 1) then some (⟨vN 28948022309329048855892746252171976963317496166410141009864396001978282409974, [], []⟩, [])
    else bif decide (s = 3) && decide (i = 3) then some (⟨vN 7237005577332262213973186563042994240829374041602535252466099000494570602494, [], []⟩, [])
    else bif decide (s = -1) && decide (i = 2) then some (⟨vN 14474011154664524427946373126085988481658748083205070504932198000989141204987, [], []⟩, [])
    else none
  | _, _ => none
theorem e228_ok : EntryOk Try.prog 228 e228 := by
  intro args ms r obs h ho
  unfold e228 at h
  split at h
  · rename_i s i
    cases h1 : decide (s = -2) && decide (i = 0) with
    | true =>
      rw [h1, cond_true] at h
      simp only [Bool.and_eq_true, decide_eq_true_eq] at h1
      obtain ⟨rfl, rfl⟩ := h1
      cases h
      exact s228a_1
    | false =>
    rw [h1, cond_false] at h
    cases h2 : decide (s = -1) && decide (i = 1) with
    | true =>
      rw [h2, cond_true] at h
      simp only [Bool.and_eq_true, decide_eq_true_eq] at h2
      obtain ⟨rfl, rfl⟩ := h2
      cases h
      exact s228b_1
    | false =>
    rw [h2, cond_false] at h
    cases h3 : decide (s = 3) && decide (i = 3) with
    | true =>
      rw [h3, cond_true] at h
      simp only [Bool.and_eq_true, decide_eq_true_eq] at h3
      obtain ⟨rfl, rfl⟩ := h3
      cases h
      exact s228c_1
    | false =>
    rw [h3, cond_false] at h
    cases h4 : decide (s = -1) && decide (i = 2) with
    | true =>
      rw [h4, cond_true] at h
      simp only [Bool.and_eq_true, decide_eq_true_eq] at h4
      obtain ⟨rfl, rfl⟩ := h4
      cases h
      exact s228d_1
    | false => rw [h4] at h; cases h
  · cases h

theorem s119n {a k : Nat} (ha : a < P256) (hk : k < P256) : Sx.Spec Try.prog 119 [.agg (numC a), .agg (numC k)] [] ⟨vN (powP a k), [], []⟩ := by
  refine spec_body (tab := tab libr1) Try.func119 (by kernel_rfl) (by kernel_rfl) (by kernel_rfl) fun ρ w => ?_
  refine s119_1 a k ?_
  rw [powP_eq a hk]
  have hltP : ∀ x, x % 57896044618658097711785492504343953926634992332820282019728792003956564819949 < 115792089237316195423570985008687907853269984665640564039457584007913129639936 := fun x => Nat.lt_trans (Nat.mod_lt _ (by decide)) (by decide)
  have key : ∀ (f i : Nat), i + f = 256 → ∀ c0 c1 c2 c3 e0 e1 e2 e3, d4 c0 c1 c2 c3 = a ^ (k % 2 ^ i) % 57896044618658097711785492504343953926634992332820282019728792003956564819949 → d4 e0 e1 e2 e3 % 57896044618658097711785492504343953926634992332820282019728792003956564819949 = a ^ (2 ^ i) % 57896044618658097711785492504343953926634992332820282019728792003956564819949 → G (mkX Try.prog (tab libr1) Try.f119 [] ρ w ⟨vN (a ^ k % 57896044618658097711785492504343953926634992332820282019728792003956564819949), [], []⟩) (s119st0 k (i : Int) c0 c1 c2 c3 e0 e1 e2 e3) := by
    intro f
    induction f with
    | zero =>
      intro i hi c0 c1 c2 c3 e0 e1 e2 e3 hc he
      have : i = 256 := by omega
      subst this
      rw [Nat.mod_eq_of_lt (show k < 2 ^ 256 by unfold P256 at hk; omega)] at hc
      refine G.resv (r := ⟨.w (.agg [.u c0, .u c1, .u c2, .u c3]), [], []⟩) (fun ρ y h => ?_) (s119_4 a k _ c0 c1 c2 c3 e0 e1 e2 e3 (by omega))
      rw [← hc]
      exact rw_d4 y h
    | succ f ih =>
      intro i hi c0 c1 c2 c3 e0 e1 e2 e3 hc he
      have ew : IntKind.wrap .i64 ((i : Int) + 1) = ((i + 1 : Nat) : Int) := by rw [i64w] <;> omega
      have eb : bitL (lim 16 (nn k)) (i : Int) = k / 2 ^ i % 2 := by
        unfold bitL
        rw [val16 hk, Int.toNat_natCast]
      have hsq : d4 e0 e1 e2 e3 * d4 e0 e1 e2 e3 % 57896044618658097711785492504343953926634992332820282019728792003956564819949 % 57896044618658097711785492504343953926634992332820282019728792003956564819949 = a ^ (2 ^ (i + 1)) % 57896044618658097711785492504343953926634992332820282019728792003956564819949 := by
        rw [Nat.mod_mod, Nat.mul_mod, he, Nat.pow_succ, Nat.mul_two, Nat.pow_add, ← Nat.mul_mod]
      have hkm : k % 2 ^ (i + 1) = k % 2 ^ i + 2 ^ i * (k / 2 ^ i % 2) := by
        rw [Nat.pow_succ, Nat.mod_mul]
      by_cases h1 : k / 2 ^ i % 2 = 1
      · refine s119_2 a k i c0 c1 c2 c3 e0 e1 e2 e3 (by omega) (lim_length _ _) (limOk_lim _ _) (by omega) (by omega) (by rw [eb, h1]; rfl) ?_
        rw [show num4 (c0 % 18446744073709551616) (c1 % 18446744073709551616) (c2 % 18446744073709551616) (c3 % 18446744073709551616) = d4 c0 c1 c2 c3 from rfl, show num4 (e0 % 18446744073709551616) (e1 % 18446744073709551616) (e2 % 18446744073709551616) (e3 % 18446744073709551616) = d4 e0 e1 e2 e3 from rfl, ew]
        refine ih (i + 1) (by omega) _ _ _ _ _ _ _ _ ?_ ?_
        · rw [d4_num, Nat.mod_eq_of_lt (hltP _), hkm, h1, Nat.mul_one, Nat.pow_add, Nat.mul_mod, hc, he, Nat.mod_mod, ← Nat.mul_mod]
        · rw [d4_num, Nat.mod_eq_of_lt (hltP _), hsq]
      · refine s119_3 a k i c0 c1 c2 c3 e0 e1 e2 e3 (by omega) (lim_length _ _) (limOk_lim _ _) (by omega) (by omega) (by rw [eb]; omega) ?_
        rw [show num4 (e0 % 18446744073709551616) (e1 % 18446744073709551616) (e2 % 18446744073709551616) (e3 % 18446744073709551616) = d4 e0 e1 e2 e3 from rfl, ew]
        refine ih (i + 1) (by omega) _ _ _ _ _ _ _ _ ?_ ?_
        · rw [hc, hkm, show k / 2 ^ i % 2 = 0 by omega, Nat.mul_zero, Nat.add_zero]
        · rw [d4_num, Nat.mod_eq_of_lt (hltP _), hsq]
  refine key 256 0 (by omega) 1 0 0 0 _ _ _ _ ?_ ?_
  · rw [Nat.pow_zero, Nat.mod_one, Nat.pow_zero]; decide
  · rw [d4_num, Nat.mod_eq_of_lt (show a < 115792089237316195423570985008687907853269984665640564039457584007913129639936 from ha), Nat.pow_zero, Nat.pow_one]
def e119 : Entry := numsE [1, 1] (nm2 fun a k => vN (powP a k))
theorem e119_ok : EntryOk Try.prog 119 e119 := numsE_ok fun ns h hl => by
  obtain ⟨a, b, rfl⟩ := ns2 h
  exact s119n (hl a (by simp)) (hl b (by simp))
def e103 : Entry := fun args ms => match args, ms with
  | [], [] => some (⟨V.bool true, [], []⟩, [])
  | _, _ => none
theorem e103_ok : EntryOk Try.prog 103 e103 := by
  intro args ms r obs h ho
  unfold e103 at h
  split at h
  · cases h
    exact s103_1
  · cases h
end Go.Proofs.Ytmjejlbmcefaoaa
namespace Go.Proofs.Ytmjejlbmcefaoaa
open Go Sx
def libr2 : List (Nat × Entry) := [(103, e103), (119, e119), (228, e228)] ++ libr1
/-- powers, but the one of 2 that is a root of -1 is told. -/
def pow2P (a k : Nat) : Nat := bif Nat.beq k 14474011154664524427946373126085988481658748083205070504932198000989141204987 && Nat.beq a 2 then 19681161376707505956807079304988542015446066515923890162744021073123829784752 else powP a k
def e119x : Entry := numsE [1, 1] (nm2 fun a k => vN (pow2P a k))
/-- a number that the kernel does not look into. -/
noncomputable def sealN (n : Nat) : Nat := Classical.choose (⟨n, rfl⟩ : ∃ m, m = n)
noncomputable def e112s : Entry := numsE [1, 1] (nm2 fun a b => vN (sealN (a * b % 57896044618658097711785492504343953926634992332820282019728792003956564819949)))
noncomputable def libr2x : List (Nat × Entry) := (112, e112s) :: (119, e119x) :: libr2
theorem libr2_ok : AllOk Try.prog libr2 := .cons e103_ok (.cons e119_ok (.cons e228_ok libr1_ok))
theorem pow2P_eq (a k : Nat) : pow2P a k = powP a k := by
  unfold pow2P
  cases h : Nat.beq k 14474011154664524427946373126085988481658748083205070504932198000989141204987 && Nat.beq a 2 with
  | false => rw [cond_false]
  | true =>
    rw [Bool.and_eq_true, Nat.beq_eq, Nat.beq_eq] at h
    obtain ⟨rfl, rfl⟩ := h
    rw [cond_true]
    decide +kernel
theorem e119x_ok : EntryOk Try.prog 119 e119x := numsE_ok fun ns h hl => by
  obtain ⟨a, b, rfl⟩ := ns2 h
  show Sx.Spec _ _ _ _ ⟨vN (pow2P a b), [], []⟩
  rw [pow2P_eq]
  exact s119n (hl a (by simp)) (hl b (by simp))
theorem sealN_eq (n : Nat) : sealN n = n := Classical.choose_spec (⟨n, rfl⟩ : ∃ m, m = n)
theorem e112s_ok : EntryOk Try.prog 112 e112s := by
  have h : e112s = e112 := by
    unfold e112s e112
    simp only [sealN_eq]
  rw [h]
  exact e112_ok
theorem libr2x_ok : AllOk Try.prog libr2x := .cons e112s_ok (.cons e119x_ok libr2_ok)
theorem s120_1 (a : Nat) : Sx.Spec Try.prog 120 [W.agg (numC a)] [] ⟨V.w (W.agg (numC (powP (nn a) 57896044618658097711785492504343953926634992332820282019728792003956564819947))), [], []⟩ :=
  spec_of_whole (tab_ok libr2_ok) mixed Try.func120 [] 1000000 [] (by kernel_rfl) (by kernel_rfl) (by kernel_rfl) (by kernel_rfl) (by kernel_rfl) (by kernel_rfl)
    (ocons rfl onil)


def e120 : Entry := numsE [1] (nm1 fun a => vN (powP a 57896044618658097711785492504343953926634992332820282019728792003956564819947))
theorem e120_ok : EntryOk Try.prog 120 e120 := numsE_ok fun ns h hl => by
  obtain ⟨a, rfl⟩ := ns1 h
  have k := s120_1 a
  rw [nn_id (hl a (by simp))] at k
  exact k
end Go.Proofs.Ytmjejlbmcefaoaa
namespace Go.Proofs.Ytmjejlbmcefaoaa
open Go Sx

/-- a number as one of the field. -/
def toF (x : Nat) : Fp := ⟨x % pN, Nat.mod_lt _ pN_pos⟩
theorem toF_val {x : Nat} (h : x < 57896044618658097711785492504343953926634992332820282019728792003956564819949) : (toF x).val = x := Nat.mod_eq_of_lt h
theorem toF_mod (x : Nat) : toF (x % 57896044618658097711785492504343953926634992332820282019728792003956564819949) = toF x := Fin.ext (Nat.mod_mod x 57896044618658097711785492504343953926634992332820282019728792003956564819949)
theorem toF_mul (a b : Nat) : toF (a * b % 57896044618658097711785492504343953926634992332820282019728792003956564819949) = toF a * toF b := by
  rw [toF_mod]
  exact Fin.ext (by rw [Fin.val_mul]; exact Nat.mul_mod a b pN)
theorem toF_add (a b : Nat) : toF ((a + b) % 57896044618658097711785492504343953926634992332820282019728792003956564819949) = toF a + toF b := by
  rw [toF_mod]
  exact Fin.ext (by rw [Fin.val_add]; exact Nat.add_mod a b pN)
theorem negN_eq {x : Nat} (h : x < 57896044618658097711785492504343953926634992332820282019728792003956564819949) : negN x = (57896044618658097711785492504343953926634992332820282019728792003956564819949 - x) % 57896044618658097711785492504343953926634992332820282019728792003956564819949 := by
  unfold negN
  by_cases h0 : x = 0
  · subst h0; rfl
  · rw [beq_f h0, cond_false]
    omega
theorem toF_neg {x : Nat} (h : x < 57896044618658097711785492504343953926634992332820282019728792003956564819949) : toF (negN x) = - toF x := by
  have e : toF (negN x) + toF x = 0 := by
    rw [negN_eq h, ← toF_add]
    refine Fin.ext ?_
    show ((57896044618658097711785492504343953926634992332820282019728792003956564819949 - x) % 57896044618658097711785492504343953926634992332820282019728792003956564819949 + x) % 57896044618658097711785492504343953926634992332820282019728792003956564819949 % pN = 0
    rw [Nat.mod_add_mod, show 57896044618658097711785492504343953926634992332820282019728792003956564819949 - x + x = 57896044618658097711785492504343953926634992332820282019728792003956564819949 by omega]
    rfl
  grind
/-- the reference's root. -/
def rootQB (a : Nat) : Bool := Nat.beq (powP a 28948022309329048855892746252171976963317496166410141009864396001978282409974) 0 || Nat.beq (powP a 28948022309329048855892746252171976963317496166410141009864396001978282409974) 1
def rootQ (a : Nat) : Nat := bif rootQB a then (bif Nat.beq (root1 a % 2) 1 then subQ 0 (root1 a) else root1 a) else 0
end Go.Proofs.Ytmjejlbmcefaoaa
namespace Go.Proofs.Ytmjejlbmcefaoaa
open Go Sx

/-- a number that stands for one of the field. -/
def El (a : Nat) (A : Fp) : Prop := a < 57896044618658097711785492504343953926634992332820282019728792003956564819949 ∧ toF a = A
theorem El.lt {a : Nat} {A : Fp} (h : El a A) : a < P256 := Nat.lt_trans h.1 (by decide)
theorem El.nn {a : Nat} {A : Fp} (h : El a A) : nn a = a := nn_id h.lt
theorem El.val {a : Nat} {A : Fp} (h : El a A) : a = A.val := by rw [← h.2, toF_val h.1]
theorem El.inj {a b : Nat} {A : Fp} (h : El a A) (k : El b A) : a = b := by rw [h.val, k.val]
theorem El.eq_iff {a b : Nat} {A B : Fp} (h : El a A) (k : El b B) : a = b ↔ A = B := by
  constructor
  · intro e; rw [← h.2, ← k.2, e]
  · intro e; subst e; exact h.inj k
theorem mulP_two (a b : Nat) : mulP [a, b] = nn a % 57896044618658097711785492504343953926634992332820282019728792003956564819949 * nn b % 57896044618658097711785492504343953926634992332820282019728792003956564819949 := by
  show mulS (mulS 1 a) b = _
  unfold mulS
  rw [Nat.one_mul]
theorem mulP_three (a b c : Nat) : mulP [a, b, c] = nn a % 57896044618658097711785492504343953926634992332820282019728792003956564819949 * nn b % 57896044618658097711785492504343953926634992332820282019728792003956564819949 * nn c % 57896044618658097711785492504343953926634992332820282019728792003956564819949 := by
  show mulS (mulS (mulS 1 a) b) c = _
  unfold mulS
  rw [Nat.one_mul]
theorem El.mul {a b : Nat} {A B : Fp} (h : El a A) (k : El b B) : El (mulP [a, b]) (A * B) := by
  rw [mulP_two, h.nn, k.nn]
  refine ⟨Nat.mod_lt _ (by decide), ?_⟩
  rw [toF_mul, toF_mod, h.2, k.2]
theorem El.mul3 {a b c : Nat} {A B C : Fp} (h : El a A) (k : El b B) (l : El c C) : El (mulP [a, b, c]) (A * B * C) := by
  rw [mulP_three, h.nn, k.nn, l.nn]
  refine ⟨Nat.mod_lt _ (by decide), ?_⟩
  rw [toF_mul, toF_mul, toF_mod, h.2, k.2, l.2]
theorem addP_two (a b : Nat) : addP [a, b] = addS (addS 0 a) b := rfl
theorem El.add {a b : Nat} {A B : Fp} (h : El a A) (k : El b B) : El (addP [a, b]) (A + B) := by
  have e : addP [a, b] = (a % 57896044618658097711785492504343953926634992332820282019728792003956564819949 + b) % 57896044618658097711785492504343953926634992332820282019728792003956564819949 := by
    rw [addP_two]
    unfold addS
    rw [h.nn, k.nn, Nat.zero_add, h.nn, nn_id (show a % 57896044618658097711785492504343953926634992332820282019728792003956564819949 + b < P256 by have := Nat.mod_lt a (show 0 < 57896044618658097711785492504343953926634992332820282019728792003956564819949 by decide); have := k.1; unfold P256; omega)]
  rw [e]
  refine ⟨Nat.mod_lt _ (by decide), ?_⟩
  rw [toF_add, toF_mod, h.2, k.2]
theorem El.neg {a : Nat} {A : Fp} (h : El a A) : El (negN a) (-A) := by
  refine ⟨?_, by rw [toF_neg h.1, h.2]⟩
  rw [negN_eq h.1]
  exact Nat.mod_lt _ (by decide)
theorem El.sub {a b : Nat} {A B : Fp} (h : El a A) (k : El b B) : El (subP a b) (A - B) := by
  have e : A - B = A + -B := by grind
  rw [e]
  exact h.add k.neg
theorem El.zero : El 0 0 := ⟨by decide, rfl⟩
theorem El.one : El 1 1 := ⟨by decide, by decide +kernel⟩
theorem El.two : El 2 2 := ⟨by decide, by decide +kernel⟩
theorem El.d : El 37095705934669439343138083508754565189542113879843219016388785533085940283555 dF := ⟨by decide, by decide +kernel⟩
theorem El.twd : El 16295367250680780974490674513165176452449235426866156013048779062215315747161 (2 * dF) := ⟨by decide, by decide +kernel⟩
/-- the reference's sums and products. -/
theorem El.mulR {a b : Nat} {A B : Fp} (h : El a A) (k : El b B) : El (a * b % 57896044618658097711785492504343953926634992332820282019728792003956564819949) (A * B) := ⟨Nat.mod_lt _ (by decide), by rw [toF_mul, h.2, k.2]⟩
theorem El.addR {a b : Nat} {A B : Fp} (h : El a A) (k : El b B) : El ((a + b) % 57896044618658097711785492504343953926634992332820282019728792003956564819949) (A + B) := ⟨Nat.mod_lt _ (by decide), by rw [toF_add, h.2, k.2]⟩
theorem El.subR {a b : Nat} {A B : Fp} (h : El a A) (k : El b B) : El (subQ a b) (A - B) := by
  have e1 : subQ a b = (a + 57896044618658097711785492504343953926634992332820282019728792003956564819949 - b) % 57896044618658097711785492504343953926634992332820282019728792003956564819949 := subQ_eq h.lt (Nat.le_of_lt k.1)
  rw [e1]
  refine ⟨Nat.mod_lt _ (by decide), ?_⟩
  have e2 : toF ((a + 57896044618658097711785492504343953926634992332820282019728792003956564819949 - b) % 57896044618658097711785492504343953926634992332820282019728792003956564819949) + toF b = toF a := by
    rw [← toF_add]
    refine Fin.ext ?_
    show ((a + 57896044618658097711785492504343953926634992332820282019728792003956564819949 - b) % 57896044618658097711785492504343953926634992332820282019728792003956564819949 + b) % 57896044618658097711785492504343953926634992332820282019728792003956564819949 % 57896044618658097711785492504343953926634992332820282019728792003956564819949 = a % 57896044618658097711785492504343953926634992332820282019728792003956564819949
    rw [Nat.mod_add_mod, show a + 57896044618658097711785492504343953926634992332820282019728792003956564819949 - b + b = a + 57896044618658097711785492504343953926634992332820282019728792003956564819949 by have := k.1; omega, Nat.add_mod_right, Nat.mod_mod]
  rw [h.2, k.2] at e2
  rw [← e2]
  grind
abbrev Pf := Pt dF
/-- a point of the program: (x, y, z, t). -/
structure Q4 where
  x : Nat
  y : Nat
  z : Nat
  t : Nat
/-- a point of the reference: (X, Y, Z). -/
structure Q3 where
  x : Nat
  y : Nat
  z : Nat
structure Rep (q : Q4) (P : Pf) : Prop where
  h : ∃ Z : Fp, Z ≠ 0 ∧ El q.x (P.x * Z) ∧ El q.y (P.y * Z) ∧ El q.z Z ∧ El q.t (P.x * P.y * Z)
structure Rep3 (q : Q3) (P : Pf) : Prop where
  h : ∃ Z : Fp, Z ≠ 0 ∧ El q.x (P.x * Z) ∧ El q.y (P.y * Z) ∧ El q.z Z
abbrev padd (P Q : Pf) : Pf := Pt.add crv P Q
abbrev ptimes (P : Pf) (k : Nat) : Pf := Pt.times crv P k
def at4 (x y : Nat) : Q4 := ⟨x, y, 1, mulP [x, y]⟩
theorem at4_rep {x y : Nat} {P : Pf} (hx : El x P.x) (hy : El y P.y) : Rep (at4 x y) P := ⟨1, by decide +kernel, by
  have a := hx.mul hy
  refine ⟨?_, ?_, El.one, ?_⟩
  · rw [show P.x * 1 = P.x by grind]; exact hx
  · rw [show P.y * 1 = P.y by grind]; exact hy
  · rw [show P.x * P.y * 1 = P.x * P.y by grind]; exact a⟩
def at3 (x y : Nat) : Q3 := ⟨x, y, 1⟩
theorem at3_rep {x y : Nat} {P : Pf} (hx : El x P.x) (hy : El y P.y) : Rep3 (at3 x y) P := ⟨1, by decide +kernel, by
  refine ⟨?_, ?_, El.one⟩
  · rw [show P.x * 1 = P.x by grind]; exact hx
  · rw [show P.y * 1 = P.y by grind]; exact hy⟩
def zero4 : Q4 := ⟨0, 1, 1, 0⟩
theorem zero4_rep : Rep zero4 Pt.zero := ⟨1, by decide +kernel, El.zero, ⟨by decide, by decide +kernel⟩, El.one, ⟨by decide, by decide +kernel⟩⟩
def zero3 : Q3 := ⟨0, 1, 1⟩
theorem zero3_rep : Rep3 zero3 Pt.zero := ⟨1, by decide +kernel, El.zero, ⟨by decide, by decide +kernel⟩, El.one⟩
/-- the sum, as the program reckons it. -/
def sumA (p q : Q4) : Nat := mulP [subP p.y p.x, subP q.y q.x]
def sumB (p q : Q4) : Nat := mulP [addP [p.y, p.x], addP [q.y, q.x]]
def sumC (p q : Q4) (w : Nat) : Nat := mulP [p.t, w, q.t]
def sumD (p q : Q4) : Nat := mulP [2, p.z, q.z]
def sumQ (p q : Q4) (w : Nat) : Q4 :=
  ⟨mulP [subP (sumB p q) (sumA p q), subP (sumD p q) (sumC p q w)], mulP [addP [sumD p q, sumC p q w], addP [sumB p q, sumA p q]],
   mulP [subP (sumD p q) (sumC p q w), addP [sumD p q, sumC p q w]], mulP [subP (sumB p q) (sumA p q), addP [sumB p q, sumA p q]]⟩
theorem two_ne : (2 : Fp) ≠ 0 := by decide +kernel
theorem sum_e (x1 y1 x2 y2 Z1 Z2 : Fp) : (y1 * Z1 + x1 * Z1) * (y2 * Z2 + x2 * Z2) - (y1 * Z1 - x1 * Z1) * (y2 * Z2 - x2 * Z2) = 2 * Z1 * Z2 * (x1 * y2 + x2 * y1) := by grind
theorem sum_f (x1 y1 x2 y2 Z1 Z2 d : Fp) : 2 * Z1 * Z2 - x1 * y1 * Z1 * (2 * d) * (x2 * y2 * Z2) = 2 * Z1 * Z2 * (1 - d * x1 * x2 * y1 * y2) := by grind
theorem sum_g (x1 y1 x2 y2 Z1 Z2 d : Fp) : 2 * Z1 * Z2 + x1 * y1 * Z1 * (2 * d) * (x2 * y2 * Z2) = 2 * Z1 * Z2 * (1 + d * x1 * x2 * y1 * y2) := by grind
theorem sum_h (x1 y1 x2 y2 Z1 Z2 : Fp) : (y1 * Z1 + x1 * Z1) * (y2 * Z2 + x2 * Z2) + (y1 * Z1 - x1 * Z1) * (y2 * Z2 - x2 * Z2) = 2 * Z1 * Z2 * (y1 * y2 + x1 * x2) := by grind
theorem four_idR (k p q X Y : Fp) : k * (X * p) * (k * q) = X * (k * q * (k * p)) ∧ k * p * (k * (Y * q)) = Y * (k * q * (k * p)) ∧ k * (X * p) * (k * (Y * q)) = X * Y * (k * q * (k * p)) := by refine ⟨?_, ?_, ?_⟩ <;> grind
theorem sumQ_rep {p q : Q4} {P Q : Pf} (hp : Rep p P) (hq : Rep q Q) : Rep (sumQ p q 16295367250680780974490674513165176452449235426866156013048779062215315747161) (padd P Q) := by
  obtain ⟨Z1, z1, x1, y1, w1, t1⟩ := hp
  obtain ⟨Z2, z2, x2, y2, w2, t2⟩ := hq
  have hA := (y1.sub x1).mul (y2.sub x2)
  have hB := (y1.add x1).mul (y2.add x2)
  have hC := t1.mul3 El.twd t2
  have hD := El.two.mul3 w1 w2
  have hE := hB.sub hA
  have hF := hD.sub hC
  have hG := hD.add hC
  have hH := hB.add hA
  have dn := den_ne crv.toFld crv.hi crv.hd P.on Q.on
  have ax := addX_mul crv P.on Q.on
  have ay := addY_mul crv P.on Q.on
  have sx : (padd P Q).x = addX finv dF P.x P.y Q.x Q.y := rfl
  have sy : (padd P Q).y = addY finv dF P.x P.y Q.x Q.y := rfl
  rw [← sx] at ax
  rw [← sy] at ay
  obtain ⟨X, hX⟩ : ∃ X, X = (padd P Q).x := ⟨_, rfl⟩
  obtain ⟨Y, hY⟩ : ∃ Y, Y = (padd P Q).y := ⟨_, rfl⟩
  rw [← hX] at ax
  rw [← hY] at ay
  have e1 := sum_e P.x P.y Q.x Q.y Z1 Z2
  have e2 := sum_f P.x P.y Q.x Q.y Z1 Z2 dF
  have e3 := sum_g P.x P.y Q.x Q.y Z1 Z2 dF
  have e4 := sum_h P.x P.y Q.x Q.y Z1 Z2
  rw [← ax] at e1
  rw [← ay] at e4
  rw [e1] at hE
  rw [e2] at hF
  rw [e3] at hG
  rw [e4] at hH
  have f := crv.toFld
  have nk : 2 * Z1 * Z2 ≠ 0 := f.mul_ne (f.mul_ne two_ne z1) z2
  have r := four_idR (2 * Z1 * Z2) (1 + dF * P.x * Q.x * P.y * Q.y) (1 - dF * P.x * Q.x * P.y * Q.y) X Y
  refine ⟨_, f.mul_ne (f.mul_ne nk dn.2) (f.mul_ne nk dn.1), ?_, ?_, hF.mul hG, ?_⟩
  · rw [← hX, ← r.1]; exact hE.mul hF
  · rw [← hY, ← r.2.1]; exact hG.mul hH
  · rw [← hX, ← hY, ← r.2.2]; exact hE.mul hH
/-- twice a point, as the program reckons it. -/
def dblE (p : Q4) : Nat := subP (subP (mulP [addP [p.x, p.y], addP [p.x, p.y]]) (mulP [p.x, p.x])) (mulP [p.y, p.y])
def dblG (p : Q4) : Nat := subP (mulP [p.y, p.y]) (mulP [p.x, p.x])
def dblF (p : Q4) : Nat := subP (dblG p) (mulP [2, p.z, p.z])
def dblH (p : Q4) : Nat := negN (addP [mulP [p.x, p.x], mulP [p.y, p.y]])
def dblQ (p : Q4) : Q4 := ⟨mulP [dblE p, dblF p], mulP [dblG p, dblH p], mulP [dblF p, dblG p], mulP [dblE p, dblH p]⟩
theorem dbl_e (x y Z : Fp) : (x * Z + y * Z) * (x * Z + y * Z) - x * Z * (x * Z) - y * Z * (y * Z) = Z * Z * (x * y + x * y) := by grind
theorem dbl_g (x y Z d : Fp) (on : y * y - x * x - 1 - d * x * x * y * y = 0) : y * Z * (y * Z) - x * Z * (x * Z) = Z * Z * (1 + d * x * x * y * y) := by grind
theorem dbl_f (x y Z d : Fp) (on : y * y - x * x - 1 - d * x * x * y * y = 0) : y * Z * (y * Z) - x * Z * (x * Z) - 2 * Z * Z = -(Z * Z * (1 - d * x * x * y * y)) := by grind
theorem dbl_h (x y Z : Fp) : -(x * Z * (x * Z) + y * Z * (y * Z)) = -(Z * Z * (y * y + x * x)) := by grind
theorem four_idN (k p q X Y : Fp) : k * (X * p) * -(k * q) = X * (-(k * q) * (k * p)) ∧ k * p * -(k * (Y * q)) = Y * (-(k * q) * (k * p)) ∧ k * (X * p) * -(k * (Y * q)) = X * Y * (-(k * q) * (k * p)) := by refine ⟨?_, ?_, ?_⟩ <;> grind
theorem neg_ne {a : Fp} (h : a ≠ 0) : -a ≠ 0 := fun e => h (by grind)
theorem dblQ_rep {p : Q4} {P : Pf} (hp : Rep p P) : Rep (dblQ p) (padd P P) := by
  obtain ⟨Z1, z1, x1, y1, w1, t1⟩ := hp
  have s := x1.add y1
  have hE := ((s.mul s).sub (x1.mul x1)).sub (y1.mul y1)
  have hG := (y1.mul y1).sub (x1.mul x1)
  have hF := hG.sub (El.two.mul3 w1 w1)
  have hH := ((x1.mul x1).add (y1.mul y1)).neg
  have dn := den_ne crv.toFld crv.hi crv.hd P.on P.on
  have ax := addX_mul crv P.on P.on
  have ay := addY_mul crv P.on P.on
  have sx : (padd P P).x = addX finv dF P.x P.y P.x P.y := rfl
  have sy : (padd P P).y = addY finv dF P.x P.y P.x P.y := rfl
  rw [← sx] at ax
  rw [← sy] at ay
  have on := P.on
  unfold OnC at on
  obtain ⟨X, hX⟩ : ∃ X, X = (padd P P).x := ⟨_, rfl⟩
  obtain ⟨Y, hY⟩ : ∃ Y, Y = (padd P P).y := ⟨_, rfl⟩
  rw [← hX] at ax
  rw [← hY] at ay
  have e1 := dbl_e P.x P.y Z1
  have e2 := dbl_f P.x P.y Z1 dF on
  have e3 := dbl_g P.x P.y Z1 dF on
  have e4 := dbl_h P.x P.y Z1
  rw [← ax] at e1
  rw [← ay] at e4
  rw [e1] at hE
  rw [e2] at hF
  rw [e3] at hG
  rw [e4] at hH
  have f := crv.toFld
  have nk : Z1 * Z1 ≠ 0 := f.mul_ne z1 z1
  have r := four_idN (Z1 * Z1) (1 + dF * P.x * P.x * P.y * P.y) (1 - dF * P.x * P.x * P.y * P.y) X Y
  refine ⟨_, f.mul_ne (neg_ne (f.mul_ne nk dn.2)) (f.mul_ne nk dn.1), ?_, ?_, hF.mul hG, ?_⟩
  · rw [← hX, ← r.1]; exact hE.mul hF
  · rw [← hY, ← r.2.1]; exact hG.mul hH
  · rw [← hX, ← hY, ← r.2.2]; exact hE.mul hH
def negQ (p : Q4) : Q4 := ⟨negN p.x, p.y, p.z, negN p.t⟩
/-- are two points the same? -/
def sameQ (p q : Q4) : Bool := Nat.beq (mulP [p.x, q.z]) (mulP [q.x, p.z]) && Nat.beq (mulP [p.y, q.z]) (mulP [q.y, p.z])
theorem Pt.eq_iff {P Q : Pf} : P = Q ↔ P.x = Q.x ∧ P.y = Q.y := ⟨fun h => by rw [h]; exact ⟨rfl, rfl⟩, fun h => Pt.ext' h.1 h.2⟩
theorem sameQ_rep {p q : Q4} {P Q : Pf} (hp : Rep p P) (hq : Rep q Q) : sameQ p q = true ↔ P = Q := by
  obtain ⟨Z1, z1, x1, y1, w1, _⟩ := hp
  obtain ⟨Z2, z2, x2, y2, w2, _⟩ := hq
  unfold sameQ
  rw [Bool.and_eq_true, Nat.beq_eq, Nat.beq_eq, (x1.mul w2).eq_iff (x2.mul w1), (y1.mul w2).eq_iff (y2.mul w1), Pt.eq_iff]
  have f := crv.toFld
  have nz := f.mul_ne z1 z2
  constructor
  · rintro ⟨a, b⟩
    exact ⟨f.cancel nz (by grind), f.cancel nz (by grind)⟩
  · rintro ⟨a, b⟩
    rw [a, b]
    exact ⟨by grind, by grind⟩
/-- the reference's sum. -/
def rA (p q : Q3) : Nat := p.z * q.z % 57896044618658097711785492504343953926634992332820282019728792003956564819949
def rB (p q : Q3) : Nat := rA p q * rA p q % 57896044618658097711785492504343953926634992332820282019728792003956564819949
def rC (p q : Q3) : Nat := p.x * q.x % 57896044618658097711785492504343953926634992332820282019728792003956564819949
def rE (p q : Q3) : Nat := p.y * q.y % 57896044618658097711785492504343953926634992332820282019728792003956564819949
def rF (p q : Q3) (d : Nat) : Nat := d * (rC p q * rE p q % 57896044618658097711785492504343953926634992332820282019728792003956564819949) % 57896044618658097711785492504343953926634992332820282019728792003956564819949
def rX (p q : Q3) : Nat := (p.x * q.y % 57896044618658097711785492504343953926634992332820282019728792003956564819949 + p.y * q.x % 57896044618658097711785492504343953926634992332820282019728792003956564819949) % 57896044618658097711785492504343953926634992332820282019728792003956564819949
def rL (p q : Q3) (d : Nat) : Nat := subQ (rB p q) (rF p q d)
def rM (p q : Q3) (d : Nat) : Nat := (rB p q + rF p q d) % 57896044618658097711785492504343953926634992332820282019728792003956564819949
def addR (p q : Q3) (d : Nat) : Q3 := ⟨(rA p q * rX p q % 57896044618658097711785492504343953926634992332820282019728792003956564819949) * rL p q d % 57896044618658097711785492504343953926634992332820282019728792003956564819949, (rA p q * ((rE p q + rC p q) % 57896044618658097711785492504343953926634992332820282019728792003956564819949) % 57896044618658097711785492504343953926634992332820282019728792003956564819949) * rM p q d % 57896044618658097711785492504343953926634992332820282019728792003956564819949, rL p q d * rM p q d % 57896044618658097711785492504343953926634992332820282019728792003956564819949⟩
theorem ref_l (x1 y1 x2 y2 Z1 Z2 d : Fp) : Z1 * Z2 * (Z1 * Z2) - d * (x1 * Z1 * (x2 * Z2) * (y1 * Z1 * (y2 * Z2))) = Z1 * Z2 * (Z1 * Z2) * (1 - d * x1 * x2 * y1 * y2) := by grind
theorem ref_m (x1 y1 x2 y2 Z1 Z2 d : Fp) : Z1 * Z2 * (Z1 * Z2) + d * (x1 * Z1 * (x2 * Z2) * (y1 * Z1 * (y2 * Z2))) = Z1 * Z2 * (Z1 * Z2) * (1 + d * x1 * x2 * y1 * y2) := by grind
theorem ref_x (x1 y1 x2 y2 Z1 Z2 : Fp) : x1 * Z1 * (y2 * Z2) + y1 * Z1 * (x2 * Z2) = Z1 * Z2 * (x1 * y2 + x2 * y1) := by grind
theorem ref_y (x1 y1 x2 y2 Z1 Z2 : Fp) : y1 * Z1 * (y2 * Z2) + x1 * Z1 * (x2 * Z2) = Z1 * Z2 * (y1 * y2 + x1 * x2) := by grind
theorem ref_id (k p q X Y : Fp) : k * (k * (X * p)) * (k * k * q) = X * (k * k * q * (k * k * p)) ∧ k * (k * (Y * q)) * (k * k * p) = Y * (k * k * q * (k * k * p)) := by refine ⟨?_, ?_⟩ <;> grind
theorem addR_rep {p q : Q3} {P Q : Pf} (hp : Rep3 p P) (hq : Rep3 q Q) : Rep3 (addR p q 37095705934669439343138083508754565189542113879843219016388785533085940283555) (padd P Q) := by
  obtain ⟨Z1, z1, x1, y1, w1⟩ := hp
  obtain ⟨Z2, z2, x2, y2, w2⟩ := hq
  have hA := w1.mulR w2
  have hB := hA.mulR hA
  have hC := x1.mulR x2
  have hE := y1.mulR y2
  have hF := El.d.mulR (hC.mulR hE)
  have hX' := (x1.mulR y2).addR (y1.mulR x2)
  have hL := hB.subR hF
  have hM := hB.addR hF
  have dn := den_ne crv.toFld crv.hi crv.hd P.on Q.on
  have ax := addX_mul crv P.on Q.on
  have ay := addY_mul crv P.on Q.on
  have sx : (padd P Q).x = addX finv dF P.x P.y Q.x Q.y := rfl
  have sy : (padd P Q).y = addY finv dF P.x P.y Q.x Q.y := rfl
  rw [← sx] at ax
  rw [← sy] at ay
  obtain ⟨X, hX⟩ : ∃ X, X = (padd P Q).x := ⟨_, rfl⟩
  obtain ⟨Y, hY⟩ : ∃ Y, Y = (padd P Q).y := ⟨_, rfl⟩
  rw [← hX] at ax
  rw [← hY] at ay
  rw [ref_l P.x P.y Q.x Q.y Z1 Z2 dF] at hL
  rw [ref_m P.x P.y Q.x Q.y Z1 Z2 dF] at hM
  have hx := ref_x P.x P.y Q.x Q.y Z1 Z2
  have hy := ref_y P.x P.y Q.x Q.y Z1 Z2
  rw [← ax] at hx
  rw [← ay] at hy
  rw [hx] at hX'
  have hE' := hE.addR hC
  rw [hy] at hE'
  have f := crv.toFld
  have nz := f.mul_ne z1 z2
  have r := ref_id (Z1 * Z2) (1 + dF * P.x * Q.x * P.y * Q.y) (1 - dF * P.x * Q.x * P.y * Q.y) X Y
  refine ⟨_, f.mul_ne (f.mul_ne (f.mul_ne nz nz) dn.2) (f.mul_ne (f.mul_ne nz nz) dn.1), ?_, ?_, hL.mulR hM⟩
  · rw [← hX, ← r.1]; exact (hA.mulR hX').mulR hL
  · rw [← hY, ← r.2]; exact (hA.mulR hE').mulR hM
def negR (p : Q3) : Q3 := ⟨subQ 0 p.x, p.y, p.z⟩
end Go.Proofs.Ytmjejlbmcefaoaa
namespace Go.Proofs.Ytmjejlbmcefaoaa
open Go Sx

def lN : Nat := 7237005577332262213973186563042994240857116359379907606001950938285454250989
theorem lN_prime : Prime lN := prime7237005577332262213973186563042994240857116359379907606001950938285454250989
def bP : Pf := ⟨⟨15112221349535400772501151409588531511454012693041857206046113283949847762202, by decide +kernel⟩, ⟨46316835694926478169428394003475163141307993866256225615783033603165251855960, by decide +kernel⟩, by unfold OnC; decide +kernel⟩
theorem El.lit {n : Nat} (h : n < pN) : El n (⟨n, h⟩ : Fp) := ⟨h, Fin.ext (Nat.mod_eq_of_lt h)⟩
def base4 : Q4 := at4 15112221349535400772501151409588531511454012693041857206046113283949847762202 46316835694926478169428394003475163141307993866256225615783033603165251855960
def base3 : Q3 := at3 15112221349535400772501151409588531511454012693041857206046113283949847762202 46316835694926478169428394003475163141307993866256225615783033603165251855960
theorem base4_rep : Rep base4 bP := at4_rep (El.lit _) (El.lit _)
theorem base3_rep : Rep3 base3 bP := at3_rep (El.lit _) (El.lit _)
/-- many times a point, by the reference: j of a number's bits, the highest ones first. -/
def timesT (p : Q3) (k d : Nat) : Nat → Q3
  | 0 => zero3
  | j + 1 => bif Nat.beq (k / 2 ^ (255 - j) % 2) 1 then addR (addR (timesT p k d j) (timesT p k d j) d) p d else addR (timesT p k d j) (timesT p k d j) d
def timesR (k : Nat) (p : Q3) (d : Nat) : Q3 := timesT p k d 256
theorem half_bit (k i : Nat) : k / 2 ^ i = 2 * (k / 2 ^ (i + 1)) + k / 2 ^ i % 2 := by
  rw [Nat.pow_succ, ← Nat.div_div_eq_div_mul]
  omega
theorem ptimes_two (P : Pf) (m : Nat) : ptimes P (2 * m) = padd (ptimes P m) (ptimes P m) := by
  rw [Nat.two_mul]
  exact Pt.times_add crv P m m
theorem ptimes_succ (P : Pf) (m : Nat) : ptimes P (m + 1) = padd (ptimes P m) P := by
  have h := Pt.times_add crv P m 1
  rw [Pt.times_one] at h
  exact h
theorem timesT_rep {p : Q3} {P : Pf} (hp : Rep3 p P) {k : Nat} (hk : k < P256) : ∀ j, j ≤ 256 → Rep3 (timesT p k 37095705934669439343138083508754565189542113879843219016388785533085940283555 j) (ptimes P (k / 2 ^ (256 - j)))
  | 0, _ => by
    rw [show k / 2 ^ (256 - 0) = 0 from Nat.div_eq_of_lt hk]
    exact zero3_rep
  | j + 1, hj => by
    have ih := timesT_rep hp hk j (by omega)
    have h2 := addR_rep ih ih
    rw [← ptimes_two] at h2
    rw [show 256 - (j + 1) = 255 - j by omega]
    have hb := half_bit k (255 - j)
    rw [show 255 - j + 1 = 256 - j by omega] at hb
    unfold timesT
    cases h1 : Nat.beq (k / 2 ^ (255 - j) % 2) 1 with
    | true =>
      rw [Nat.beq_eq.mp h1] at hb
      rw [hb, ptimes_succ, cond_true]
      exact addR_rep h2 hp
    | false =>
      have h0 : k / 2 ^ (255 - j) % 2 = 0 := by
        have : k / 2 ^ (255 - j) % 2 ≠ 1 := fun h => by rw [h] at h1; cases h1
        omega
      rw [h0] at hb
      rw [hb, Nat.add_zero, cond_false]
      exact h2
theorem timesR_rep {p : Q3} {P : Pf} (hp : Rep3 p P) {k : Nat} (hk : k < P256) : Rep3 (timesR k p 37095705934669439343138083508754565189542113879843219016388785533085940283555) (ptimes P k) := by
  have h := timesT_rep hp hk 256 (Nat.le_refl _)
  rw [show k / 2 ^ (256 - 256) = k by simp] at h
  exact h
/-- the same, each number reckoned at once. -/
def at1 (n : Nat) (f : Nat → Q3) : Q3 := Nat.casesOn n (f 0) fun m => f (m + 1)
theorem at1_eq (n : Nat) (f : Nat → Q3) : at1 n f = f n := by cases n <;> rfl
def force3 (q : Q3) : Q3 := at1 q.x fun x => at1 q.y fun y => at1 q.z fun z => ⟨x, y, z⟩
theorem force3_eq (q : Q3) : force3 q = q := by unfold force3; rw [at1_eq, at1_eq, at1_eq]
def timesS (p : Q3) (k d : Nat) : Nat → Q3
  | 0 => zero3
  | j + 1 => (fun o => bif Nat.beq (k / 2 ^ (255 - j) % 2) 1 then force3 (addR o p d) else o) (force3 (addR (timesS p k d j) (timesS p k d j) d))
theorem timesS_eq (p : Q3) (k d : Nat) : ∀ j, timesS p k d j = timesT p k d j
  | 0 => rfl
  | j + 1 => by
    unfold timesS timesT
    simp only [force3_eq, timesS_eq p k d j]
def isZ (q : Q3) : Bool := Nat.beq q.x 0 && Nat.beq q.y q.z
theorem base_order0 : isZ (timesS base3 lN 37095705934669439343138083508754565189542113879843219016388785533085940283555 256) = true := by decide +kernel
theorem zero_of3 {q : Q3} {P : Pf} (h : Rep3 q P) (hz : isZ q = true) : P = Pt.zero := by
  obtain ⟨Z, z, x, y, w⟩ := h
  unfold isZ at hz
  rw [Bool.and_eq_true, Nat.beq_eq, Nat.beq_eq, x.eq_iff El.zero, y.eq_iff w] at hz
  have f := crv.toFld
  refine Pt.ext' (f.cancel z ?_) (f.cancel z ?_)
  · rw [hz.1]; show (0 : Fp) = 0 * Z; grind
  · rw [hz.2]; show Z = 1 * Z; grind
theorem base_order : ptimes bP lN = Pt.zero := by
  refine zero_of3 (timesR_rep base3_rep (show lN < P256 by decide)) ?_
  unfold timesR
  rw [← timesS_eq]
  exact base_order0
theorem bP_ne : bP ≠ Pt.zero := fun h => by
  have := congrArg (fun P : Pf => P.x.val) h
  revert this
  decide +kernel
theorem lN_pos : 0 < lN := by decide +kernel
theorem times_pos : ∀ (n m : Nat), m ≤ n → 0 < m → m < lN → ptimes bP m ≠ Pt.zero
  | 0, m, h, h0, _ => by omega
  | n + 1, m, h, h0, hl => by
    intro hz
    have e : ptimes bP lN = ptimes bP (lN % m) := (Pt.times_mod crv hz lN).symm
    rw [base_order] at e
    have hr := Nat.mod_lt lN h0
    rcases Nat.eq_zero_or_pos (lN % m) with h1 | h1
    · rcases lN_prime.2 m (Nat.dvd_of_mod_eq_zero h1) with h2 | h2
      · subst h2
        rw [show ptimes bP 1 = bP from Pt.times_one crv bP] at hz
        exact bP_ne hz
      · omega
    · exact times_pos n (lN % m) (by omega) h1 (by omega) e.symm
theorem times_zero_iff {m : Nat} : ptimes bP m = Pt.zero ↔ m % lN = 0 := by
  rw [show ptimes bP m = ptimes bP (m % lN) from (Pt.times_mod crv base_order m).symm]
  constructor
  · intro h
    rcases Nat.eq_zero_or_pos (m % lN) with h1 | h1
    · exact h1
    · exact absurd h (times_pos _ _ (Nat.le_refl _) h1 (Nat.mod_lt _ lN_pos))
  · intro h; rw [h]; rfl
/-- the points of order 4 at most. -/
def lowP (k : Nat) : Pf := match k % 4 with
  | 1 => ⟨0, -1, by unfold OnC; decide +kernel⟩
  | 2 => ⟨iF, 0, by unfold OnC; decide +kernel⟩
  | 3 => ⟨-iF, 0, by unfold OnC; decide +kernel⟩
  | _ => Pt.zero
end Go.Proofs.Ytmjejlbmcefaoaa
namespace Go.Proofs.Ytmjejlbmcefaoaa
open Go Sx
theorem s116_1 (a : Nat) (h1 : (!eqNs [nn (pow2P (nn a) 28948022309329048855892746252171976963317496166410141009864396001978282409974)] [0]) = true) (h2 : (!eqNs [nn (pow2P (nn a) 28948022309329048855892746252171976963317496166410141009864396001978282409974)] [1]) = true) : Sx.Spec Try.prog 116 [W.agg (numC a)] [] ⟨V.tup [W.agg [C.u 0, C.u 0, C.u 0, C.u 0], W.c (C.v (Value.bool false))], [], []⟩ :=
  spec_of_whole (tab_ok libr2x_ok) mixed Try.func116 [(12, true), (16, true)] 1000000 [] (by kernel_rfl) (by kernel_rfl) (by kernel_rfl) (by kernel_rfl) (by kernel_rfl) (by kernel_rfl)
    (ocons rfl (ocons rfl (ocons h1 (ocons rfl (ocons h2 (ocons rfl onil))))))
theorem s116_2 (a : Nat) (h1 : (!eqNs [nn (pow2P (nn a) 28948022309329048855892746252171976963317496166410141009864396001978282409974)] [0]) = true) (h2 : (!!eqNs [nn (pow2P (nn a) 28948022309329048855892746252171976963317496166410141009864396001978282409974)] [1]) = true) (h3 : (!eqNs [nn (sealN (nn (pow2P (nn a) 7237005577332262213973186563042994240829374041602535252466099000494570602494) * nn (pow2P (nn a) 7237005577332262213973186563042994240829374041602535252466099000494570602494) % 57896044618658097711785492504343953926634992332820282019728792003956564819949))] [nn a]) = true) (h4 : Int.tmod (↑(sealN (nn (pow2P (nn a) 7237005577332262213973186563042994240829374041602535252466099000494570602494) * 19681161376707505956807079304988542015446066515923890162744021073123829784752 % 57896044618658097711785492504343953926634992332820282019728792003956564819949) % 18446744073709551616) : Int) 2 = 1) : Sx.Spec Try.prog 116 [W.agg (numC a)] [] ⟨V.tup [W.agg (numC (subQ 0 (nn (sealN (nn (pow2P (nn a) 7237005577332262213973186563042994240829374041602535252466099000494570602494) * 19681161376707505956807079304988542015446066515923890162744021073123829784752 % 57896044618658097711785492504343953926634992332820282019728792003956564819949))))), W.c (C.v (Value.bool true))], [], []⟩ :=
  spec_of_whole (tab_ok libr2x_ok) mixed Try.func116 [(12, true), (16, false), (25, true), (34, true)] 1000000 [] (by kernel_rfl) (by kernel_rfl) (by kernel_rfl) (by kernel_rfl) (by kernel_rfl) (by kernel_rfl)
    (ocons rfl (ocons rfl (ocons h1 (ocons rfl (ocons h2 (ocons rfl (ocons h3 (ocons rfl (ocons rfl (ocons rfl (ocons rfl (ocons rfl (ocons (eqI h4) (ocons rfl (ocons rfl (ocons rfl onil))))))))))))))))
theorem s116_3 (a : Nat) (h1 : (!eqNs [nn (pow2P (nn a) 28948022309329048855892746252171976963317496166410141009864396001978282409974)] [0]) = true) (h2 : (!!eqNs [nn (pow2P (nn a) 28948022309329048855892746252171976963317496166410141009864396001978282409974)] [1]) = true) (h3 : (!eqNs [nn (sealN (nn (pow2P (nn a) 7237005577332262213973186563042994240829374041602535252466099000494570602494) * nn (pow2P (nn a) 7237005577332262213973186563042994240829374041602535252466099000494570602494) % 57896044618658097711785492504343953926634992332820282019728792003956564819949))] [nn a]) = true) (h4 : ¬Int.tmod (↑(sealN (nn (pow2P (nn a) 7237005577332262213973186563042994240829374041602535252466099000494570602494) * 19681161376707505956807079304988542015446066515923890162744021073123829784752 % 57896044618658097711785492504343953926634992332820282019728792003956564819949) % 18446744073709551616) : Int) 2 = 1) : Sx.Spec Try.prog 116 [W.agg (numC a)] [] ⟨V.tup [W.agg (numC (sealN (nn (pow2P (nn a) 7237005577332262213973186563042994240829374041602535252466099000494570602494) * 19681161376707505956807079304988542015446066515923890162744021073123829784752 % 57896044618658097711785492504343953926634992332820282019728792003956564819949))), W.c (C.v (Value.bool true))], [], []⟩ :=
  spec_of_whole (tab_ok libr2x_ok) mixed Try.func116 [(12, true), (16, false), (25, true), (34, false)] 1000000 [] (by kernel_rfl) (by kernel_rfl) (by kernel_rfl) (by kernel_rfl) (by kernel_rfl) (by kernel_rfl)
    (ocons rfl (ocons rfl (ocons h1 (ocons rfl (ocons h2 (ocons rfl (ocons h3 (ocons rfl (ocons rfl (ocons rfl (ocons rfl (ocons rfl (ocons (neI h4) (ocons rfl onil))))))))))))))
theorem s116_4 (a : Nat) (h1 : (!eqNs [nn (pow2P (nn a) 28948022309329048855892746252171976963317496166410141009864396001978282409974)] [0]) = true) (h2 : (!!eqNs [nn (pow2P (nn a) 28948022309329048855892746252171976963317496166410141009864396001978282409974)] [1]) = true) (h3 : (!!eqNs [nn (sealN (nn (pow2P (nn a) 7237005577332262213973186563042994240829374041602535252466099000494570602494) * nn (pow2P (nn a) 7237005577332262213973186563042994240829374041602535252466099000494570602494) % 57896044618658097711785492504343953926634992332820282019728792003956564819949))] [nn a]) = true) (h4 : Int.tmod (↑(pow2P (nn a) 7237005577332262213973186563042994240829374041602535252466099000494570602494 % 18446744073709551616) : Int) 2 = 1) : Sx.Spec Try.prog 116 [W.agg (numC a)] [] ⟨V.tup [W.agg (numC (subQ 0 (nn (pow2P (nn a) 7237005577332262213973186563042994240829374041602535252466099000494570602494)))), W.c (C.v (Value.bool true))], [], []⟩ :=
  spec_of_whole (tab_ok libr2x_ok) mixed Try.func116 [(12, true), (16, false), (25, false), (34, true)] 1000000 [] (by kernel_rfl) (by kernel_rfl) (by kernel_rfl) (by kernel_rfl) (by kernel_rfl) (by kernel_rfl)
    (ocons rfl (ocons rfl (ocons h1 (ocons rfl (ocons h2 (ocons rfl (ocons h3 (ocons rfl (ocons rfl (ocons rfl (ocons (eqI h4) (ocons rfl (ocons rfl (ocons rfl onil))))))))))))))
theorem s116_5 (a : Nat) (h1 : (!eqNs [nn (pow2P (nn a) 28948022309329048855892746252171976963317496166410141009864396001978282409974)] [0]) = true) (h2 : (!!eqNs [nn (pow2P (nn a) 28948022309329048855892746252171976963317496166410141009864396001978282409974)] [1]) = true) (h3 : (!!eqNs [nn (sealN (nn (pow2P (nn a) 7237005577332262213973186563042994240829374041602535252466099000494570602494) * nn (pow2P (nn a) 7237005577332262213973186563042994240829374041602535252466099000494570602494) % 57896044618658097711785492504343953926634992332820282019728792003956564819949))] [nn a]) = true) (h4 : ¬Int.tmod (↑(pow2P (nn a) 7237005577332262213973186563042994240829374041602535252466099000494570602494 % 18446744073709551616) : Int) 2 = 1) : Sx.Spec Try.prog 116 [W.agg (numC a)] [] ⟨V.tup [W.agg (numC (pow2P (nn a) 7237005577332262213973186563042994240829374041602535252466099000494570602494)), W.c (C.v (Value.bool true))], [], []⟩ :=
  spec_of_whole (tab_ok libr2x_ok) mixed Try.func116 [(12, true), (16, false), (25, false), (34, false)] 1000000 [] (by kernel_rfl) (by kernel_rfl) (by kernel_rfl) (by kernel_rfl) (by kernel_rfl) (by kernel_rfl)
    (ocons rfl (ocons rfl (ocons h1 (ocons rfl (ocons h2 (ocons rfl (ocons h3 (ocons rfl (ocons rfl (ocons rfl (ocons (neI h4) (ocons rfl onil))))))))))))
theorem s116_6 (a : Nat) (h1 : (!!eqNs [nn (pow2P (nn a) 28948022309329048855892746252171976963317496166410141009864396001978282409974)] [0]) = true) (h2 : (!eqNs [nn (sealN (nn (pow2P (nn a) 7237005577332262213973186563042994240829374041602535252466099000494570602494) * nn (pow2P (nn a) 7237005577332262213973186563042994240829374041602535252466099000494570602494) % 57896044618658097711785492504343953926634992332820282019728792003956564819949))] [nn a]) = true) (h3 : Int.tmod (↑(sealN (nn (pow2P (nn a) 7237005577332262213973186563042994240829374041602535252466099000494570602494) * 19681161376707505956807079304988542015446066515923890162744021073123829784752 % 57896044618658097711785492504343953926634992332820282019728792003956564819949) % 18446744073709551616) : Int) 2 = 1) : Sx.Spec Try.prog 116 [W.agg (numC a)] [] ⟨V.tup [W.agg (numC (subQ 0 (nn (sealN (nn (pow2P (nn a) 7237005577332262213973186563042994240829374041602535252466099000494570602494) * 19681161376707505956807079304988542015446066515923890162744021073123829784752 % 57896044618658097711785492504343953926634992332820282019728792003956564819949))))), W.c (C.v (Value.bool true))], [], []⟩ :=
  spec_of_whole (tab_ok libr2x_ok) mixed Try.func116 [(12, false), (25, true), (34, true)] 1000000 [] (by kernel_rfl) (by kernel_rfl) (by kernel_rfl) (by kernel_rfl) (by kernel_rfl) (by kernel_rfl)
    (ocons rfl (ocons rfl (ocons h1 (ocons rfl (ocons h2 (ocons rfl (ocons rfl (ocons rfl (ocons rfl (ocons rfl (ocons (eqI h3) (ocons rfl (ocons rfl (ocons rfl onil))))))))))))))
theorem s116_7 (a : Nat) (h1 : (!!eqNs [nn (pow2P (nn a) 28948022309329048855892746252171976963317496166410141009864396001978282409974)] [0]) = true) (h2 : (!eqNs [nn (sealN (nn (pow2P (nn a) 7237005577332262213973186563042994240829374041602535252466099000494570602494) * nn (pow2P (nn a) 7237005577332262213973186563042994240829374041602535252466099000494570602494) % 57896044618658097711785492504343953926634992332820282019728792003956564819949))] [nn a]) = true) (h3 : ¬Int.tmod (↑(sealN (nn (pow2P (nn a) 7237005577332262213973186563042994240829374041602535252466099000494570602494) * 19681161376707505956807079304988542015446066515923890162744021073123829784752 % 57896044618658097711785492504343953926634992332820282019728792003956564819949) % 18446744073709551616) : Int) 2 = 1) : Sx.Spec Try.prog 116 [W.agg (numC a)] [] ⟨V.tup [W.agg (numC (sealN (nn (pow2P (nn a) 7237005577332262213973186563042994240829374041602535252466099000494570602494) * 19681161376707505956807079304988542015446066515923890162744021073123829784752 % 57896044618658097711785492504343953926634992332820282019728792003956564819949))), W.c (C.v (Value.bool true))], [], []⟩ :=
  spec_of_whole (tab_ok libr2x_ok) mixed Try.func116 [(12, false), (25, true), (34, false)] 1000000 [] (by kernel_rfl) (by kernel_rfl) (by kernel_rfl) (by kernel_rfl) (by kernel_rfl) (by kernel_rfl)
    (ocons rfl (ocons rfl (ocons h1 (ocons rfl (ocons h2 (ocons rfl (ocons rfl (ocons rfl (ocons rfl (ocons rfl (ocons (neI h3) (ocons rfl onil))))))))))))
theorem s116_8 (a : Nat) (h1 : (!!eqNs [nn (pow2P (nn a) 28948022309329048855892746252171976963317496166410141009864396001978282409974)] [0]) = true) (h2 : (!!eqNs [nn (sealN (nn (pow2P (nn a) 7237005577332262213973186563042994240829374041602535252466099000494570602494) * nn (pow2P (nn a) 7237005577332262213973186563042994240829374041602535252466099000494570602494) % 57896044618658097711785492504343953926634992332820282019728792003956564819949))] [nn a]) = true) (h3 : Int.tmod (↑(pow2P (nn a) 7237005577332262213973186563042994240829374041602535252466099000494570602494 % 18446744073709551616) : Int) 2 = 1) : Sx.Spec Try.prog 116 [W.agg (numC a)] [] ⟨V.tup [W.agg (numC (subQ 0 (nn (pow2P (nn a) 7237005577332262213973186563042994240829374041602535252466099000494570602494)))), W.c (C.v (Value.bool true))], [], []⟩ :=
  spec_of_whole (tab_ok libr2x_ok) mixed Try.func116 [(12, false), (25, false), (34, true)] 1000000 [] (by kernel_rfl) (by kernel_rfl) (by kernel_rfl) (by kernel_rfl) (by kernel_rfl) (by kernel_rfl)
    (ocons rfl (ocons rfl (ocons h1 (ocons rfl (ocons h2 (ocons rfl (ocons rfl (ocons rfl (ocons (eqI h3) (ocons rfl (ocons rfl (ocons rfl onil))))))))))))
theorem s116_9 (a : Nat) (h1 : (!!eqNs [nn (pow2P (nn a) 28948022309329048855892746252171976963317496166410141009864396001978282409974)] [0]) = true) (h2 : (!!eqNs [nn (sealN (nn (pow2P (nn a) 7237005577332262213973186563042994240829374041602535252466099000494570602494) * nn (pow2P (nn a) 7237005577332262213973186563042994240829374041602535252466099000494570602494) % 57896044618658097711785492504343953926634992332820282019728792003956564819949))] [nn a]) = true) (h3 : ¬Int.tmod (↑(pow2P (nn a) 7237005577332262213973186563042994240829374041602535252466099000494570602494 % 18446744073709551616) : Int) 2 = 1) : Sx.Spec Try.prog 116 [W.agg (numC a)] [] ⟨V.tup [W.agg (numC (pow2P (nn a) 7237005577332262213973186563042994240829374041602535252466099000494570602494)), W.c (C.v (Value.bool true))], [], []⟩ :=
  spec_of_whole (tab_ok libr2x_ok) mixed Try.func116 [(12, false), (25, false), (34, false)] 1000000 [] (by kernel_rfl) (by kernel_rfl) (by kernel_rfl) (by kernel_rfl) (by kernel_rfl) (by kernel_rfl)
    (ocons rfl (ocons rfl (ocons h1 (ocons rfl (ocons h2 (ocons rfl (ocons rfl (ocons rfl (ocons (neI h3) (ocons rfl onil))))))))))


theorem tmod_odd (x : Nat) : Int.tmod (((x % 18446744073709551616 : Nat)) : Int) 2 = ((x % 2 : Nat) : Int) := by
  rw [Int.tmod_eq_emod_of_nonneg (by omega)]
  omega
def e116 : Entry := numsE [1] (nm1 fun a => .tup [.agg (numC (rootQ a)), .c (.v (.bool (rootQB a)))])
theorem e116_ok : EntryOk Try.prog 116 e116 := numsE_ok fun ns h hl => by
  obtain ⟨a, rfl⟩ := ns1 h
  have na := nn_id (hl a (by simp))
  have np := nn_p (powP_lt a 7237005577332262213973186563042994240829374041602535252466099000494570602494)
  have nq := nn_p (powP_lt a 28948022309329048855892746252171976963317496166410141009864396001978282409974)
  have nm : ∀ x, nn (x % 57896044618658097711785492504343953926634992332820282019728792003956564819949) = x % 57896044618658097711785492504343953926634992332820282019728792003956564819949 := fun x => nn_p (Nat.mod_lt _ (by decide))
  have k1 := s116_1 a
  have k2 := s116_2 a
  have k3 := s116_3 a
  have k4 := s116_4 a
  have k5 := s116_5 a
  have k6 := s116_6 a
  have k7 := s116_7 a
  have k8 := s116_8 a
  have k9 := s116_9 a
  simp only [sealN_eq, pow2P_eq, na, np, nq, nm, eqNs1, tmod_odd] at k1 k2 k3 k4 k5 k6 k7 k8 k9
  show Sx.Spec _ _ _ _ ⟨.tup [.agg (numC (rootQ a)), .c (.v (.bool (rootQB a)))], [], []⟩
  unfold rootQ rootQB root1
  generalize powP a 7237005577332262213973186563042994240829374041602535252466099000494570602494 = x at *
  generalize powP a 28948022309329048855892746252171976963317496166410141009864396001978282409974 = e at *
  have fin : ∀ (y : Nat) (b : Bool), (b = true) → (∀ (h : ((y % 2 : Nat) : Int) = 1), Sx.Spec Try.prog 116 [.agg (numC a)] [] ⟨.tup [.agg (numC (subQ 0 y)), .c (.v (.bool true))], [], []⟩) → (∀ (h : ¬ ((y % 2 : Nat) : Int) = 1), Sx.Spec Try.prog 116 [.agg (numC a)] [] ⟨.tup [.agg (numC y), .c (.v (.bool true))], [], []⟩) →
      Sx.Spec Try.prog 116 [.agg (numC a)] [] ⟨.tup [.agg (numC (bif b then (bif Nat.beq (y % 2) 1 then subQ 0 y else y) else 0)), .c (.v (.bool b))], [], []⟩ := by
    intro y b hb h1 h2
    subst hb
    rw [cond_true]
    cases ho : Nat.beq (y % 2) 1 with
    | true => rw [cond_true]; exact h1 (by rw [Nat.beq_eq.mp ho]; rfl)
    | false =>
      rw [cond_false]
      refine h2 fun h => ?_
      rw [show y % 2 = 1 by omega] at ho
      cases ho
  unfold rootX
  cases h0 : Nat.beq e 0 with
  | false =>
    rw [h0] at k1 k2 k3 k4 k5
    cases h1 : Nat.beq e 1 with
    | false =>
      rw [h1] at k1
      rw [Bool.or_false, cond_false]
      exact k1 rfl rfl
    | true =>
      rw [h1] at k2 k3 k4 k5
      cases hx : Nat.beq (x * x % 57896044618658097711785492504343953926634992332820282019728792003956564819949) a with
      | false =>
        rw [hx] at k2 k3
        rw [cond_false]
        exact fin _ _ rfl (k2 rfl rfl rfl) (k3 rfl rfl rfl)
      | true =>
        rw [hx] at k4 k5
        rw [cond_true]
        exact fin _ _ rfl (k4 rfl rfl rfl) (k5 rfl rfl rfl)
  | true =>
    rw [h0] at k6 k7 k8 k9
    cases hx : Nat.beq (x * x % 57896044618658097711785492504343953926634992332820282019728792003956564819949) a with
    | false =>
      rw [hx] at k6 k7
      rw [cond_false]
      exact fin _ _ rfl (k6 rfl rfl) (k7 rfl rfl)
    | true =>
      rw [hx] at k8 k9
      rw [cond_true]
      exact fin _ _ rfl (k8 rfl rfl) (k9 rfl rfl)
def libr3 : List (Nat × Entry) := [(116, e116), (120, e120)] ++ libr2
theorem libr3_ok : AllOk Try.prog libr3 := .cons e116_ok (.cons e120_ok libr2_ok)
end Go.Proofs.Ytmjejlbmcefaoaa
namespace Go.Proofs.Ytmjejlbmcefaoaa
open Go Sx
noncomputable def sQ (q : Q4) : Q4 := Classical.choose (⟨q, rfl⟩ : ∃ m, m = q)
theorem sQ_eq (q : Q4) : sQ q = q := Classical.choose_spec (⟨q, rfl⟩ : ∃ m, m = q)
noncomputable def sR (q : Q3) : Q3 := Classical.choose (⟨q, rfl⟩ : ∃ m, m = q)
theorem sR_eq (q : Q3) : sR q = q := Classical.choose_spec (⟨q, rfl⟩ : ∃ m, m = q)
noncomputable def e111s : Entry := listE fun ns => ⟨vN (sealN (mulP ns)), [], []⟩
theorem e111s_ok : EntryOk Try.prog 111 e111s := by
  have h : e111s = e111 := by
    unfold e111s e111
    simp only [sealN_eq]
  rw [h]
  exact e111_ok
noncomputable def e113s : Entry := listE fun ns => ⟨vN (sealN (addP ns)), [], []⟩
theorem e113s_ok : EntryOk Try.prog 113 e113s := by
  have h : e113s = e113 := by
    unfold e113s e113
    simp only [sealN_eq]
  rw [h]
  exact e113_ok
noncomputable def e108s : Entry := numsE [1, 1] (nm2 fun a b => vN (sealN (subP a b)))
theorem e108s_ok : EntryOk Try.prog 108 e108s := by
  have h : e108s = e108 := by
    unfold e108s e108
    simp only [sealN_eq]
  rw [h]
  exact e108_ok
noncomputable def e110s : Entry := numsE [1] (nm1 fun a => vN (sealN (negN a)))
theorem e110s_ok : EntryOk Try.prog 110 e110s := by
  have h : e110s = e110 := by
    unfold e110s e110
    simp only [sealN_eq]
  rw [h]
  exact e110_ok
noncomputable def e117s : Entry := numsE [1] (nm1 fun a => vN (sealN (powP a 57896044618658097711785492504343953926634992332820282019728792003956564819947)))
theorem e117s_ok : EntryOk Try.prog 117 e117s := by
  have h : e117s = e117 := by
    unfold e117s e117
    simp only [sealN_eq]
  rw [h]
  exact e117_ok
noncomputable def e114s : Entry := numsE [1, 1] (nm2 fun a b => vN (sealN ((a + b) % 57896044618658097711785492504343953926634992332820282019728792003956564819949)))
theorem e114s_ok : EntryOk Try.prog 114 e114s := by
  have h : e114s = e114 := by
    unfold e114s e114
    simp only [sealN_eq]
  rw [h]
  exact e114_ok
noncomputable def e109s : Entry := numsE [1, 1] (nm2 fun a b => vN (sealN (subQ a b)))
theorem e109s_ok : EntryOk Try.prog 109 e109s := by
  have h : e109s = e109 := by
    unfold e109s e109
    simp only [sealN_eq]
  rw [h]
  exact e109_ok
noncomputable def e120s : Entry := numsE [1] (nm1 fun a => vN (sealN (powP a 57896044618658097711785492504343953926634992332820282019728792003956564819947)))
theorem e120s_ok : EntryOk Try.prog 120 e120s := by
  have h : e120s = e120 := by
    unfold e120s e120
    simp only [sealN_eq]
  rw [h]
  exact e120_ok
noncomputable def e115s : Entry := numsE [1] (nm1 fun a => .tup [.agg (numC (sealN (rootP a))), .c (.v (.bool (rootB a)))])
theorem e115s_ok : EntryOk Try.prog 115 e115s := by
  have h : e115s = e115 := by
    unfold e115s e115
    simp only [sealN_eq]
  rw [h]
  exact e115_ok
noncomputable def e116s : Entry := numsE [1] (nm1 fun a => .tup [.agg (numC (sealN (rootQ a))), .c (.v (.bool (rootQB a)))])
theorem e116s_ok : EntryOk Try.prog 116 e116s := by
  have h : e116s = e116 := by
    unfold e116s e116
    simp only [sealN_eq]
  rw [h]
  exact e116_ok
noncomputable def e105s : Entry := numsE [1] (nm1 fun a => vN (sealN (a % 57896044618658097711785492504343953926634992332820282019728792003956564819949)))
theorem e105s_ok : EntryOk Try.prog 105 e105s := by
  have h : e105s = e105 := by
    unfold e105s e105
    simp only [sealN_eq]
  rw [h]
  exact e105_ok
noncomputable def e106s : Entry := numsE [1] (nm1 fun a => vN (sealN (a % 57896044618658097711785492504343953926634992332820282019728792003956564819949)))
theorem e106s_ok : EntryOk Try.prog 106 e106s := by
  have h : e106s = e106 := by
    unfold e106s e106
    simp only [sealN_eq]
  rw [h]
  exact e106_ok
noncomputable def libcs : List (Nat × Entry) := [(112, e112s), (111, roE [.words] e111s), (113, roE [.words] e113s), (108, e108s), (110, e110s), (117, e117s), (114, e114s), (109, e109s), (120, e120s), (115, e115s), (116, e116s), (105, e105s), (106, e106s)] ++ libr3
theorem libcs_ok : AllOk Try.prog libcs := .cons e112s_ok (.cons (roE_ok e111s_ok) (.cons (roE_ok e113s_ok) (.cons e108s_ok (.cons e110s_ok (.cons e117s_ok (.cons e114s_ok (.cons e109s_ok (.cons e120s_ok (.cons e115s_ok (.cons e116s_ok (.cons e105s_ok (.cons e106s_ok libr3_ok))))))))))))
end Go.Proofs.Ytmjejlbmcefaoaa
namespace Go.Proofs.Ytmjejlbmcefaoaa
open Go Sx
theorem mulP_lt (l : List Nat) : mulP l < 57896044618658097711785492504343953926634992332820282019728792003956564819949 := by
  have key : ∀ (l : List Nat) (a : Nat), a < 57896044618658097711785492504343953926634992332820282019728792003956564819949 → l.foldl mulS a < 57896044618658097711785492504343953926634992332820282019728792003956564819949 := by
    intro l
    induction l with
    | nil => intro a h; exact h
    | cons b l ih => intro a _; exact ih _ (Nat.mod_lt _ (by decide))
  exact key l 1 (by decide)
theorem addP_lt (l : List Nat) : addP l < 57896044618658097711785492504343953926634992332820282019728792003956564819949 := by
  have key : ∀ (l : List Nat) (a : Nat), a < 57896044618658097711785492504343953926634992332820282019728792003956564819949 → l.foldl addS a < 57896044618658097711785492504343953926634992332820282019728792003956564819949 := by
    intro l
    induction l with
    | nil => intro a h; exact h
    | cons b l ih => intro a _; exact ih _ (Nat.mod_lt _ (by decide))
  exact key l 0 (by decide)
theorem nnMu (l : List Nat) : nn (mulP l) = mulP l := nn_p (mulP_lt l)
theorem nnAd (l : List Nat) : nn (addP l) = addP l := nn_p (addP_lt l)
theorem nnSb (a b : Nat) : nn (subP a b) = subP a b := nnAd _
theorem nnPw (a k : Nat) : nn (powP a k) = powP a k := nn_p (powP_lt a k)
theorem ns4 {ns : List Nat} (h : ns.length = 4) : ∃ a b c d, ns = [a, b, c, d] := by
  match ns, h with
  | [a, b, c, d], _ => exact ⟨a, b, c, d, rfl⟩
theorem ns8 {ns : List Nat} (h : ns.length = 8) : ∃ a b c d e f g i, ns = [a, b, c, d, e, f, g, i] := by
  match ns, h with
  | [a, b, c, d, e, f, g, i], _ => exact ⟨a, b, c, d, e, f, g, i, rfl⟩
theorem ns9 {ns : List Nat} (h : ns.length = 9) : ∃ a b c d e f g i j, ns = [a, b, c, d, e, f, g, i, j] := by
  match ns, h with
  | [a, b, c, d, e, f, g, i, j], _ => exact ⟨a, b, c, d, e, f, g, i, j, rfl⟩
/-- numbers of four words. -/
structure OkQ (q : Q4) : Prop where
  x : q.x < P256
  y : q.y < P256
  z : q.z < P256
  t : q.t < P256
def nq (q : Q4) : Q4 := ⟨nn q.x, nn q.y, nn q.z, nn q.t⟩
theorem nq_id {q : Q4} (h : OkQ q) : nq q = q := by
  unfold nq
  rw [nn_id h.x, nn_id h.y, nn_id h.z, nn_id h.t]
theorem okq_zero : OkQ zero4 := ⟨by decide, by decide, by decide, by decide⟩
theorem okq_sum (p q : Q4) (w : Nat) : OkQ (sumQ p q w) := by
  have k := fun l => Nat.lt_trans (mulP_lt l) (show 57896044618658097711785492504343953926634992332820282019728792003956564819949 < P256 by decide)
  exact ⟨k _, k _, k _, k _⟩
def r4 (q : Q4) : V := .w (.agg (numCs [q.x, q.y, q.z, q.t]))
def nm0 (v : V) : List Nat → Res := fun _ => ⟨v, [], []⟩
def e138 : Entry := numsE [] (nm0 (vN 37095705934669439343138083508754565189542113879843219016388785533085940283555))
def e229u : Entry := numsE [1, 1] (nm2 fun a b => r4 (at4 a b))
noncomputable def e229 : Entry := numsE [1, 1] (nm2 fun a b => r4 ⟨a, b, 1, sealN (mulP [a, b])⟩)
theorem s138_1 : Sx.Spec Try.prog 138 [] [] ⟨V.w (W.agg [C.u 37095705934669439343138083508754565189542113879843219016388785533085940283555, C.u 2010962248212601297588557873547883695803507630205619525803, C.u 109014481914921826637217330734730700952, C.u 5909686906226998899]), [], []⟩ :=
  spec_of_whole (tab_ok libr3_ok) mixed Try.func138 [] 1000000 [] (by kernel_rfl) (by kernel_rfl) (by kernel_rfl) (by kernel_rfl) (by kernel_rfl) (by kernel_rfl)
    (ocons rfl (ocons rfl (ocons rfl onil)))

theorem e138_ok : EntryOk Try.prog 138 e138 := numsE_ok fun ns h hl => by
  obtain rfl : ns = [] := List.length_eq_zero_iff.1 h
  exact s138_1
theorem s229_1 (a : Nat) (b : Nat) : Sx.Spec Try.prog 229 [W.agg (numC a), W.agg (numC b)] [] ⟨V.w (W.agg [C.u a, C.u (a / 18446744073709551616), C.u (a / 340282366920938463463374607431768211456), C.u (a / 6277101735386680763835789423207666416102355444464034512896), C.u b, C.u (b / 18446744073709551616), C.u (b / 340282366920938463463374607431768211456), C.u (b / 6277101735386680763835789423207666416102355444464034512896), C.u 1, C.u 0, C.u 0, C.u 0, C.u (sealN (mulP [nn a, nn b])), C.u (sealN (mulP [nn a, nn b]) / 18446744073709551616), C.u (sealN (mulP [nn a, nn b]) / 340282366920938463463374607431768211456), C.u (sealN (mulP [nn a, nn b]) / 6277101735386680763835789423207666416102355444464034512896)]), [], []⟩ :=
  spec_of_whole (tab_ok libcs_ok) mixed Try.func229 [] 1000000 [] (by kernel_rfl) (by kernel_rfl) (by kernel_rfl) (by kernel_rfl) (by kernel_rfl) (by kernel_rfl)
    (ocons rfl (ocons rfl onil))

theorem e229_ok : EntryOk Try.prog 229 e229 := numsE_ok fun ns h hl => by
  obtain ⟨a, b, rfl⟩ := ns2 h
  have k := s229_1 a b
  rw [nn_id (hl a (by simp)), nn_id (hl b (by simp))] at k
  exact Eq.mp (congrArg (Sx.Spec Try.prog 229 (shA [1, 1] [a, b]) []) (by kernel_rfl)) k
theorem e229u_ok : EntryOk Try.prog 229 e229u := by
  have h : e229u = e229 := by
    unfold e229u e229 at4
    simp only [sealN_eq]
  rw [h]
  exact e229_ok
noncomputable def libc00 : List (Nat × Entry) := [(138, e138), (229, e229)] ++ libcs
theorem libc00_ok : AllOk Try.prog libc00 := .cons e138_ok (.cons e229_ok libcs_ok)
def libz0 : List (Nat × Entry) := [(138, e138), (229, e229u)] ++ libr3
theorem libz0_ok : AllOk Try.prog libz0 := .cons e138_ok (.cons e229u_ok libr3_ok)
def e131 : Entry := numsE [] (nm0 (r4 zero4))
theorem s131_1 : Sx.Spec Try.prog 131 [] [] ⟨V.w (W.agg [C.u 0, C.u 0, C.u 0, C.u 0, C.u 1, C.u 0, C.u 0, C.u 0, C.u 1, C.u 0, C.u 0, C.u 0, C.u 0, C.u 0, C.u 0, C.u 0]), [], []⟩ :=
  spec_of_whole (tab_ok libz0_ok) mixed Try.func131 [] 1000000 [] (by kernel_rfl) (by kernel_rfl) (by kernel_rfl) (by kernel_rfl) (by kernel_rfl) (by kernel_rfl)
    (ocons rfl (ocons rfl (ocons rfl onil)))

theorem e131_ok : EntryOk Try.prog 131 e131 := numsE_ok fun ns h hl => by
  obtain rfl : ns = [] := List.length_eq_zero_iff.1 h
  exact s131_1
noncomputable def libc0 : List (Nat × Entry) := [(131, e131)] ++ libc00
def whole4 (q : Q4) : Q4 := bif eqNs [q.x, q.y, q.z, q.t] [0, 0, 0, 0] then zero4 else q
def nmQ (f : Q4 → V) : List Nat → Res
  | [a, b, c, d] => ⟨f ⟨a, b, c, d⟩, [], []⟩
  | _ => ⟨f zero4, [], []⟩
def nmQQ (f : Q4 → Q4 → V) : List Nat → Res
  | [a, b, c, d, e, g, h, i] => ⟨f ⟨a, b, c, d⟩ ⟨e, g, h, i⟩, [], []⟩
  | _ => ⟨f zero4 zero4, [], []⟩
def nmQQN (f : Q4 → Q4 → Nat → V) : List Nat → Res
  | [a, b, c, d, e, g, h, i, w] => ⟨f ⟨a, b, c, d⟩ ⟨e, g, h, i⟩ w, [], []⟩
  | _ => ⟨f zero4 zero4 0, [], []⟩
def nmNQQ (f : Nat → Q4 → Q4 → V) : List Nat → Res
  | [w, a, b, c, d, e, g, h, i] => ⟨f w ⟨a, b, c, d⟩ ⟨e, g, h, i⟩, [], []⟩
  | _ => ⟨f 0 zero4 zero4, [], []⟩
theorem libc0_ok : AllOk Try.prog libc0 := .cons e131_ok libc00_ok
noncomputable def wholeS (q : Q4) : Q4 := sQ (whole4 q)
noncomputable def sumS (p q : Q4) (w : Nat) : Q4 := sQ (sumQ p q w)
noncomputable def e230 : Entry := numsE [4] (nmQ fun q => r4 (wholeS q))
noncomputable def e235 : Entry := numsE [4, 4, 1] (nmQQN fun p q w => r4 (sumS p q w))
theorem s230_1 (a : Nat) (b : Nat) (c : Nat) (d : Nat) (h1 : eqNs [nn a, nn b, nn c, nn d] [0, 0, 0, 0] = true) : Sx.Spec Try.prog 230 [W.agg (numCs [a, b, c, d])] [] ⟨V.w (W.agg [C.u 0, C.u 0, C.u 0, C.u 0, C.u 1, C.u 0, C.u 0, C.u 0, C.u 1, C.u 0, C.u 0, C.u 0, C.u 0, C.u 0, C.u 0, C.u 0]), [], []⟩ :=
  spec_of_whole (tab_ok libc0_ok) mixed Try.func230 [(5, true)] 1000000 [] (by kernel_rfl) (by kernel_rfl) (by kernel_rfl) (by kernel_rfl) (by kernel_rfl) (by kernel_rfl)
    (ocons h1 (ocons rfl onil))
theorem s230_2 (a : Nat) (b : Nat) (c : Nat) (d : Nat) (h1 : (!eqNs [nn a, nn b, nn c, nn d] [0, 0, 0, 0]) = true) : Sx.Spec Try.prog 230 [W.agg (numCs [a, b, c, d])] [] ⟨V.w (W.agg (numCs [a, b, c, d])), [], []⟩ :=
  spec_of_whole (tab_ok libc0_ok) mixed Try.func230 [(5, false)] 1000000 [] (by kernel_rfl) (by kernel_rfl) (by kernel_rfl) (by kernel_rfl) (by kernel_rfl) (by kernel_rfl)
    (ocons h1 (ocons rfl onil))

theorem e230_ok : EntryOk Try.prog 230 e230 := numsE_ok fun ns h hl => by
  obtain ⟨a, b, c, d, rfl⟩ := ns4 h
  have k1 := s230_1 a b c d
  have k2 := s230_2 a b c d
  rw [nn_id (hl a (by simp)), nn_id (hl b (by simp)), nn_id (hl c (by simp)), nn_id (hl d (by simp))] at k1 k2
  show Sx.Spec _ _ _ _ ⟨r4 (wholeS ⟨a, b, c, d⟩), [], []⟩
  unfold wholeS
  rw [sQ_eq]
  unfold whole4
  cases hb : eqNs [a, b, c, d] [0, 0, 0, 0] with
  | true => exact Eq.mp (congrArg (Sx.Spec Try.prog 230 (shA [4] [a, b, c, d]) []) (by kernel_rfl)) (k1 hb)
  | false => exact k2 (by rw [hb]; rfl)
theorem s235_1 (a : Nat) (b : Nat) (c : Nat) (d : Nat) (e : Nat) (g : Nat) (h : Nat) (i : Nat) (w : Nat) : Sx.Spec Try.prog 235 [W.agg (numCs [a, b, c, d]), W.agg (numCs [e, g, h, i]), W.agg (numC w)] [] ⟨V.w (W.agg (numCs [sealN (mulP [nn (sealN (subP (nn (sealN (mulP [nn (sealN (addP [nn b, nn a])), nn (sealN (addP [nn g, nn e]))]))) (nn (sealN (mulP [nn (sealN (subP (nn b) (nn a))), nn (sealN (subP (nn g) (nn e)))]))))), nn (sealN (subP (nn (sealN (mulP [2, nn c, nn h]))) (nn (sealN (mulP [nn d, nn w, nn i])))))]), sealN (mulP [nn (sealN (addP [nn (sealN (mulP [2, nn c, nn h])), nn (sealN (mulP [nn d, nn w, nn i]))])), nn (sealN (addP [nn (sealN (mulP [nn (sealN (addP [nn b, nn a])), nn (sealN (addP [nn g, nn e]))])), nn (sealN (mulP [nn (sealN (subP (nn b) (nn a))), nn (sealN (subP (nn g) (nn e)))]))]))]), sealN (mulP [nn (sealN (subP (nn (sealN (mulP [2, nn c, nn h]))) (nn (sealN (mulP [nn d, nn w, nn i]))))), nn (sealN (addP [nn (sealN (mulP [2, nn c, nn h])), nn (sealN (mulP [nn d, nn w, nn i]))]))]), sealN (mulP [nn (sealN (subP (nn (sealN (mulP [nn (sealN (addP [nn b, nn a])), nn (sealN (addP [nn g, nn e]))]))) (nn (sealN (mulP [nn (sealN (subP (nn b) (nn a))), nn (sealN (subP (nn g) (nn e)))]))))), nn (sealN (addP [nn (sealN (mulP [nn (sealN (addP [nn b, nn a])), nn (sealN (addP [nn g, nn e]))])), nn (sealN (mulP [nn (sealN (subP (nn b) (nn a))), nn (sealN (subP (nn g) (nn e)))]))]))])])), [], []⟩ :=
  spec_of_whole (tab_ok libc0_ok) mixed Try.func235 [] 1000000 [] (by kernel_rfl) (by kernel_rfl) (by kernel_rfl) (by kernel_rfl) (by kernel_rfl) (by kernel_rfl)
    (ocons rfl (ocons rfl (ocons rfl (ocons rfl (ocons rfl (ocons rfl (ocons rfl (ocons rfl (ocons rfl (ocons rfl onil))))))))))

theorem e235_ok : EntryOk Try.prog 235 e235 := numsE_ok fun ns h hl => by
  obtain ⟨a, b, c, d, e, f, g, i, w, rfl⟩ := ns9 h
  have k := s235_1 a b c d e f g i w
  simp only [sealN_eq, nnMu, nnAd, nnSb, nn_id (hl a (by simp)), nn_id (hl b (by simp)), nn_id (hl c (by simp)), nn_id (hl d (by simp)), nn_id (hl e (by simp)), nn_id (hl f (by simp)), nn_id (hl g (by simp)), nn_id (hl i (by simp)), nn_id (hl w (by simp))] at k
  show Sx.Spec _ _ _ _ ⟨r4 (sumS ⟨a, b, c, d⟩ ⟨e, f, g, i⟩ w), [], []⟩
  unfold sumS
  rw [sQ_eq]
  exact k
noncomputable def libc1 : List (Nat × Entry) := [(230, e230), (235, e235)] ++ libc0
theorem libc1_ok : AllOk Try.prog libc1 := .cons e230_ok (.cons e235_ok libc0_ok)
theorem okq_whole {q : Q4} (h : OkQ q) : OkQ (whole4 q) := by
  unfold whole4
  cases eqNs [q.x, q.y, q.z, q.t] [0, 0, 0, 0] with
  | true => exact okq_zero
  | false => exact h
theorem okq4 {a b c d : Nat} {l : List Nat} (hl : ∀ n ∈ l, n < P256) (ha : a ∈ l) (hb : b ∈ l) (hc : c ∈ l) (hd : d ∈ l) : OkQ ⟨a, b, c, d⟩ := ⟨hl a ha, hl b hb, hl c hc, hl d hd⟩
theorem okq_mk {a b c d : Nat} (h : OkQ ⟨a, b, c, d⟩) : nn a = a ∧ nn b = b ∧ nn c = c ∧ nn d = d := ⟨nn_id h.x, nn_id h.y, nn_id h.z, nn_id h.t⟩
/-- where a point lies, as reckoned. -/
def xyX (q : Q4) : Nat := mulP [(whole4 q).x, powP (whole4 q).z 57896044618658097711785492504343953926634992332820282019728792003956564819947]
def xyY (q : Q4) : Nat := mulP [(whole4 q).y, powP (whole4 q).z 57896044618658097711785492504343953926634992332820282019728792003956564819947]
noncomputable def e231 : Entry := numsE [4] (nmQ fun q => .tup [.agg (numC (sealN (xyX q))), .agg (numC (sealN (xyY q)))])
theorem s231_1 (a : Nat) (b : Nat) (c : Nat) (d : Nat) : Sx.Spec Try.prog 231 [W.agg (numCs [a, b, c, d])] [] ⟨V.tup [W.agg (numC (sealN (mulP [nn (Q4.x (wholeS (Q4.mk (nn a) (nn b) (nn c) (nn d)))), nn (sealN (powP (nn (Q4.z (wholeS (Q4.mk (nn a) (nn b) (nn c) (nn d))))) 57896044618658097711785492504343953926634992332820282019728792003956564819947))]))), W.agg (numC (sealN (mulP [nn (Q4.y (wholeS (Q4.mk (nn a) (nn b) (nn c) (nn d)))), nn (sealN (powP (nn (Q4.z (wholeS (Q4.mk (nn a) (nn b) (nn c) (nn d))))) 57896044618658097711785492504343953926634992332820282019728792003956564819947))])))], [], []⟩ :=
  spec_of_whole (tab_ok libc1_ok) mixed Try.func231 [] 1000000 [] (by kernel_rfl) (by kernel_rfl) (by kernel_rfl) (by kernel_rfl) (by kernel_rfl) (by kernel_rfl)
    (ocons rfl (ocons rfl (ocons rfl (ocons rfl onil))))

theorem e231_ok : EntryOk Try.prog 231 e231 := numsE_ok fun ns h hl => by
  obtain ⟨a, b, c, d, rfl⟩ := ns4 h
  have hq : OkQ ⟨a, b, c, d⟩ := okq4 hl (by simp) (by simp) (by simp) (by simp)
  have hw := okq_whole hq
  obtain ⟨h1, h2, h3, h4⟩ := okq_mk hq
  have k := s231_1 a b c d
  simp only [sealN_eq, wholeS, sQ_eq, h1, h2, h3, h4, nn_id hw.x, nn_id hw.y, nn_id hw.z, nnPw] at k
  show Sx.Spec _ _ _ _ ⟨.tup [.agg (numC (sealN (xyX ⟨a, b, c, d⟩))), .agg (numC (sealN (xyY ⟨a, b, c, d⟩)))], [], []⟩
  rw [sealN_eq, sealN_eq]
  exact k
noncomputable def negS (q : Q4) : Q4 := sQ (negQ (whole4 q))
noncomputable def e143 : Entry := numsE [4] (nmQ fun q => r4 (negS q))
theorem s143_1 (a : Nat) (b : Nat) (c : Nat) (d : Nat) : Sx.Spec Try.prog 143 [W.agg (numCs [a, b, c, d])] [] ⟨V.w (W.agg (numCs [sealN (negN (nn (Q4.x (wholeS (Q4.mk (nn a) (nn b) (nn c) (nn d)))))), Q4.y (wholeS (Q4.mk (nn a) (nn b) (nn c) (nn d))), Q4.z (wholeS (Q4.mk (nn a) (nn b) (nn c) (nn d))), sealN (negN (nn (Q4.t (wholeS (Q4.mk (nn a) (nn b) (nn c) (nn d))))))])), [], []⟩ :=
  spec_of_whole (tab_ok libc1_ok) mixed Try.func143 [] 1000000 [] (by kernel_rfl) (by kernel_rfl) (by kernel_rfl) (by kernel_rfl) (by kernel_rfl) (by kernel_rfl)
    (ocons rfl (ocons rfl onil))

theorem e143_ok : EntryOk Try.prog 143 e143 := numsE_ok fun ns h hl => by
  obtain ⟨a, b, c, d, rfl⟩ := ns4 h
  have hq : OkQ ⟨a, b, c, d⟩ := okq4 hl (by simp) (by simp) (by simp) (by simp)
  have hw := okq_whole hq
  obtain ⟨h1, h2, h3, h4⟩ := okq_mk hq
  have k := s143_1 a b c d
  simp only [sealN_eq, wholeS, sQ_eq, h1, h2, h3, h4, nn_id hw.x, nn_id hw.t] at k
  show Sx.Spec _ _ _ _ ⟨r4 (negS ⟨a, b, c, d⟩), [], []⟩
  unfold negS
  rw [sQ_eq]
  exact k
noncomputable def dblS (q : Q4) : Q4 := sQ (dblQ (whole4 q))
noncomputable def e146 : Entry := numsE [4] (nmQ fun q => r4 (dblS q))
theorem nnNg {a : Nat} (h : a < 57896044618658097711785492504343953926634992332820282019728792003956564819949) : nn (negN a) = negN a := nn_id (negN_lt (Nat.lt_trans h (by decide)))
theorem s146_1 (a : Nat) (b : Nat) (c : Nat) (d : Nat) : Sx.Spec Try.prog 146 [W.agg (numCs [a, b, c, d])] [] ⟨V.w (W.agg (numCs [sealN (mulP [nn (sealN (subP (nn (sealN (subP (nn (sealN (mulP [nn (sealN (addP [nn (Q4.x (wholeS (Q4.mk (nn a) (nn b) (nn c) (nn d)))), nn (Q4.y (wholeS (Q4.mk (nn a) (nn b) (nn c) (nn d))))])), nn (sealN (addP [nn (Q4.x (wholeS (Q4.mk (nn a) (nn b) (nn c) (nn d)))), nn (Q4.y (wholeS (Q4.mk (nn a) (nn b) (nn c) (nn d))))]))]))) (nn (sealN (mulP [nn (Q4.x (wholeS (Q4.mk (nn a) (nn b) (nn c) (nn d)))), nn (Q4.x (wholeS (Q4.mk (nn a) (nn b) (nn c) (nn d))))])))))) (nn (sealN (mulP [nn (Q4.y (wholeS (Q4.mk (nn a) (nn b) (nn c) (nn d)))), nn (Q4.y (wholeS (Q4.mk (nn a) (nn b) (nn c) (nn d))))]))))), nn (sealN (subP (nn (sealN (subP (nn (sealN (mulP [nn (Q4.y (wholeS (Q4.mk (nn a) (nn b) (nn c) (nn d)))), nn (Q4.y (wholeS (Q4.mk (nn a) (nn b) (nn c) (nn d))))]))) (nn (sealN (mulP [nn (Q4.x (wholeS (Q4.mk (nn a) (nn b) (nn c) (nn d)))), nn (Q4.x (wholeS (Q4.mk (nn a) (nn b) (nn c) (nn d))))])))))) (nn (sealN (mulP [2, nn (Q4.z (wholeS (Q4.mk (nn a) (nn b) (nn c) (nn d)))), nn (Q4.z (wholeS (Q4.mk (nn a) (nn b) (nn c) (nn d))))])))))]), sealN (mulP [nn (sealN (subP (nn (sealN (mulP [nn (Q4.y (wholeS (Q4.mk (nn a) (nn b) (nn c) (nn d)))), nn (Q4.y (wholeS (Q4.mk (nn a) (nn b) (nn c) (nn d))))]))) (nn (sealN (mulP [nn (Q4.x (wholeS (Q4.mk (nn a) (nn b) (nn c) (nn d)))), nn (Q4.x (wholeS (Q4.mk (nn a) (nn b) (nn c) (nn d))))]))))), nn (sealN (negN (nn (sealN (addP [nn (sealN (mulP [nn (Q4.x (wholeS (Q4.mk (nn a) (nn b) (nn c) (nn d)))), nn (Q4.x (wholeS (Q4.mk (nn a) (nn b) (nn c) (nn d))))])), nn (sealN (mulP [nn (Q4.y (wholeS (Q4.mk (nn a) (nn b) (nn c) (nn d)))), nn (Q4.y (wholeS (Q4.mk (nn a) (nn b) (nn c) (nn d))))]))])))))]), sealN (mulP [nn (sealN (subP (nn (sealN (subP (nn (sealN (mulP [nn (Q4.y (wholeS (Q4.mk (nn a) (nn b) (nn c) (nn d)))), nn (Q4.y (wholeS (Q4.mk (nn a) (nn b) (nn c) (nn d))))]))) (nn (sealN (mulP [nn (Q4.x (wholeS (Q4.mk (nn a) (nn b) (nn c) (nn d)))), nn (Q4.x (wholeS (Q4.mk (nn a) (nn b) (nn c) (nn d))))])))))) (nn (sealN (mulP [2, nn (Q4.z (wholeS (Q4.mk (nn a) (nn b) (nn c) (nn d)))), nn (Q4.z (wholeS (Q4.mk (nn a) (nn b) (nn c) (nn d))))]))))), nn (sealN (subP (nn (sealN (mulP [nn (Q4.y (wholeS (Q4.mk (nn a) (nn b) (nn c) (nn d)))), nn (Q4.y (wholeS (Q4.mk (nn a) (nn b) (nn c) (nn d))))]))) (nn (sealN (mulP [nn (Q4.x (wholeS (Q4.mk (nn a) (nn b) (nn c) (nn d)))), nn (Q4.x (wholeS (Q4.mk (nn a) (nn b) (nn c) (nn d))))])))))]), sealN (mulP [nn (sealN (subP (nn (sealN (subP (nn (sealN (mulP [nn (sealN (addP [nn (Q4.x (wholeS (Q4.mk (nn a) (nn b) (nn c) (nn d)))), nn (Q4.y (wholeS (Q4.mk (nn a) (nn b) (nn c) (nn d))))])), nn (sealN (addP [nn (Q4.x (wholeS (Q4.mk (nn a) (nn b) (nn c) (nn d)))), nn (Q4.y (wholeS (Q4.mk (nn a) (nn b) (nn c) (nn d))))]))]))) (nn (sealN (mulP [nn (Q4.x (wholeS (Q4.mk (nn a) (nn b) (nn c) (nn d)))), nn (Q4.x (wholeS (Q4.mk (nn a) (nn b) (nn c) (nn d))))])))))) (nn (sealN (mulP [nn (Q4.y (wholeS (Q4.mk (nn a) (nn b) (nn c) (nn d)))), nn (Q4.y (wholeS (Q4.mk (nn a) (nn b) (nn c) (nn d))))]))))), nn (sealN (negN (nn (sealN (addP [nn (sealN (mulP [nn (Q4.x (wholeS (Q4.mk (nn a) (nn b) (nn c) (nn d)))), nn (Q4.x (wholeS (Q4.mk (nn a) (nn b) (nn c) (nn d))))])), nn (sealN (mulP [nn (Q4.y (wholeS (Q4.mk (nn a) (nn b) (nn c) (nn d)))), nn (Q4.y (wholeS (Q4.mk (nn a) (nn b) (nn c) (nn d))))]))])))))])])), [], []⟩ :=
  spec_of_whole (tab_ok libc1_ok) mixed Try.func146 [] 1000000 [] (by kernel_rfl) (by kernel_rfl) (by kernel_rfl) (by kernel_rfl) (by kernel_rfl) (by kernel_rfl)
    (ocons rfl (ocons rfl (ocons rfl (ocons rfl (ocons rfl (ocons rfl (ocons rfl (ocons rfl (ocons rfl (ocons rfl (ocons rfl onil)))))))))))

theorem e146_ok : EntryOk Try.prog 146 e146 := numsE_ok fun ns h hl => by
  obtain ⟨a, b, c, d, rfl⟩ := ns4 h
  have hq : OkQ ⟨a, b, c, d⟩ := okq4 hl (by simp) (by simp) (by simp) (by simp)
  have hw := okq_whole hq
  obtain ⟨h1, h2, h3, h4⟩ := okq_mk hq
  have k := s146_1 a b c d
  simp only [sealN_eq, wholeS, sQ_eq, h1, h2, h3, h4, nn_id hw.x, nn_id hw.y, nn_id hw.z, nnMu, nnAd, nnSb, nnNg (addP_lt _)] at k
  show Sx.Spec _ _ _ _ ⟨r4 (dblS ⟨a, b, c, d⟩), [], []⟩
  unfold dblS
  rw [sQ_eq]
  exact k
def e130 : Entry := numsE [4, 4] (nmQQ fun p q => V.bool (sameQ (whole4 p) (whole4 q)))
theorem s130_1 (a : Nat) (b : Nat) (c : Nat) (d : Nat) (e : Nat) (g : Nat) (h : Nat) (i : Nat) (h1 : eqNs [nn (sealN (mulP [nn (Q4.x (wholeS (Q4.mk (nn a) (nn b) (nn c) (nn d)))), nn (Q4.z (wholeS (Q4.mk (nn e) (nn g) (nn h) (nn i))))]))] [nn (sealN (mulP [nn (Q4.x (wholeS (Q4.mk (nn e) (nn g) (nn h) (nn i)))), nn (Q4.z (wholeS (Q4.mk (nn a) (nn b) (nn c) (nn d))))]))] = true) : Sx.Spec Try.prog 130 [W.agg (numCs [a, b, c, d]), W.agg (numCs [e, g, h, i])] [] ⟨V.bool (eqNs [nn (sealN (mulP [nn (Q4.y (wholeS (Q4.mk (nn a) (nn b) (nn c) (nn d)))), nn (Q4.z (wholeS (Q4.mk (nn e) (nn g) (nn h) (nn i))))]))] [nn (sealN (mulP [nn (Q4.y (wholeS (Q4.mk (nn e) (nn g) (nn h) (nn i)))), nn (Q4.z (wholeS (Q4.mk (nn a) (nn b) (nn c) (nn d))))]))]), [], []⟩ :=
  spec_of_whole (tab_ok libc1_ok) mixed Try.func130 [(44, true)] 1000000 [] (by kernel_rfl) (by kernel_rfl) (by kernel_rfl) (by kernel_rfl) (by kernel_rfl) (by kernel_rfl)
    (ocons rfl (ocons rfl (ocons rfl (ocons rfl (ocons rfl (ocons rfl (ocons rfl (ocons rfl (ocons rfl (ocons rfl (ocons rfl (ocons h1 (ocons rfl (ocons rfl (ocons rfl (ocons rfl (ocons rfl (ocons rfl (ocons rfl (ocons rfl onil))))))))))))))))))))
theorem s130_2 (a : Nat) (b : Nat) (c : Nat) (d : Nat) (e : Nat) (g : Nat) (h : Nat) (i : Nat) (h1 : (!eqNs [nn (sealN (mulP [nn (Q4.x (wholeS (Q4.mk (nn a) (nn b) (nn c) (nn d)))), nn (Q4.z (wholeS (Q4.mk (nn e) (nn g) (nn h) (nn i))))]))] [nn (sealN (mulP [nn (Q4.x (wholeS (Q4.mk (nn e) (nn g) (nn h) (nn i)))), nn (Q4.z (wholeS (Q4.mk (nn a) (nn b) (nn c) (nn d))))]))]) = true) : Sx.Spec Try.prog 130 [W.agg (numCs [a, b, c, d]), W.agg (numCs [e, g, h, i])] [] ⟨V.bool false, [], []⟩ :=
  spec_of_whole (tab_ok libc1_ok) mixed Try.func130 [(44, false)] 1000000 [] (by kernel_rfl) (by kernel_rfl) (by kernel_rfl) (by kernel_rfl) (by kernel_rfl) (by kernel_rfl)
    (ocons rfl (ocons rfl (ocons rfl (ocons rfl (ocons rfl (ocons rfl (ocons rfl (ocons rfl (ocons rfl (ocons rfl (ocons rfl (ocons h1 onil))))))))))))

theorem e130_ok : EntryOk Try.prog 130 e130 := numsE_ok fun ns h hl => by
  obtain ⟨a, b, c, d, e, f, g, i, rfl⟩ := ns8 h
  have hq : OkQ ⟨a, b, c, d⟩ := okq4 hl (by simp) (by simp) (by simp) (by simp)
  have hr : OkQ ⟨e, f, g, i⟩ := okq4 hl (by simp) (by simp) (by simp) (by simp)
  have hw := okq_whole hq
  have hv := okq_whole hr
  obtain ⟨h1, h2, h3, h4⟩ := okq_mk hq
  obtain ⟨h5, h6, h7, h8⟩ := okq_mk hr
  have k1 := s130_1 a b c d e f g i
  have k2 := s130_2 a b c d e f g i
  simp only [sealN_eq, wholeS, sQ_eq, h1, h2, h3, h4, h5, h6, h7, h8, nn_id hw.x, nn_id hw.y, nn_id hw.z, nn_id hv.x, nn_id hv.y, nn_id hv.z, nnMu, eqNs1] at k1 k2
  show Sx.Spec _ _ _ _ ⟨V.bool (sameQ (whole4 ⟨a, b, c, d⟩) (whole4 ⟨e, f, g, i⟩)), [], []⟩
  unfold sameQ
  generalize Nat.beq (mulP [(whole4 ⟨a, b, c, d⟩).y, (whole4 ⟨e, f, g, i⟩).z]) (mulP [(whole4 ⟨e, f, g, i⟩).y, (whole4 ⟨a, b, c, d⟩).z]) = y at *
  generalize Nat.beq (mulP [(whole4 ⟨a, b, c, d⟩).x, (whole4 ⟨e, f, g, i⟩).z]) (mulP [(whole4 ⟨e, f, g, i⟩).x, (whole4 ⟨a, b, c, d⟩).z]) = x at *
  cases x with
  | true => exact k1 rfl
  | false => exact k2 rfl
noncomputable def adS (w : Nat) (p q : Q4) : Q4 := sQ (sumQ (whole4 p) (whole4 q) w)
noncomputable def e145 : Entry := numsE [1, 4, 4] (nmNQQ fun w p q => r4 (adS w p q))
theorem s145_1 (w a b c d e f g i : Nat) : Sx.Spec Try.prog 145 [.agg (numC w), .agg (numCs [a, b, c, d]), .agg (numCs [e, f, g, i])] [] ⟨r4 (sumS (nq (wholeS (nq ⟨a, b, c, d⟩))) (nq (wholeS (nq ⟨e, f, g, i⟩))) (nn w)), [], []⟩ :=
  spec_of_whole (tab_ok libc1_ok) mixed Try.func145 [] 1000000 [] (by kernel_rfl) (by kernel_rfl) (by kernel_rfl) (by kernel_rfl) (by kernel_rfl) (by kernel_rfl)
    (ocons rfl onil)

theorem e145_ok : EntryOk Try.prog 145 e145 := numsE_ok fun ns h hl => by
  obtain ⟨w, a, b, c, d, e, f, g, i, rfl⟩ := ns9 h
  have hq : OkQ ⟨a, b, c, d⟩ := okq4 hl (by simp) (by simp) (by simp) (by simp)
  have hr : OkQ ⟨e, f, g, i⟩ := okq4 hl (by simp) (by simp) (by simp) (by simp)
  have k := s145_1 w a b c d e f g i
  simp only [sumS, wholeS, sQ_eq, nq_id hq, nq_id hr, nq_id (okq_whole hq), nq_id (okq_whole hr), nn_id (hl w (by simp))] at k
  show Sx.Spec _ _ _ _ ⟨r4 (adS w ⟨a, b, c, d⟩ ⟨e, f, g, i⟩), [], []⟩
  unfold adS
  rw [sQ_eq]
  exact k
def e144 : Entry := numsE [] (nm0 (vN 16295367250680780974490674513165176452449235426866156013048779062215315747161))
theorem s144_1 : Sx.Spec Try.prog 144 [] [] ⟨V.w (W.agg [C.u 16295367250680780974490674513165176452449235426866156013048779062215315747161, C.u 883373628731862213259221035491934183555837538179221795158, C.u 47887780369374421542747357753577296176, C.u 2596001775599221991]), [], []⟩ :=
  spec_of_whole (tab_ok libz0_ok) mixed Try.func144 [] 1000000 [] (by kernel_rfl) (by kernel_rfl) (by kernel_rfl) (by kernel_rfl) (by kernel_rfl) (by kernel_rfl)
    (ocons rfl (ocons rfl onil))

theorem e144_ok : EntryOk Try.prog 144 e144 := numsE_ok fun ns h hl => by
  obtain rfl : ns = [] := List.length_eq_zero_iff.1 h
  exact s144_1
/-- is (x, y) of the curve, as Make asks? -/
def makeB (a b : Nat) : Bool := Nat.beq (subP (mulP [b, b]) (mulP [a, a])) (addP [1, mulP [37095705934669439343138083508754565189542113879843219016388785533085940283555, mulP [a, a], mulP [b, b]]])
noncomputable def makeQ (a b : Nat) : Q4 := sQ (bif makeB a b then at4 a b else zero4)
noncomputable def e128 : Entry := numsE [1, 1] (nm2 fun a b => .tup [.agg (numCs [(makeQ a b).x, (makeQ a b).y, (makeQ a b).z, (makeQ a b).t]), .c (.v (.int .i64 (bif makeB a b then 0 else 22)))])
theorem s128_1 (a : Nat) (b : Nat) (h1 : (!eqNs [nn (sealN (subP (nn (sealN (mulP [nn b, nn b]))) (nn (sealN (mulP [nn a, nn a])))))] [nn (sealN (addP [1, nn (sealN (mulP [37095705934669439343138083508754565189542113879843219016388785533085940283555, nn (sealN (mulP [nn a, nn a])), nn (sealN (mulP [nn b, nn b]))]))]))]) = true) : Sx.Spec Try.prog 128 [W.agg (numC a), W.agg (numC b)] [] ⟨V.tup [W.agg [C.u 0, C.u 0, C.u 0, C.u 0, C.u 1, C.u 0, C.u 0, C.u 0, C.u 1, C.u 0, C.u 0, C.u 0, C.u 0, C.u 0, C.u 0, C.u 0], W.int IntKind.i64 22], [], []⟩ :=
  spec_of_whole (tab_ok libc1_ok) mixed Try.func128 [(27, true)] 1000000 [] (by kernel_rfl) (by kernel_rfl) (by kernel_rfl) (by kernel_rfl) (by kernel_rfl) (by kernel_rfl)
    (ocons rfl (ocons rfl (ocons rfl (ocons h1 (ocons rfl onil)))))
theorem s128_2 (a : Nat) (b : Nat) (h1 : (!!eqNs [nn (sealN (subP (nn (sealN (mulP [nn b, nn b]))) (nn (sealN (mulP [nn a, nn a])))))] [nn (sealN (addP [1, nn (sealN (mulP [37095705934669439343138083508754565189542113879843219016388785533085940283555, nn (sealN (mulP [nn a, nn a])), nn (sealN (mulP [nn b, nn b]))]))]))]) = true) : Sx.Spec Try.prog 128 [W.agg (numC a), W.agg (numC b)] [] ⟨V.tup [W.agg (numCs [nn a, nn b, 1, sealN (mulP [nn a, nn b])]), W.int IntKind.i64 0], [], []⟩ :=
  spec_of_whole (tab_ok libc1_ok) mixed Try.func128 [(27, false)] 1000000 [] (by kernel_rfl) (by kernel_rfl) (by kernel_rfl) (by kernel_rfl) (by kernel_rfl) (by kernel_rfl)
    (ocons rfl (ocons rfl (ocons rfl (ocons h1 (ocons rfl onil)))))

theorem e128_ok : EntryOk Try.prog 128 e128 := numsE_ok fun ns h hl => by
  obtain ⟨a, b, rfl⟩ := ns2 h
  have k1 := s128_1 a b
  have k2 := s128_2 a b
  simp only [sealN_eq, nn_id (hl a (by simp)), nn_id (hl b (by simp)), nnMu, nnAd, nnSb, eqNs1] at k1 k2
  show Sx.Spec _ _ _ _ ⟨.tup [.agg (numCs [(makeQ a b).x, (makeQ a b).y, (makeQ a b).z, (makeQ a b).t]), .c (.v (.int .i64 (bif makeB a b then 0 else 22)))], [], []⟩
  unfold makeQ makeB
  rw [sQ_eq]
  unfold at4
  generalize mulP [a, b] = ab at *
  generalize Nat.beq (subP (mulP [b, b]) (mulP [a, a])) (addP [1, mulP [37095705934669439343138083508754565189542113879843219016388785533085940283555, mulP [a, a], mulP [b, b]]]) = x at *
  cases x with
  | true => exact k2 rfl
  | false => exact Eq.mp (congrArg (Sx.Spec Try.prog 128 (shA [1, 1] [a, b]) []) (by kernel_rfl)) (k1 rfl)
/-- a slice of rows of so many numbers, of some lengths. -/
def varK (per : Nat) (ok : Nat → Bool) (R : List Nat → Res) : Entry := fun args ms =>
  match args, ms with
  | [.c (.sl 0 0 n)], [⟨_, .ro, .cs l⟩] => bif ok n then match nums l with
    | some (ns, o) => bif Nat.beq ns.length (per * n) then some (R ns, o) else none
    | none => none
    else none
  | _, _ => none
theorem varK_ok {f : FuncId} {per : Nat} {ok : Nat → Bool} {R : List Nat → Res} (hu : ∀ ns, (R ns).upd = []) (h : ∀ (ns : List Nat) (n : Nat), ok n = true → ns.length = per * n → (∀ n ∈ ns, n < P256) → Sx.Spec Try.prog f [.c (.sl 0 0 n)] [⟨0, .ro, .cs (numCs ns)⟩] (R ns)) : EntryOk Try.prog f (varK per ok R) := by
  intro args ms r obs he ho
  unfold varK at he
  split at he
  · rename_i n ty l
    cases hk : ok n with
    | false => simp [hk] at he
    | true =>
      rw [hk, cond_true] at he
      split at he
      · rename_i ns o hn
        cases hb : Nat.beq ns.length (per * n) with
        | false => simp [hb] at he
        | true =>
          simp only [hb, cond_true, Option.some.injEq, Prod.mk.injEq] at he
          obtain ⟨rfl, rfl⟩ := he
          obtain ⟨h1, h2, h3⟩ := nums_ok hn ho
          have hs := h ns n hk (Nat.beq_eq.mp hb) h1
          refine Spec.ro (hu ns) (nums_ids hn) (by simp only [K.len, h2, numCs_length]) (fun ρ read hk => ?_) hs
          obtain ⟨vs, hl, hv, hi⟩ := K.Is.list hk
          have := h3 ρ vs ((K.Is.congr_cs hl).1 hi) ρ
          have hl2 : vs.length = (numCs ns).length := by rw [numCs_length, ← h2]; exact hl
          exact ((K.Is.congr_cs hl2).2 this).read fun i y _ hy => hv i y hy
      · cases he
  · cases he
/-- sums of so many points. -/
def addQs : List Nat → Q4 → Q4
  | a :: b :: c :: d :: r, q => addQs r (sumQ q (whole4 ⟨a, b, c, d⟩) 16295367250680780974490674513165176452449235426866156013048779062215315747161)
  | _, q => q
noncomputable def addsS (ns : List Nat) : Q4 := sQ (addQs ns zero4)
def is023 (n : Nat) : Bool := Nat.beq n 2 || (Nat.beq n 3 || Nat.beq n 0)
noncomputable def e142 : Entry := varK 4 is023 fun ns => ⟨r4 (addsS ns), [], []⟩
theorem s142z_1 : Sx.Spec Try.prog 142 [W.c (C.sl 0 0 0)] [Blk.mk 0 Mode.ro (K.cs [])] ⟨V.w (W.agg [C.u 0, C.u 0, C.u 0, C.u 0, C.u 1, C.u 0, C.u 0, C.u 0, C.u 1, C.u 0, C.u 0, C.u 0, C.u 0, C.u 0, C.u 0, C.u 0]), [], []⟩ :=
  spec_of_whole (tab_ok libc1_ok) mixed Try.func142 [] 1000000 [(0, none)] (by kernel_rfl) (by kernel_rfl) (by kernel_rfl) (by kernel_rfl) (by kernel_rfl) (by kernel_rfl)
    (ocons rfl (ocons rfl onil))

theorem s142b (a b c d e g h i : Nat) : Sx.Spec Try.prog 142 [.c (.sl 0 0 2)] [⟨0, .ro, .cs (numCs [a, b, c, d, e, g, h, i])⟩] ⟨r4 (sumS (nq (sumS zero4 (nq (wholeS (nq ⟨a, b, c, d⟩))) (nn (sealN 16295367250680780974490674513165176452449235426866156013048779062215315747161)))) (nq (wholeS (nq ⟨e, g, h, i⟩))) (nn (sealN 16295367250680780974490674513165176452449235426866156013048779062215315747161))), [], []⟩ :=
  spec_of_whole (tab_ok libc1_ok) mixed Try.func142 [] 1000000 [(0, none)] (by kernel_rfl) (by kernel_rfl) (by kernel_rfl) (by kernel_rfl) (by kernel_rfl) (by kernel_rfl)
    (ocons rfl (ocons rfl (ocons rfl (ocons rfl (ocons rfl (ocons rfl (ocons rfl (ocons rfl (ocons rfl (ocons rfl (ocons rfl (ocons rfl onil))))))))))))

theorem s142c (a b c d e g h i j k m o : Nat) : Sx.Spec Try.prog 142 [.c (.sl 0 0 3)] [⟨0, .ro, .cs (numCs [a, b, c, d, e, g, h, i, j, k, m, o])⟩] ⟨r4 (sumS (nq (sumS (nq (sumS zero4 (nq (wholeS (nq ⟨a, b, c, d⟩))) (nn (sealN 16295367250680780974490674513165176452449235426866156013048779062215315747161)))) (nq (wholeS (nq ⟨e, g, h, i⟩))) (nn (sealN 16295367250680780974490674513165176452449235426866156013048779062215315747161)))) (nq (wholeS (nq ⟨j, k, m, o⟩))) (nn (sealN 16295367250680780974490674513165176452449235426866156013048779062215315747161))), [], []⟩ :=
  spec_of_whole (tab_ok libc1_ok) mixed Try.func142 [] 1000000 [(0, none)] (by kernel_rfl) (by kernel_rfl) (by kernel_rfl) (by kernel_rfl) (by kernel_rfl) (by kernel_rfl)
    (ocons rfl (ocons rfl (ocons rfl (ocons rfl (ocons rfl (ocons rfl (ocons rfl (ocons rfl (ocons rfl (ocons rfl (ocons rfl (ocons rfl (ocons rfl (ocons rfl (ocons rfl (ocons rfl onil))))))))))))))))

theorem e142_ok : EntryOk Try.prog 142 e142 := varK_ok (fun _ => rfl) fun ns n hk h hl => by
  have tw : nn (sealN 16295367250680780974490674513165176452449235426866156013048779062215315747161) = 16295367250680780974490674513165176452449235426866156013048779062215315747161 := by rw [sealN_eq]; decide +kernel
  unfold is023 at hk
  rw [Bool.or_eq_true, Bool.or_eq_true, Nat.beq_eq, Nat.beq_eq, Nat.beq_eq] at hk
  unfold addsS
  rw [sQ_eq]
  rcases hk with rfl | rfl | rfl
  · match ns, h with
    | [a, b, c, d, e, f, g, i], _ =>
      have hq : OkQ ⟨a, b, c, d⟩ := okq4 hl (by simp) (by simp) (by simp) (by simp)
      have hr : OkQ ⟨e, f, g, i⟩ := okq4 hl (by simp) (by simp) (by simp) (by simp)
      have k := s142b a b c d e f g i
      simp only [sumS, wholeS, sQ_eq, tw, nq_id hq, nq_id hr, nq_id (okq_whole hq), nq_id (okq_whole hr), nq_id (okq_sum _ _ _)] at k
      exact k
  · match ns, h with
    | [a, b, c, d, e, f, g, i, j, l, m, o], _ =>
      have hq : OkQ ⟨a, b, c, d⟩ := okq4 hl (by simp) (by simp) (by simp) (by simp)
      have hr : OkQ ⟨e, f, g, i⟩ := okq4 hl (by simp) (by simp) (by simp) (by simp)
      have hs : OkQ ⟨j, l, m, o⟩ := okq4 hl (by simp) (by simp) (by simp) (by simp)
      have k := s142c a b c d e f g i j l m o
      simp only [sumS, wholeS, sQ_eq, tw, nq_id hq, nq_id hr, nq_id hs, nq_id (okq_whole hq), nq_id (okq_whole hr), nq_id (okq_whole hs), nq_id (okq_sum _ _ _)] at k
      exact k
  · match ns, h with
    | [], _ => exact s142z_1
noncomputable def libc2 : List (Nat × Entry) := [(128, e128), (130, e130), (142, e142), (143, e143), (144, e144), (145, e145), (146, e146), (231, e231)] ++ libc1
theorem libc2_ok : AllOk Try.prog libc2 := .cons e128_ok (.cons e130_ok (.cons e142_ok (.cons e143_ok (.cons e144_ok (.cons e145_ok (.cons e146_ok (.cons e231_ok libc1_ok)))))))
end Go.Proofs.Ytmjejlbmcefaoaa
namespace Go.Proofs.Ytmjejlbmcefaoaa
open Go Sx
def r3 (q : Q3) : V := .w (.agg (numCs [q.x, q.y, q.z]))
def nmR (f : Q3 → V) : List Nat → Res
  | [a, b, c] => ⟨f ⟨a, b, c⟩, [], []⟩
  | _ => ⟨f zero3, [], []⟩
def nmRRN (f : Q3 → Q3 → Nat → V) : List Nat → Res
  | [a, b, c, e, g, h, w] => ⟨f ⟨a, b, c⟩ ⟨e, g, h⟩ w, [], []⟩
  | _ => ⟨f zero3 zero3 0, [], []⟩
def nmNRN (f : Nat → Q3 → Nat → V) : List Nat → Res
  | [k, a, b, c, w] => ⟨f k ⟨a, b, c⟩ w, [], []⟩
  | _ => ⟨f 0 zero3 0, [], []⟩
def nmQR (f : Q4 → Q3 → V) : List Nat → Res
  | [a, b, c, d, e, g, h] => ⟨f ⟨a, b, c, d⟩ ⟨e, g, h⟩, [], []⟩
  | _ => ⟨f zero4 zero3, [], []⟩
def e137 : Entry := numsE [] (nm0 (r3 zero3))
def e139 : Entry := numsE [] (nm0 (vN 37095705934669439343138083508754565189542113879843219016388785533085940283555))
def e133 : Entry := numsE [1, 1] (nm2 fun a b => r3 (at3 a b))
theorem s137_1 : Sx.Spec Try.prog 137 [] [] ⟨V.w (W.agg [C.u 0, C.u 0, C.u 0, C.u 0, C.u 1, C.u 0, C.u 0, C.u 0, C.u 1, C.u 0, C.u 0, C.u 0]), [], []⟩ :=
  spec_of_whole (tab_ok libr3_ok) mixed Try.func137 [] 1000000 [] (by kernel_rfl) (by kernel_rfl) (by kernel_rfl) (by kernel_rfl) (by kernel_rfl) (by kernel_rfl)
    (ocons rfl (ocons rfl (ocons rfl onil)))

theorem e137_ok : EntryOk Try.prog 137 e137 := numsE_ok fun ns h hl => by
  obtain rfl : ns = [] := List.length_eq_zero_iff.1 h
  exact Eq.mp (congrArg (Sx.Spec Try.prog 137 [] []) (by kernel_rfl)) s137_1
theorem s139_1 : Sx.Spec Try.prog 139 [] [] ⟨V.w (W.agg [C.u 37095705934669439343138083508754565189542113879843219016388785533085940283555, C.u 2010962248212601297588557873547883695803507630205619525803, C.u 109014481914921826637217330734730700952, C.u 5909686906226998899]), [], []⟩ :=
  spec_of_whole (tab_ok libr3_ok) mixed Try.func139 [] 1000000 [] (by kernel_rfl) (by kernel_rfl) (by kernel_rfl) (by kernel_rfl) (by kernel_rfl) (by kernel_rfl)
    (ocons rfl (ocons rfl (ocons rfl (ocons rfl onil))))

theorem e139_ok : EntryOk Try.prog 139 e139 := numsE_ok fun ns h hl => by
  obtain rfl : ns = [] := List.length_eq_zero_iff.1 h
  exact Eq.mp (congrArg (Sx.Spec Try.prog 139 [] []) (by kernel_rfl)) s139_1
theorem s133_1 (a : Nat) (b : Nat) : Sx.Spec Try.prog 133 [W.agg (numC a), W.agg (numC b)] [] ⟨V.w (W.agg [C.u a, C.u (a / 18446744073709551616), C.u (a / 340282366920938463463374607431768211456), C.u (a / 6277101735386680763835789423207666416102355444464034512896), C.u b, C.u (b / 18446744073709551616), C.u (b / 340282366920938463463374607431768211456), C.u (b / 6277101735386680763835789423207666416102355444464034512896), C.u 1, C.u 0, C.u 0, C.u 0]), [], []⟩ :=
  spec_of_whole (tab_ok libcs_ok) mixed Try.func133 [] 1000000 [] (by kernel_rfl) (by kernel_rfl) (by kernel_rfl) (by kernel_rfl) (by kernel_rfl) (by kernel_rfl)
    (ocons rfl (ocons rfl onil))

theorem e133_ok : EntryOk Try.prog 133 e133 := numsE_ok fun ns h hl => by
  obtain ⟨a, b, rfl⟩ := ns2 h
  have k := s133_1 a b
  exact Eq.mp (congrArg (Sx.Spec Try.prog 133 (shA [1, 1] [a, b]) []) (by kernel_rfl)) k
theorem ns3 {ns : List Nat} (h : ns.length = 3) : ∃ a b c, ns = [a, b, c] := by
  match ns, h with
  | [a, b, c], _ => exact ⟨a, b, c, rfl⟩
theorem ns5 {ns : List Nat} (h : ns.length = 5) : ∃ a b c d e, ns = [a, b, c, d, e] := by
  match ns, h with
  | [a, b, c, d, e], _ => exact ⟨a, b, c, d, e, rfl⟩
theorem ns7 {ns : List Nat} (h : ns.length = 7) : ∃ a b c d e f g, ns = [a, b, c, d, e, f, g] := by
  match ns, h with
  | [a, b, c, d, e, f, g], _ => exact ⟨a, b, c, d, e, f, g, rfl⟩
theorem nnR (x : Nat) : nn (x % 57896044618658097711785492504343953926634992332820282019728792003956564819949) = x % 57896044618658097711785492504343953926634992332820282019728792003956564819949 := nn_p (Nat.mod_lt _ (by decide))
theorem subQ_lt (a b : Nat) : subQ a b < 57896044618658097711785492504343953926634992332820282019728792003956564819949 := Nat.mod_lt _ (by decide)
theorem nnQs (a b : Nat) : nn (subQ a b) = subQ a b := nn_p (subQ_lt a b)
noncomputable def addRS (p q : Q3) (d : Nat) : Q3 := sR (addR p q d)
noncomputable def e147 : Entry := numsE [3, 3, 1] (nmRRN fun p q d => r3 (addRS p q d))
theorem s147_1 (a : Nat) (b : Nat) (c : Nat) (e : Nat) (g : Nat) (h : Nat) (w : Nat) : Sx.Spec Try.prog 147 [W.agg (numCs [a, b, c]), W.agg (numCs [e, g, h]), W.agg (numC w)] [] ⟨V.w (W.agg (numCs [sealN (nn (sealN (nn (sealN (nn c * nn h % 57896044618658097711785492504343953926634992332820282019728792003956564819949)) * nn (sealN ((nn (sealN (nn a * nn g % 57896044618658097711785492504343953926634992332820282019728792003956564819949)) + nn (sealN (nn b * nn e % 57896044618658097711785492504343953926634992332820282019728792003956564819949))) % 57896044618658097711785492504343953926634992332820282019728792003956564819949)) % 57896044618658097711785492504343953926634992332820282019728792003956564819949)) * nn (sealN (subQ (nn (sealN (nn (sealN (nn c * nn h % 57896044618658097711785492504343953926634992332820282019728792003956564819949)) * nn (sealN (nn c * nn h % 57896044618658097711785492504343953926634992332820282019728792003956564819949)) % 57896044618658097711785492504343953926634992332820282019728792003956564819949))) (nn (sealN (nn w * nn (sealN (nn (sealN (nn a * nn e % 57896044618658097711785492504343953926634992332820282019728792003956564819949)) * nn (sealN (nn b * nn g % 57896044618658097711785492504343953926634992332820282019728792003956564819949)) % 57896044618658097711785492504343953926634992332820282019728792003956564819949)) % 57896044618658097711785492504343953926634992332820282019728792003956564819949))))) % 57896044618658097711785492504343953926634992332820282019728792003956564819949), sealN (nn (sealN (nn (sealN (nn c * nn h % 57896044618658097711785492504343953926634992332820282019728792003956564819949)) * nn (sealN ((nn (sealN (nn b * nn g % 57896044618658097711785492504343953926634992332820282019728792003956564819949)) + nn (sealN (nn a * nn e % 57896044618658097711785492504343953926634992332820282019728792003956564819949))) % 57896044618658097711785492504343953926634992332820282019728792003956564819949)) % 57896044618658097711785492504343953926634992332820282019728792003956564819949)) * nn (sealN ((nn (sealN (nn (sealN (nn c * nn h % 57896044618658097711785492504343953926634992332820282019728792003956564819949)) * nn (sealN (nn c * nn h % 57896044618658097711785492504343953926634992332820282019728792003956564819949)) % 57896044618658097711785492504343953926634992332820282019728792003956564819949)) + nn (sealN (nn w * nn (sealN (nn (sealN (nn a * nn e % 57896044618658097711785492504343953926634992332820282019728792003956564819949)) * nn (sealN (nn b * nn g % 57896044618658097711785492504343953926634992332820282019728792003956564819949)) % 57896044618658097711785492504343953926634992332820282019728792003956564819949)) % 57896044618658097711785492504343953926634992332820282019728792003956564819949))) % 57896044618658097711785492504343953926634992332820282019728792003956564819949)) % 57896044618658097711785492504343953926634992332820282019728792003956564819949), sealN (nn (sealN (subQ (nn (sealN (nn (sealN (nn c * nn h % 57896044618658097711785492504343953926634992332820282019728792003956564819949)) * nn (sealN (nn c * nn h % 57896044618658097711785492504343953926634992332820282019728792003956564819949)) % 57896044618658097711785492504343953926634992332820282019728792003956564819949))) (nn (sealN (nn w * nn (sealN (nn (sealN (nn a * nn e % 57896044618658097711785492504343953926634992332820282019728792003956564819949)) * nn (sealN (nn b * nn g % 57896044618658097711785492504343953926634992332820282019728792003956564819949)) % 57896044618658097711785492504343953926634992332820282019728792003956564819949)) % 57896044618658097711785492504343953926634992332820282019728792003956564819949))))) * nn (sealN ((nn (sealN (nn (sealN (nn c * nn h % 57896044618658097711785492504343953926634992332820282019728792003956564819949)) * nn (sealN (nn c * nn h % 57896044618658097711785492504343953926634992332820282019728792003956564819949)) % 57896044618658097711785492504343953926634992332820282019728792003956564819949)) + nn (sealN (nn w * nn (sealN (nn (sealN (nn a * nn e % 57896044618658097711785492504343953926634992332820282019728792003956564819949)) * nn (sealN (nn b * nn g % 57896044618658097711785492504343953926634992332820282019728792003956564819949)) % 57896044618658097711785492504343953926634992332820282019728792003956564819949)) % 57896044618658097711785492504343953926634992332820282019728792003956564819949))) % 57896044618658097711785492504343953926634992332820282019728792003956564819949)) % 57896044618658097711785492504343953926634992332820282019728792003956564819949)])), [], []⟩ :=
  spec_of_whole (tab_ok libcs_ok) mixed Try.func147 [] 1000000 [] (by kernel_rfl) (by kernel_rfl) (by kernel_rfl) (by kernel_rfl) (by kernel_rfl) (by kernel_rfl)
    (ocons rfl (ocons rfl (ocons rfl (ocons rfl (ocons rfl (ocons rfl (ocons rfl (ocons rfl (ocons rfl onil)))))))))

theorem e147_ok : EntryOk Try.prog 147 e147 := numsE_ok fun ns h hl => by
  obtain ⟨a, b, c, e, f, g, w, rfl⟩ := ns7 h
  have k := s147_1 a b c e f g w
  simp only [sealN_eq, nnR, nnQs, nn_id (hl a (by simp)), nn_id (hl b (by simp)), nn_id (hl c (by simp)), nn_id (hl e (by simp)), nn_id (hl f (by simp)), nn_id (hl g (by simp)), nn_id (hl w (by simp))] at k
  show Sx.Spec _ _ _ _ ⟨r3 (addRS ⟨a, b, c⟩ ⟨e, f, g⟩ w), [], []⟩
  unfold addRS
  rw [sR_eq]
  exact k
def sqR (y : Nat) : Nat := subQ (y * y % 57896044618658097711785492504343953926634992332820282019728792003956564819949) 1 * powP ((37095705934669439343138083508754565189542113879843219016388785533085940283555 * (y * y % 57896044618658097711785492504343953926634992332820282019728792003956564819949) % 57896044618658097711785492504343953926634992332820282019728792003956564819949 + 1) % 57896044618658097711785492504343953926634992332820282019728792003956564819949) 57896044618658097711785492504343953926634992332820282019728792003956564819947 % 57896044618658097711785492504343953926634992332820282019728792003956564819949
noncomputable def e234 : Entry := numsE [1] (nm1 fun y => vN (sealN (sqR y)))
def e234u : Entry := numsE [1] (nm1 fun y => vN (sqR y))
noncomputable def lcvq : List (Nat × Entry) := [(139, e139)] ++ libcs
theorem lcvq_ok : AllOk Try.prog lcvq := .cons e139_ok libcs_ok
theorem s234_1 (a : Nat) : Sx.Spec Try.prog 234 [W.agg (numC a)] [] ⟨V.w (W.agg (numC (sealN (nn (sealN (subQ (nn (sealN (nn a * nn a % 57896044618658097711785492504343953926634992332820282019728792003956564819949))) 1)) * nn (sealN (powP (nn (sealN ((nn (sealN (37095705934669439343138083508754565189542113879843219016388785533085940283555 * nn (sealN (nn a * nn a % 57896044618658097711785492504343953926634992332820282019728792003956564819949)) % 57896044618658097711785492504343953926634992332820282019728792003956564819949)) + 1) % 57896044618658097711785492504343953926634992332820282019728792003956564819949))) 57896044618658097711785492504343953926634992332820282019728792003956564819947)) % 57896044618658097711785492504343953926634992332820282019728792003956564819949)))), [], []⟩ :=
  spec_of_whole (tab_ok lcvq_ok) mixed Try.func234 [] 1000000 [] (by kernel_rfl) (by kernel_rfl) (by kernel_rfl) (by kernel_rfl) (by kernel_rfl) (by kernel_rfl)
    (ocons rfl (ocons rfl (ocons rfl (ocons rfl onil))))

theorem e234_ok : EntryOk Try.prog 234 e234 := numsE_ok fun ns h hl => by
  obtain ⟨a, rfl⟩ := ns1 h
  have k := s234_1 a
  simp only [sealN_eq, nnR, nnQs, nnPw, nn_id (hl a (by simp))] at k
  show Sx.Spec _ _ _ _ ⟨vN (sealN (sqR a)), [], []⟩
  rw [sealN_eq]
  exact k
theorem e234u_ok : EntryOk Try.prog 234 e234u := by
  have h : e234u = e234 := by
    unfold e234u e234
    simp only [sealN_eq]
  rw [h]
  exact e234_ok
noncomputable def lcv0 : List (Nat × Entry) := [(137, e137), (139, e139), (133, e133), (234, e234)] ++ libc2
def lcv0u : List (Nat × Entry) := [(137, e137), (139, e139), (133, e133), (234, e234u)] ++ libz0
theorem lcv0_ok : AllOk Try.prog lcv0 := .cons e137_ok (.cons e139_ok (.cons e133_ok (.cons e234_ok libc2_ok)))
theorem lcv0u_ok : AllOk Try.prog lcv0u := .cons e137_ok (.cons e139_ok (.cons e133_ok (.cons e234u_ok libz0_ok)))
noncomputable def lcv1 : List (Nat × Entry) := [(147, e147)] ++ lcv0
theorem lcv1_ok : AllOk Try.prog lcv1 := .cons e147_ok lcv0_ok
noncomputable def negRS (p : Q3) : Q3 := sR (negR p)
noncomputable def e148 : Entry := numsE [3] (nmR fun p => r3 (negRS p))
theorem s148_1 (a : Nat) (b : Nat) (c : Nat) : Sx.Spec Try.prog 148 [W.agg (numCs [a, b, c])] [] ⟨V.w (W.agg (numCs [sealN (subQ 0 (nn a)), b, c])), [], []⟩ :=
  spec_of_whole (tab_ok lcv0_ok) mixed Try.func148 [] 1000000 [] (by kernel_rfl) (by kernel_rfl) (by kernel_rfl) (by kernel_rfl) (by kernel_rfl) (by kernel_rfl)
    (ocons rfl (ocons rfl onil))

theorem e148_ok : EntryOk Try.prog 148 e148 := numsE_ok fun ns h hl => by
  obtain ⟨a, b, c, rfl⟩ := ns3 h
  have k := s148_1 a b c
  rw [sealN_eq, nn_id (hl a (by simp))] at k
  show Sx.Spec _ _ _ _ ⟨r3 (negRS ⟨a, b, c⟩), [], []⟩
  unfold negRS
  rw [sR_eq]
  exact k
def xrX (p : Q3) : Nat := p.x * powP p.z 57896044618658097711785492504343953926634992332820282019728792003956564819947 % 57896044618658097711785492504343953926634992332820282019728792003956564819949
def xrY (p : Q3) : Nat := p.y * powP p.z 57896044618658097711785492504343953926634992332820282019728792003956564819947 % 57896044618658097711785492504343953926634992332820282019728792003956564819949
noncomputable def e232 : Entry := numsE [3] (nmR fun p => .tup [.agg (numC (sealN (xrX p))), .agg (numC (sealN (xrY p)))])
theorem s232_1 (a : Nat) (b : Nat) (c : Nat) : Sx.Spec Try.prog 232 [W.agg (numCs [a, b, c])] [] ⟨V.tup [W.agg (numC (sealN (nn a * nn (sealN (powP (nn c) 57896044618658097711785492504343953926634992332820282019728792003956564819947)) % 57896044618658097711785492504343953926634992332820282019728792003956564819949))), W.agg (numC (sealN (nn b * nn (sealN (powP (nn c) 57896044618658097711785492504343953926634992332820282019728792003956564819947)) % 57896044618658097711785492504343953926634992332820282019728792003956564819949)))], [], []⟩ :=
  spec_of_whole (tab_ok lcv0_ok) mixed Try.func232 [] 1000000 [] (by kernel_rfl) (by kernel_rfl) (by kernel_rfl) (by kernel_rfl) (by kernel_rfl) (by kernel_rfl)
    (ocons rfl (ocons rfl (ocons rfl onil)))

theorem e232_ok : EntryOk Try.prog 232 e232 := numsE_ok fun ns h hl => by
  obtain ⟨a, b, c, rfl⟩ := ns3 h
  have k := s232_1 a b c
  simp only [sealN_eq, nnPw, nn_id (hl a (by simp)), nn_id (hl b (by simp)), nn_id (hl c (by simp))] at k
  show Sx.Spec _ _ _ _ ⟨.tup [.agg (numC (sealN (xrX ⟨a, b, c⟩))), .agg (numC (sealN (xrY ⟨a, b, c⟩)))], [], []⟩
  rw [sealN_eq, sealN_eq]
  exact k
def isC (a b : Nat) : Bool := Nat.beq (subQ (b * b % 57896044618658097711785492504343953926634992332820282019728792003956564819949) (a * a % 57896044618658097711785492504343953926634992332820282019728792003956564819949)) ((1 + 37095705934669439343138083508754565189542113879843219016388785533085940283555 * (a * a % 57896044618658097711785492504343953926634992332820282019728792003956564819949 * (b * b % 57896044618658097711785492504343953926634992332820282019728792003956564819949) % 57896044618658097711785492504343953926634992332820282019728792003956564819949) % 57896044618658097711785492504343953926634992332820282019728792003956564819949) % 57896044618658097711785492504343953926634992332820282019728792003956564819949)
def e129 : Entry := numsE [1, 1] (nm2 fun a b => V.bool (isC a b))
theorem s129_1 (a : Nat) (b : Nat) : Sx.Spec Try.prog 129 [W.agg (numC a), W.agg (numC b)] [] ⟨V.bool (eqNs [nn (sealN (subQ (nn (sealN (nn b * nn b % 57896044618658097711785492504343953926634992332820282019728792003956564819949))) (nn (sealN (nn a * nn a % 57896044618658097711785492504343953926634992332820282019728792003956564819949)))))] [nn (sealN ((1 + nn (sealN (37095705934669439343138083508754565189542113879843219016388785533085940283555 * nn (sealN (nn (sealN (nn a * nn a % 57896044618658097711785492504343953926634992332820282019728792003956564819949)) * nn (sealN (nn b * nn b % 57896044618658097711785492504343953926634992332820282019728792003956564819949)) % 57896044618658097711785492504343953926634992332820282019728792003956564819949)) % 57896044618658097711785492504343953926634992332820282019728792003956564819949))) % 57896044618658097711785492504343953926634992332820282019728792003956564819949))]), [], []⟩ :=
  spec_of_whole (tab_ok lcv0_ok) mixed Try.func129 [] 1000000 [] (by kernel_rfl) (by kernel_rfl) (by kernel_rfl) (by kernel_rfl) (by kernel_rfl) (by kernel_rfl)
    (ocons rfl (ocons rfl (ocons rfl onil)))

theorem e129_ok : EntryOk Try.prog 129 e129 := numsE_ok fun ns h hl => by
  obtain ⟨a, b, rfl⟩ := ns2 h
  have k := s129_1 a b
  simp only [sealN_eq, nnR, nnQs, eqNs1, nn_id (hl a (by simp)), nn_id (hl b (by simp))] at k
  exact k
def e136 : Entry := numsE [] (nm0 (r3 base3))
def e135 : Entry := numsE [] (nm0 (r4 base4))
theorem s136_1 : Sx.Spec Try.prog 136 [] [] ⟨V.w (W.agg [C.u 15112221349535400772501151409588531511454012693041857206046113283949847762202, C.u 819235160912405159066887776110682545480340914253941024690, C.u 44410827061887073916105350349541792860, C.u 2407515759118799870, C.u 46316835694926478169428394003475163141307993866256225615783033603165251855960, C.u 2510840694154672305534315769283066566440942177785613805158, C.u 136112946768375385385349842972707284582, C.u 7378697629483820646, C.u 1, C.u 0, C.u 0, C.u 0]), [], []⟩ :=
  spec_of_whole (tab_ok lcv0u_ok) mixed Try.func136 [] 1000000 [] (by kernel_rfl) (by kernel_rfl) (by kernel_rfl) (by kernel_rfl) (by kernel_rfl) (by kernel_rfl)
    (ocons rfl (ocons rfl (ocons rfl (ocons rfl (ocons rfl onil)))))

theorem e136_ok : EntryOk Try.prog 136 e136 := numsE_ok fun ns h hl => by
  obtain rfl : ns = [] := List.length_eq_zero_iff.1 h
  exact Eq.mp (congrArg (Sx.Spec Try.prog 136 [] []) (by kernel_rfl)) s136_1
theorem s135_1 : Sx.Spec Try.prog 135 [] [] ⟨V.w (W.agg [C.u 15112221349535400772501151409588531511454012693041857206046113283949847762202, C.u 819235160912405159066887776110682545480340914253941024690, C.u 44410827061887073916105350349541792860, C.u 2407515759118799870, C.u 46316835694926478169428394003475163141307993866256225615783033603165251855960, C.u 2510840694154672305534315769283066566440942177785613805158, C.u 136112946768375385385349842972707284582, C.u 7378697629483820646, C.u 1, C.u 0, C.u 0, C.u 0, C.u 46827403850823179245072216630277197565144205554125654976674165829533817101731, C.u 2538518649345928356404247047850845961214979364742363173621, C.u 137613371725791198171896662509163897725, C.u 7460035829407905381]), [], []⟩ :=
  spec_of_whole (tab_ok lcv0u_ok) mixed Try.func135 [] 1000000 [] (by kernel_rfl) (by kernel_rfl) (by kernel_rfl) (by kernel_rfl) (by kernel_rfl) (by kernel_rfl)
    (ocons rfl (ocons rfl (ocons rfl (ocons rfl (ocons rfl (ocons rfl (ocons rfl (ocons rfl (ocons rfl (ocons rfl onil))))))))))

theorem e135_ok : EntryOk Try.prog 135 e135 := numsE_ok fun ns h hl => by
  obtain rfl : ns = [] := List.length_eq_zero_iff.1 h
  exact Eq.mp (congrArg (Sx.Spec Try.prog 135 [] []) (by kernel_rfl)) s135_1
noncomputable def s233k0 : List Item := kAt Try.prog (tab lcv1) Try.f233 [] 0 [W.agg [C.u 1, C.u 0, C.u 0, C.u 0], W.agg [C.u 1, C.u 0, C.u 0, C.u 0, C.u 1, C.u 0, C.u 0, C.u 0, C.u 1, C.u 0, C.u 0, C.u 0], W.agg [C.u 1, C.u 0, C.u 0, C.u 0]] []
def nq3 (q : Q3) : Q3 := ⟨nn q.x, nn q.y, nn q.z⟩
noncomputable def stR (k : Nat) (p : Q3) (d : Nat) (t9 : Int) (q : Q3) : Cfg := cfg s233k0 [4, 5, 6, 7, 8, 9] [V.w (W.c (C.ptr 0 0)), V.w (W.c (C.ptr 1 0)), V.w (W.c (C.ptr 2 0)), V.w (W.c (C.own 3)), V.w (W.c (C.ptr 4 0)), V.int .i64 t9] [⟨136, .rw, .cs (numCs [p.x, p.y, p.z])⟩, ⟨79, .rw, .cs (numC d)⟩, ⟨136, .rw, .cs (numCs [0, 0, 0])⟩, ⟨22, .own 16, .ints .u64 (lim 16 (nn k))⟩, ⟨136, .rw, .cs (numCs [(q).x, (q).y, (q).z])⟩]
theorem s233a {ρ : Env} {w : World} {r : Res} (k : Nat) (p : Q3) (d : Nat) (hg : G (mkX Try.prog (tab lcv1) Try.f233 [] ρ w r) (stR k p d 255 zero3)) : G (mkX Try.prog (tab lcv1) Try.f233 [] ρ w r) (cfg [.code (Try.f233.body.getD .skip)] (List.range 3) ([.agg (numC k), .agg (numCs [p.x, p.y, p.z]), .agg (numC d)].map V.w) []) :=
  G.seg (X := mkX Try.prog (tab lcv1) Try.f233 [] ρ w r) ⟨tab_ok lcv1_ok, mixed⟩ [] 1000000 0 [4, 5, 6, 7, 8, 9] [(4, none), (8, none), (12, none), (20, none), (32, none)] (k := s233k0) (vs := [V.w (W.c (C.ptr 0 0)), V.w (W.c (C.ptr 1 0)), V.w (W.c (C.ptr 2 0)), V.w (W.c (C.own 3)), V.w (W.c (C.ptr 4 0)), V.int .i64 255]) (bs := [⟨136, .rw, .cs (numCs [p.x, p.y, p.z])⟩, ⟨79, .rw, .cs (numC d)⟩, ⟨136, .rw, .cs (numCs [0, 0, 0])⟩, ⟨22, .own 16, .ints .u64 (lim 16 (nn k))⟩, ⟨136, .rw, .cs (numCs [(zero3).x, (zero3).y, (zero3).z])⟩]) (by kernel_rfl) (by kernel_rfl)
    (ocons rfl onil) hg
theorem s233b {ρ : Env} {w : World} {r : Res} (k : Nat) (p : Q3) (d : Nat) (t9 : Int) (q : Q3) (h1 : t9 ≥ 0) (h2 : (lim 16 (nn k)).length = 16) (h3 : limOk (lim 16 (nn k)) = true) (h4 : 0 ≤ t9) (h5 : t9 ≤ 16000000000) (h6 : ((bitL (lim 16 (nn k)) t9 : Nat) : Int) = 1) (hg : G (mkX Try.prog (tab lcv1) Try.f233 [] ρ w r) (stR k p d (IntKind.wrap .i64 (t9 - 1)) (addRS (nq3 (addRS (nq3 q) (nq3 q) (nn d))) (nq3 p) (nn d)))) : G (mkX Try.prog (tab lcv1) Try.f233 [] ρ w r) (stR k p d t9 q) :=
  G.seg (X := mkX Try.prog (tab lcv1) Try.f233 [] ρ w r) ⟨tab_ok lcv1_ok, mixed⟩ [(14, true), (24, true)] 1000000 0 [4, 5, 6, 7, 8, 9] [(0, none), (1, none), (2, none), (3, none), (4, none)] (k := s233k0) (vs := [V.w (W.c (C.ptr 0 0)), V.w (W.c (C.ptr 1 0)), V.w (W.c (C.ptr 2 0)), V.w (W.c (C.own 3)), V.w (W.c (C.ptr 4 0)), V.int .i64 (IntKind.wrap .i64 (t9 - 1))]) (bs := [⟨136, .rw, .cs (numCs [p.x, p.y, p.z])⟩, ⟨79, .rw, .cs (numC d)⟩, ⟨136, .rw, .cs (numCs [0, 0, 0])⟩, ⟨22, .own 16, .ints .u64 (lim 16 (nn k))⟩, ⟨136, .rw, .cs (numCs [(addRS (nq3 (addRS (nq3 q) (nq3 q) (nn d))) (nq3 p) (nn d)).x, (addRS (nq3 (addRS (nq3 q) (nq3 q) (nn d))) (nq3 p) (nn d)).y, (addRS (nq3 (addRS (nq3 q) (nq3 q) (nn d))) (nq3 p) (nn d)).z])⟩]) (by kernel_rfl) (by kernel_rfl)
    (ocons (decide_eq_true h1) (ocons rfl (ocons (beqT h2) (ocons h3 (ocons (decide_eq_true h4) (ocons (decide_eq_true h5) (ocons (eqI h6) (ocons rfl onil)))))))) hg
theorem s233c {ρ : Env} {w : World} {r : Res} (k : Nat) (p : Q3) (d : Nat) (t9 : Int) (q : Q3) (h1 : t9 ≥ 0) (h2 : (lim 16 (nn k)).length = 16) (h3 : limOk (lim 16 (nn k)) = true) (h4 : 0 ≤ t9) (h5 : t9 ≤ 16000000000) (h6 : ¬ ((bitL (lim 16 (nn k)) t9 : Nat) : Int) = 1) (hg : G (mkX Try.prog (tab lcv1) Try.f233 [] ρ w r) (stR k p d (IntKind.wrap .i64 (t9 - 1)) (addRS (nq3 q) (nq3 q) (nn d)))) : G (mkX Try.prog (tab lcv1) Try.f233 [] ρ w r) (stR k p d t9 q) :=
  G.seg (X := mkX Try.prog (tab lcv1) Try.f233 [] ρ w r) ⟨tab_ok lcv1_ok, mixed⟩ [(14, true), (24, false)] 1000000 0 [4, 5, 6, 7, 8, 9] [(0, none), (1, none), (2, none), (3, none), (4, none)] (k := s233k0) (vs := [V.w (W.c (C.ptr 0 0)), V.w (W.c (C.ptr 1 0)), V.w (W.c (C.ptr 2 0)), V.w (W.c (C.own 3)), V.w (W.c (C.ptr 4 0)), V.int .i64 (IntKind.wrap .i64 (t9 - 1))]) (bs := [⟨136, .rw, .cs (numCs [p.x, p.y, p.z])⟩, ⟨79, .rw, .cs (numC d)⟩, ⟨136, .rw, .cs (numCs [0, 0, 0])⟩, ⟨22, .own 16, .ints .u64 (lim 16 (nn k))⟩, ⟨136, .rw, .cs (numCs [(addRS (nq3 q) (nq3 q) (nn d)).x, (addRS (nq3 q) (nq3 q) (nn d)).y, (addRS (nq3 q) (nq3 q) (nn d)).z])⟩]) (by kernel_rfl) (by kernel_rfl)
    (ocons (decide_eq_true h1) (ocons rfl (ocons (beqT h2) (ocons h3 (ocons (decide_eq_true h4) (ocons (decide_eq_true h5) (ocons (neI h6) onil))))))) hg
theorem s233d {ρ : Env} {w : World} (k : Nat) (p : Q3) (d : Nat) (t9 : Int) (q : Q3) (h1 : ¬t9 ≥ 0) : G (mkX Try.prog (tab lcv1) Try.f233 [] ρ w ⟨r3 q, [], []⟩) (stR k p d t9 q) :=
  G.ends (tab_ok lcv1_ok) mixed [(14, false)] 1000000 [] (by kernel_rfl) (by kernel_rfl) (by kernel_rfl) (by kernel_rfl)
    (ocons (ndec h1) (ocons rfl onil))

structure OkR (q : Q3) : Prop where
  x : q.x < P256
  y : q.y < P256
  z : q.z < P256
theorem nq3_id {q : Q3} (h : OkR q) : nq3 q = q := by
  unfold nq3
  rw [nn_id h.x, nn_id h.y, nn_id h.z]
theorem okr_add (p q : Q3) (d : Nat) : OkR (addR p q d) := by
  have k := fun x => Nat.lt_trans (Nat.mod_lt x (show 0 < 57896044618658097711785492504343953926634992332820282019728792003956564819949 by decide)) (show 57896044618658097711785492504343953926634992332820282019728792003956564819949 < P256 by decide)
  exact ⟨k _, k _, k _⟩
theorem okr_times (p : Q3) (k d : Nat) : ∀ j, OkR (timesT p k d j)
  | 0 => show OkR zero3 from ⟨by decide, by decide, by decide⟩
  | j + 1 => by
    unfold timesT
    cases Nat.beq (k / 2 ^ (255 - j) % 2) 1 with
    | true => exact okr_add _ _ _
    | false => exact okr_add _ _ _
theorem s233n {k : Nat} (hk : k < P256) {p : Q3} (hp : OkR p) {d : Nat} (hd : d < P256) : Sx.Spec Try.prog 233 [.agg (numC k), .agg (numCs [p.x, p.y, p.z]), .agg (numC d)] [] ⟨r3 (timesR k p d), [], []⟩ := by
  refine spec_body (tab := tab lcv1) Try.func233 (by kernel_rfl) (by kernel_rfl) (by kernel_rfl) fun ρ w => ?_
  refine s233a k p d ?_
  have e2 : (lim 16 (nn k)).length = 16 := lim_length _ _
  have e3 : limOk (lim 16 (nn k)) = true := limOk_lim _ _
  have key := G.loop (X := mkX Try.prog (tab lcv1) Try.f233 [] ρ w ⟨r3 (timesR k p d), [], []⟩) (fun j => stR k p d (255 - (j : Int)) (timesT p k d j)) 256 (fun j hj hg => by
    have ew : IntKind.wrap .i64 (255 - (j : Int) - 1) = 255 - ((j + 1 : Nat) : Int) := by rw [i64w] <;> omega
    have eb : bitL (lim 16 (nn k)) (255 - (j : Int)) = k / 2 ^ (255 - j) % 2 := by
      unfold bitL
      rw [val16 hk, show (255 - (j : Int)).toNat = 255 - j by omega]
    have eq1 := nq3_id (okr_times p k d j)
    unfold timesT at hg
    cases hb : Nat.beq (k / 2 ^ (255 - j) % 2) 1 with
    | true =>
      refine s233b k p d _ _ (by omega) e2 e3 (by omega) (by omega) (by rw [eb, Nat.beq_eq.mp hb]; rfl) ?_
      rw [hb, cond_true] at hg
      simp only [addRS, sR_eq, eq1, nq3_id hp, nn_id hd, nq3_id (okr_add _ _ _), ew]
      exact hg
    | false =>
      refine s233c k p d _ _ (by omega) e2 e3 (by omega) (by omega) (by rw [eb]; intro h; rw [show k / 2 ^ (255 - j) % 2 = 1 by omega] at hb; cases hb) ?_
      rw [hb, cond_false] at hg
      simp only [addRS, sR_eq, eq1, nn_id hd, ew]
      exact hg) (s233d k p d _ _ (by omega))
  exact key
noncomputable def timesRS (k : Nat) (p : Q3) (d : Nat) : Q3 := sR (timesR k p d)
noncomputable def e233 : Entry := numsE [1, 3, 1] (nmNRN fun k p d => r3 (timesRS k p d))
theorem e233_ok : EntryOk Try.prog 233 e233 := numsE_ok fun ns h hl => by
  obtain ⟨k, a, b, c, d, rfl⟩ := ns5 h
  show Sx.Spec _ _ _ _ ⟨r3 (timesRS k ⟨a, b, c⟩ d), [], []⟩
  unfold timesRS
  rw [sR_eq]
  exact s233n (p := ⟨a, b, c⟩) (hl k (by simp)) ⟨hl a (by simp), hl b (by simp), hl c (by simp)⟩ (hl d (by simp))
noncomputable def lcv2 : List (Nat × Entry) := [(148, e148), (232, e232), (129, e129), (136, e136), (135, e135), (233, e233)] ++ lcv1
theorem lcv2_ok : AllOk Try.prog lcv2 := .cons e148_ok (.cons e232_ok (.cons e129_ok (.cons e136_ok (.cons e135_ok (.cons e233_ok lcv1_ok)))))
end Go.Proofs.Ytmjejlbmcefaoaa
namespace Go.Proofs.Ytmjejlbmcefaoaa
open Go Sx
def e128u : Entry := numsE [1, 1] (nm2 fun a b => .tup [.agg (numCs [(bif makeB a b then at4 a b else zero4).x, (bif makeB a b then at4 a b else zero4).y, (bif makeB a b then at4 a b else zero4).z, (bif makeB a b then at4 a b else zero4).t]), .c (.v (.int .i64 (bif makeB a b then 0 else 22)))])
def e142u : Entry := varK 4 is023 fun ns => ⟨r4 (addQs ns zero4), [], []⟩
def e143u : Entry := numsE [4] (nmQ fun q => r4 (negQ (whole4 q)))
theorem e128u_ok : EntryOk Try.prog 128 e128u := by
  have h : e128u = e128 := by
    unfold e128u e128 makeQ
    simp only [sQ_eq]
  rw [h]
  exact e128_ok
theorem e142u_ok : EntryOk Try.prog 142 e142u := by
  have h : e142u = e142 := by
    unfold e142u e142 addsS
    simp only [sQ_eq]
  rw [h]
  exact e142_ok
theorem e143u_ok : EntryOk Try.prog 143 e143u := by
  have h : e143u = e143 := by
    unfold e143u e143 negS
    simp only [sQ_eq]
  rw [h]
  exact e143_ok
def lcw0 : List (Nat × Entry) := [(128, e128u), (142, roE [.words] e142u), (143, e143u), (135, e135), (131, e131), (130, e130)] ++ lcv0u
theorem lcw0_ok : AllOk Try.prog lcw0 := .cons e128u_ok (.cons (roE_ok e142u_ok) (.cons e143u_ok (.cons e135_ok (.cons e131_ok (.cons e130_ok lcv0u_ok)))))
noncomputable def isPQ (p : Q4) (q : Q3) : Bool := Nat.beq (sealN (xyX p)) (sealN (xrX q)) && Nat.beq (sealN (xyY p)) (sealN (xrY q))
noncomputable def e132 : Entry := numsE [4, 3] (nmQR fun p q => V.bool (isPQ p q))
theorem s132_1 (a : Nat) (b : Nat) (c : Nat) (d : Nat) (e : Nat) (g : Nat) (h : Nat) (h1 : eqNs [nn (nn (sealN (xyX (Q4.mk (nn a) (nn b) (nn c) (nn d)))))] [nn (sealN (xrX (Q3.mk (nn e) (nn g) (nn h))))] = true) : Sx.Spec Try.prog 132 [W.agg (numCs [a, b, c, d]), W.agg (numCs [e, g, h])] [] ⟨V.bool (eqNs [nn (nn (sealN (xyY (Q4.mk (nn a) (nn b) (nn c) (nn d)))))] [nn (sealN (xrY (Q3.mk (nn e) (nn g) (nn h))))]), [], []⟩ :=
  spec_of_whole (tab_ok lcv2_ok) mixed Try.func132 [(23, true)] 1000000 [] (by kernel_rfl) (by kernel_rfl) (by kernel_rfl) (by kernel_rfl) (by kernel_rfl) (by kernel_rfl)
    (ocons rfl (ocons rfl (ocons rfl (ocons rfl (ocons h1 onil)))))
theorem s132_2 (a : Nat) (b : Nat) (c : Nat) (d : Nat) (e : Nat) (g : Nat) (h : Nat) (h1 : (!eqNs [nn (nn (sealN (xyX (Q4.mk (nn a) (nn b) (nn c) (nn d)))))] [nn (sealN (xrX (Q3.mk (nn e) (nn g) (nn h))))]) = true) : Sx.Spec Try.prog 132 [W.agg (numCs [a, b, c, d]), W.agg (numCs [e, g, h])] [] ⟨V.bool false, [], []⟩ :=
  spec_of_whole (tab_ok lcv2_ok) mixed Try.func132 [(23, false)] 1000000 [] (by kernel_rfl) (by kernel_rfl) (by kernel_rfl) (by kernel_rfl) (by kernel_rfl) (by kernel_rfl)
    (ocons rfl (ocons rfl (ocons rfl (ocons rfl (ocons h1 onil)))))

theorem nnXy (q : Q4) : nn (xyX q) = xyX q := nnMu _
theorem nnYy (q : Q4) : nn (xyY q) = xyY q := nnMu _
theorem nnXr (q : Q3) : nn (xrX q) = xrX q := nnR _
theorem nnYr (q : Q3) : nn (xrY q) = xrY q := nnR _
theorem e132_ok : EntryOk Try.prog 132 e132 := numsE_ok fun ns h hl => by
  obtain ⟨a, b, c, d, e, f, g, rfl⟩ := ns7 h
  have k1 := s132_1 a b c d e f g
  have k2 := s132_2 a b c d e f g
  simp only [sealN_eq, nn_id (hl a (by simp)), nn_id (hl b (by simp)), nn_id (hl c (by simp)), nn_id (hl d (by simp)), nn_id (hl e (by simp)), nn_id (hl f (by simp)), nn_id (hl g (by simp)), nnXy, nnYy, nnXr, nnYr, eqNs1] at k1 k2
  show Sx.Spec _ _ _ _ ⟨V.bool (isPQ ⟨a, b, c, d⟩ ⟨e, f, g⟩), [], []⟩
  unfold isPQ
  simp only [sealN_eq]
  cases hx : Nat.beq (xyX ⟨a, b, c, d⟩) (xrX ⟨e, f, g⟩) with
  | true => rw [hx] at k1; exact k1 rfl
  | false => rw [hx] at k2; exact k2 rfl
def both3 (k : Nat) : Q3 := timesR k base3 37095705934669439343138083508754565189542113879843219016388785533085940283555
def both4 (k : Nat) : Q4 := bif makeB (xrX (both3 k)) (xrY (both3 k)) then at4 (xrX (both3 k)) (xrY (both3 k)) else zero4
noncomputable def both3S (k : Nat) : Q3 := sR (both3 k)
noncomputable def both4S (k : Nat) : Q4 := sQ (both4 k)
noncomputable def e134 : Entry := fun args ms => match args, ms with
  | [.c (.v (.int .u32 k))], [] => some (⟨.tup [.agg (numCs [(both4S k.toNat).x, (both4S k.toNat).y, (both4S k.toNat).z, (both4S k.toNat).t]), .agg (numCs [(both3S k.toNat).x, (both3S k.toNat).y, (both3S k.toNat).z])], [], []⟩, [decide (0 ≤ k), decide (k < 4294967296)])
  | _, _ => none
theorem s134_1 (k : Int) (h1 : (decide (0 ≤ IntKind.wrap IntKind.u64 k) && decide (IntKind.wrap IntKind.u64 k < 18446744073709551616)) = true) : Sx.Spec Try.prog 134 [W.int IntKind.u32 k] [] ⟨V.tup [W.agg (numCs [Q4.x (makeQ (nn (sealN (nn (sealN (xrX (Q3.mk (nn (Q3.x (timesRS (num4 (Int.toNat (IntKind.wrap IntKind.u64 k)) 0 0 0) (Q3.mk 15112221349535400772501151409588531511454012693041857206046113283949847762202 46316835694926478169428394003475163141307993866256225615783033603165251855960 1) 37095705934669439343138083508754565189542113879843219016388785533085940283555))) (nn (Q3.y (timesRS (num4 (Int.toNat (IntKind.wrap IntKind.u64 k)) 0 0 0) (Q3.mk 15112221349535400772501151409588531511454012693041857206046113283949847762202 46316835694926478169428394003475163141307993866256225615783033603165251855960 1) 37095705934669439343138083508754565189542113879843219016388785533085940283555))) (nn (Q3.z (timesRS (num4 (Int.toNat (IntKind.wrap IntKind.u64 k)) 0 0 0) (Q3.mk 15112221349535400772501151409588531511454012693041857206046113283949847762202 46316835694926478169428394003475163141307993866256225615783033603165251855960 1) 37095705934669439343138083508754565189542113879843219016388785533085940283555)))))) % 57896044618658097711785492504343953926634992332820282019728792003956564819949))) (nn (sealN (nn (sealN (xrY (Q3.mk (nn (Q3.x (timesRS (num4 (Int.toNat (IntKind.wrap IntKind.u64 k)) 0 0 0) (Q3.mk 15112221349535400772501151409588531511454012693041857206046113283949847762202 46316835694926478169428394003475163141307993866256225615783033603165251855960 1) 37095705934669439343138083508754565189542113879843219016388785533085940283555))) (nn (Q3.y (timesRS (num4 (Int.toNat (IntKind.wrap IntKind.u64 k)) 0 0 0) (Q3.mk 15112221349535400772501151409588531511454012693041857206046113283949847762202 46316835694926478169428394003475163141307993866256225615783033603165251855960 1) 37095705934669439343138083508754565189542113879843219016388785533085940283555))) (nn (Q3.z (timesRS (num4 (Int.toNat (IntKind.wrap IntKind.u64 k)) 0 0 0) (Q3.mk 15112221349535400772501151409588531511454012693041857206046113283949847762202 46316835694926478169428394003475163141307993866256225615783033603165251855960 1) 37095705934669439343138083508754565189542113879843219016388785533085940283555)))))) % 57896044618658097711785492504343953926634992332820282019728792003956564819949)))), Q4.y (makeQ (nn (sealN (nn (sealN (xrX (Q3.mk (nn (Q3.x (timesRS (num4 (Int.toNat (IntKind.wrap IntKind.u64 k)) 0 0 0) (Q3.mk 15112221349535400772501151409588531511454012693041857206046113283949847762202 46316835694926478169428394003475163141307993866256225615783033603165251855960 1) 37095705934669439343138083508754565189542113879843219016388785533085940283555))) (nn (Q3.y (timesRS (num4 (Int.toNat (IntKind.wrap IntKind.u64 k)) 0 0 0) (Q3.mk 15112221349535400772501151409588531511454012693041857206046113283949847762202 46316835694926478169428394003475163141307993866256225615783033603165251855960 1) 37095705934669439343138083508754565189542113879843219016388785533085940283555))) (nn (Q3.z (timesRS (num4 (Int.toNat (IntKind.wrap IntKind.u64 k)) 0 0 0) (Q3.mk 15112221349535400772501151409588531511454012693041857206046113283949847762202 46316835694926478169428394003475163141307993866256225615783033603165251855960 1) 37095705934669439343138083508754565189542113879843219016388785533085940283555)))))) % 57896044618658097711785492504343953926634992332820282019728792003956564819949))) (nn (sealN (nn (sealN (xrY (Q3.mk (nn (Q3.x (timesRS (num4 (Int.toNat (IntKind.wrap IntKind.u64 k)) 0 0 0) (Q3.mk 15112221349535400772501151409588531511454012693041857206046113283949847762202 46316835694926478169428394003475163141307993866256225615783033603165251855960 1) 37095705934669439343138083508754565189542113879843219016388785533085940283555))) (nn (Q3.y (timesRS (num4 (Int.toNat (IntKind.wrap IntKind.u64 k)) 0 0 0) (Q3.mk 15112221349535400772501151409588531511454012693041857206046113283949847762202 46316835694926478169428394003475163141307993866256225615783033603165251855960 1) 37095705934669439343138083508754565189542113879843219016388785533085940283555))) (nn (Q3.z (timesRS (num4 (Int.toNat (IntKind.wrap IntKind.u64 k)) 0 0 0) (Q3.mk 15112221349535400772501151409588531511454012693041857206046113283949847762202 46316835694926478169428394003475163141307993866256225615783033603165251855960 1) 37095705934669439343138083508754565189542113879843219016388785533085940283555)))))) % 57896044618658097711785492504343953926634992332820282019728792003956564819949)))), Q4.z (makeQ (nn (sealN (nn (sealN (xrX (Q3.mk (nn (Q3.x (timesRS (num4 (Int.toNat (IntKind.wrap IntKind.u64 k)) 0 0 0) (Q3.mk 15112221349535400772501151409588531511454012693041857206046113283949847762202 46316835694926478169428394003475163141307993866256225615783033603165251855960 1) 37095705934669439343138083508754565189542113879843219016388785533085940283555))) (nn (Q3.y (timesRS (num4 (Int.toNat (IntKind.wrap IntKind.u64 k)) 0 0 0) (Q3.mk 15112221349535400772501151409588531511454012693041857206046113283949847762202 46316835694926478169428394003475163141307993866256225615783033603165251855960 1) 37095705934669439343138083508754565189542113879843219016388785533085940283555))) (nn (Q3.z (timesRS (num4 (Int.toNat (IntKind.wrap IntKind.u64 k)) 0 0 0) (Q3.mk 15112221349535400772501151409588531511454012693041857206046113283949847762202 46316835694926478169428394003475163141307993866256225615783033603165251855960 1) 37095705934669439343138083508754565189542113879843219016388785533085940283555)))))) % 57896044618658097711785492504343953926634992332820282019728792003956564819949))) (nn (sealN (nn (sealN (xrY (Q3.mk (nn (Q3.x (timesRS (num4 (Int.toNat (IntKind.wrap IntKind.u64 k)) 0 0 0) (Q3.mk 15112221349535400772501151409588531511454012693041857206046113283949847762202 46316835694926478169428394003475163141307993866256225615783033603165251855960 1) 37095705934669439343138083508754565189542113879843219016388785533085940283555))) (nn (Q3.y (timesRS (num4 (Int.toNat (IntKind.wrap IntKind.u64 k)) 0 0 0) (Q3.mk 15112221349535400772501151409588531511454012693041857206046113283949847762202 46316835694926478169428394003475163141307993866256225615783033603165251855960 1) 37095705934669439343138083508754565189542113879843219016388785533085940283555))) (nn (Q3.z (timesRS (num4 (Int.toNat (IntKind.wrap IntKind.u64 k)) 0 0 0) (Q3.mk 15112221349535400772501151409588531511454012693041857206046113283949847762202 46316835694926478169428394003475163141307993866256225615783033603165251855960 1) 37095705934669439343138083508754565189542113879843219016388785533085940283555)))))) % 57896044618658097711785492504343953926634992332820282019728792003956564819949)))), Q4.t (makeQ (nn (sealN (nn (sealN (xrX (Q3.mk (nn (Q3.x (timesRS (num4 (Int.toNat (IntKind.wrap IntKind.u64 k)) 0 0 0) (Q3.mk 15112221349535400772501151409588531511454012693041857206046113283949847762202 46316835694926478169428394003475163141307993866256225615783033603165251855960 1) 37095705934669439343138083508754565189542113879843219016388785533085940283555))) (nn (Q3.y (timesRS (num4 (Int.toNat (IntKind.wrap IntKind.u64 k)) 0 0 0) (Q3.mk 15112221349535400772501151409588531511454012693041857206046113283949847762202 46316835694926478169428394003475163141307993866256225615783033603165251855960 1) 37095705934669439343138083508754565189542113879843219016388785533085940283555))) (nn (Q3.z (timesRS (num4 (Int.toNat (IntKind.wrap IntKind.u64 k)) 0 0 0) (Q3.mk 15112221349535400772501151409588531511454012693041857206046113283949847762202 46316835694926478169428394003475163141307993866256225615783033603165251855960 1) 37095705934669439343138083508754565189542113879843219016388785533085940283555)))))) % 57896044618658097711785492504343953926634992332820282019728792003956564819949))) (nn (sealN (nn (sealN (xrY (Q3.mk (nn (Q3.x (timesRS (num4 (Int.toNat (IntKind.wrap IntKind.u64 k)) 0 0 0) (Q3.mk 15112221349535400772501151409588531511454012693041857206046113283949847762202 46316835694926478169428394003475163141307993866256225615783033603165251855960 1) 37095705934669439343138083508754565189542113879843219016388785533085940283555))) (nn (Q3.y (timesRS (num4 (Int.toNat (IntKind.wrap IntKind.u64 k)) 0 0 0) (Q3.mk 15112221349535400772501151409588531511454012693041857206046113283949847762202 46316835694926478169428394003475163141307993866256225615783033603165251855960 1) 37095705934669439343138083508754565189542113879843219016388785533085940283555))) (nn (Q3.z (timesRS (num4 (Int.toNat (IntKind.wrap IntKind.u64 k)) 0 0 0) (Q3.mk 15112221349535400772501151409588531511454012693041857206046113283949847762202 46316835694926478169428394003475163141307993866256225615783033603165251855960 1) 37095705934669439343138083508754565189542113879843219016388785533085940283555)))))) % 57896044618658097711785492504343953926634992332820282019728792003956564819949))))]), W.agg (numCs [Q3.x (timesRS (num4 (Int.toNat (IntKind.wrap IntKind.u64 k)) 0 0 0) (Q3.mk 15112221349535400772501151409588531511454012693041857206046113283949847762202 46316835694926478169428394003475163141307993866256225615783033603165251855960 1) 37095705934669439343138083508754565189542113879843219016388785533085940283555), Q3.y (timesRS (num4 (Int.toNat (IntKind.wrap IntKind.u64 k)) 0 0 0) (Q3.mk 15112221349535400772501151409588531511454012693041857206046113283949847762202 46316835694926478169428394003475163141307993866256225615783033603165251855960 1) 37095705934669439343138083508754565189542113879843219016388785533085940283555), Q3.z (timesRS (num4 (Int.toNat (IntKind.wrap IntKind.u64 k)) 0 0 0) (Q3.mk 15112221349535400772501151409588531511454012693041857206046113283949847762202 46316835694926478169428394003475163141307993866256225615783033603165251855960 1) 37095705934669439343138083508754565189542113879843219016388785533085940283555)])], [], []⟩ :=
  spec_of_whole (tab_ok lcv2_ok) mixed Try.func134 [] 1000000 [] (by kernel_rfl) (by kernel_rfl) (by kernel_rfl) (by kernel_rfl) (by kernel_rfl) (by kernel_rfl)
    (ocons h1 (ocons rfl (ocons rfl (ocons rfl (ocons rfl (ocons rfl (ocons rfl onil)))))))

theorem num4_1 (a : Nat) : num4 a 0 0 0 = a := by unfold num4; omega
theorem okr_both (k : Nat) : OkR (timesR k base3 37095705934669439343138083508754565189542113879843219016388785533085940283555) := okr_times _ _ _ 256
theorem e134_ok : EntryOk Try.prog 134 e134 := by
  intro args ms r obs h ho
  unfold e134 at h
  split at h
  · rename_i k
    cases h
    have h1 := of_decide_eq_true (ho _ (List.mem_cons_self ..))
    have h2 := of_decide_eq_true (ho _ (List.mem_cons_of_mem _ (List.mem_cons_self ..)))
    obtain ⟨n, rfl⟩ : ∃ n : Nat, k = n := ⟨k.toNat, by omega⟩
    have ew : IntKind.wrap .u64 (n : Int) = n := by rw [wrapUn, Nat.mod_eq_of_lt (by omega)]
    have kk := s134_1 (n : Int)
    have ok := okr_both n
    have m : ∀ q : Q3, xrX q % 57896044618658097711785492504343953926634992332820282019728792003956564819949 = xrX q := fun q => Nat.mod_mod _ _
    have m' : ∀ q : Q3, xrY q % 57896044618658097711785492504343953926634992332820282019728792003956564819949 = xrY q := fun q => Nat.mod_mod _ _
    simp only [ew, Int.toNat_natCast, num4_1, timesRS, sR_eq, sealN_eq] at kk
    change _ → Sx.Spec _ _ _ _ _ at kk
    have eb : (⟨15112221349535400772501151409588531511454012693041857206046113283949847762202, 46316835694926478169428394003475163141307993866256225615783033603165251855960, 1⟩ : Q3) = base3 := rfl
    rw [eb] at kk
    simp only [nn_id ok.x, nn_id ok.y, nn_id ok.z, nnXr, nnYr, m, m'] at kk
    have e4 : makeQ (xrX (timesR n base3 37095705934669439343138083508754565189542113879843219016388785533085940283555)) (xrY (timesR n base3 37095705934669439343138083508754565189542113879843219016388785533085940283555)) = both4S n := by
      unfold makeQ both4S both4 both3
      rfl
    have e3 : timesR n base3 37095705934669439343138083508754565189542113879843219016388785533085940283555 = both3S n := by
      unfold both3S both3
      rw [sR_eq]
    rw [Int.toNat_natCast]
    rw [← e4, ← e3]
    exact kk (by simp; omega)
  · cases h
def low4 (k : Nat) : Q4 := bif Nat.beq (k % 4) 1 then at4 0 57896044618658097711785492504343953926634992332820282019728792003956564819948 else bif Nat.beq (k % 4) 2 then at4 19681161376707505956807079304988542015446066515923890162744021073123829784752 0 else bif Nat.beq (k % 4) 3 then at4 38214883241950591754978413199355411911188925816896391856984770930832735035197 0 else zero4
def low3 (k : Nat) : Q3 := bif Nat.beq (k % 4) 1 then at3 0 57896044618658097711785492504343953926634992332820282019728792003956564819948 else bif Nat.beq (k % 4) 2 then at3 19681161376707505956807079304988542015446066515923890162744021073123829784752 0 else bif Nat.beq (k % 4) 3 then at3 38214883241950591754978413199355411911188925816896391856984770930832735035197 0 else zero3
noncomputable def low4S (k : Nat) : Q4 := sQ (low4 k)
noncomputable def low3S (k : Nat) : Q3 := sR (low3 k)
noncomputable def e141 : Entry := fun args ms => match args, ms with
  | [.c (.v (.int .u8 k))], [] => some (⟨.tup [.agg (numCs [(low4S k.toNat).x, (low4S k.toNat).y, (low4S k.toNat).z, (low4S k.toNat).t]), .agg (numCs [(low3S k.toNat).x, (low3S k.toNat).y, (low3S k.toNat).z])], [], []⟩, [decide (0 ≤ k)])
  | _, _ => none
theorem s141_1 (k : Int) (h1 : Int.tmod k 4 = 1) : Sx.Spec Try.prog 141 [W.int IntKind.u8 k] [] ⟨V.tup [W.agg [C.u 0, C.u 0, C.u 0, C.u 0, C.u 57896044618658097711785492504343953926634992332820282019728792003956564819948, C.u 3138550867693340381917894711603833208051177722232017256447, C.u 170141183460469231731687303715884105727, C.u 9223372036854775807, C.u 1, C.u 0, C.u 0, C.u 0, C.u 0, C.u 0, C.u 0, C.u 0], W.agg [C.u 0, C.u 0, C.u 0, C.u 0, C.u 57896044618658097711785492504343953926634992332820282019728792003956564819948, C.u 3138550867693340381917894711603833208051177722232017256447, C.u 170141183460469231731687303715884105727, C.u 9223372036854775807, C.u 1, C.u 0, C.u 0, C.u 0]], [], []⟩ :=
  spec_of_whole (tab_ok lcw0_ok) mixed Try.func141 [(25, true)] 1000000 [] (by kernel_rfl) (by kernel_rfl) (by kernel_rfl) (by kernel_rfl) (by kernel_rfl) (by kernel_rfl)
    (ocons rfl (ocons rfl (ocons rfl (ocons rfl (ocons rfl (ocons rfl (ocons rfl (ocons rfl (ocons (eqI h1) (ocons rfl (ocons rfl (ocons rfl (ocons rfl onil)))))))))))))
theorem s141_2 (k : Int) (h1 : ¬Int.tmod k 4 = 1) (h2 : Int.tmod k 4 = 2) : Sx.Spec Try.prog 141 [W.int IntKind.u8 k] [] ⟨V.tup [W.agg [C.u 19681161376707505956807079304988542015446066515923890162744021073123829784752, C.u 1066917896083203964094044590359293304235813145239671006328, C.u 57837735039853669993003572062525839271, C.u 3135389899092516619, C.u 0, C.u 0, C.u 0, C.u 0, C.u 1, C.u 0, C.u 0, C.u 0, C.u 0, C.u 0, C.u 0, C.u 0], W.agg [C.u 19681161376707505956807079304988542015446066515923890162744021073123829784752, C.u 1066917896083203964094044590359293304235813145239671006328, C.u 57837735039853669993003572062525839271, C.u 3135389899092516619, C.u 0, C.u 0, C.u 0, C.u 0, C.u 1, C.u 0, C.u 0, C.u 0]], [], []⟩ :=
  spec_of_whole (tab_ok lcw0_ok) mixed Try.func141 [(25, false), (30, true)] 1000000 [] (by kernel_rfl) (by kernel_rfl) (by kernel_rfl) (by kernel_rfl) (by kernel_rfl) (by kernel_rfl)
    (ocons rfl (ocons rfl (ocons rfl (ocons rfl (ocons rfl (ocons rfl (ocons rfl (ocons rfl (ocons (neI h1) (ocons (eqI h2) (ocons rfl (ocons rfl (ocons rfl (ocons rfl onil))))))))))))))
theorem s141_3 (k : Int) (h1 : ¬Int.tmod k 4 = 1) (h2 : ¬Int.tmod k 4 = 2) (h3 : Int.tmod k 4 = 3) : Sx.Spec Try.prog 141 [W.int IntKind.u8 k] [] ⟨V.tup [W.agg [C.u 38214883241950591754978413199355411911188925816896391856984770930832735035197, C.u 2071632971610136417823850121244539903815364576992346250119, C.u 112303448420615561738683731653358266456, C.u 6087982137762259188, C.u 0, C.u 0, C.u 0, C.u 0, C.u 1, C.u 0, C.u 0, C.u 0, C.u 0, C.u 0, C.u 0, C.u 0], W.agg [C.u 38214883241950591754978413199355411911188925816896391856984770930832735035197, C.u 2071632971610136417823850121244539903815364576992346250119, C.u 112303448420615561738683731653358266456, C.u 6087982137762259188, C.u 0, C.u 0, C.u 0, C.u 0, C.u 1, C.u 0, C.u 0, C.u 0]], [], []⟩ :=
  spec_of_whole (tab_ok lcw0_ok) mixed Try.func141 [(25, false), (30, false), (35, true)] 1000000 [] (by kernel_rfl) (by kernel_rfl) (by kernel_rfl) (by kernel_rfl) (by kernel_rfl) (by kernel_rfl)
    (ocons rfl (ocons rfl (ocons rfl (ocons rfl (ocons rfl (ocons rfl (ocons rfl (ocons rfl (ocons (neI h1) (ocons (neI h2) (ocons (eqI h3) (ocons rfl (ocons rfl (ocons rfl (ocons rfl onil)))))))))))))))
theorem s141_4 (k : Int) (h1 : ¬Int.tmod k 4 = 1) (h2 : ¬Int.tmod k 4 = 2) (h3 : ¬Int.tmod k 4 = 3) : Sx.Spec Try.prog 141 [W.int IntKind.u8 k] [] ⟨V.tup [W.agg [C.u 0, C.u 0, C.u 0, C.u 0, C.u 1, C.u 0, C.u 0, C.u 0, C.u 1, C.u 0, C.u 0, C.u 0, C.u 0, C.u 0, C.u 0, C.u 0], W.agg [C.u 0, C.u 0, C.u 0, C.u 0, C.u 1, C.u 0, C.u 0, C.u 0, C.u 1, C.u 0, C.u 0, C.u 0]], [], []⟩ :=
  spec_of_whole (tab_ok lcw0_ok) mixed Try.func141 [(25, false), (30, false), (35, false)] 1000000 [] (by kernel_rfl) (by kernel_rfl) (by kernel_rfl) (by kernel_rfl) (by kernel_rfl) (by kernel_rfl)
    (ocons rfl (ocons rfl (ocons rfl (ocons rfl (ocons rfl (ocons rfl (ocons rfl (ocons rfl (ocons (neI h1) (ocons (neI h2) (ocons (neI h3) (ocons rfl (ocons rfl (ocons rfl onil))))))))))))))

theorem e141_ok : EntryOk Try.prog 141 e141 := by
  intro args ms r obs h ho
  unfold e141 at h
  split at h
  · rename_i k
    cases h
    have h1 := of_decide_eq_true (ho _ (List.mem_cons_self ..))
    obtain ⟨n, rfl⟩ : ∃ n : Nat, k = n := ⟨k.toNat, by omega⟩
    have et : Int.tmod (n : Int) 4 = ((n % 4 : Nat) : Int) := by
      rw [Int.tmod_eq_emod_of_nonneg (by omega)]
      omega
    have k1 := s141_1 (n : Int)
    have k2 := s141_2 (n : Int)
    have k3 := s141_3 (n : Int)
    have k4 := s141_4 (n : Int)
    rw [et] at k1 k2 k3 k4
    rw [Int.toNat_natCast]
    unfold low4S low3S low4 low3
    rw [sQ_eq, sR_eq]
    have hlt := Nat.mod_lt n (show 0 < 4 by decide)
    generalize n % 4 = x at *
    match x, hlt with
    | 0, _ => exact Eq.mp (congrArg (Sx.Spec Try.prog 141 _ _) (by kernel_rfl)) (k4 (by decide) (by decide) (by decide))
    | 1, _ => exact Eq.mp (congrArg (Sx.Spec Try.prog 141 _ _) (by kernel_rfl)) (k1 (by decide))
    | 2, _ => exact Eq.mp (congrArg (Sx.Spec Try.prog 141 _ _) (by kernel_rfl)) (k2 (by decide) (by decide))
    | 3, _ => exact Eq.mp (congrArg (Sx.Spec Try.prog 141 _ _) (by kernel_rfl)) (k3 (by decide) (by decide) (by decide))
  · cases h
def e140 : Entry := fun args ms => match args, ms with
  | [], [] => some (⟨V.bool true, [], []⟩, [])
  | _, _ => none
theorem s140_1 : Sx.Spec Try.prog 140 [] [] ⟨V.bool true, [], []⟩ :=
  spec_of_whole (tab_ok lcw0_ok) mixed Try.func140 [] 1000000 [] (by kernel_rfl) (by kernel_rfl) (by kernel_rfl) (by kernel_rfl) (by kernel_rfl) (by kernel_rfl)
    (ocons rfl (ocons rfl (ocons rfl (ocons rfl (ocons rfl (ocons rfl (ocons rfl onil)))))))

theorem e140_ok : EntryOk Try.prog 140 e140 := by
  intro args ms r obs h ho
  unfold e140 at h
  split at h
  · cases h
    exact s140_1
  · cases h
noncomputable def sameS (p q : Q4) : Bool := Classical.choose (⟨sameQ (whole4 p) (whole4 q), rfl⟩ : ∃ b, b = sameQ (whole4 p) (whole4 q))
noncomputable def e130s : Entry := numsE [4, 4] (nmQQ fun p q => V.bool (sameS p q))
theorem sameS_eq (p q : Q4) : sameS p q = sameQ (whole4 p) (whole4 q) := Classical.choose_spec (⟨sameQ (whole4 p) (whole4 q), rfl⟩ : ∃ b, b = sameQ (whole4 p) (whole4 q))
theorem e130s_ok : EntryOk Try.prog 130 e130s := by
  have h : e130s = e130 := by
    unfold e130s e130
    simp only [sameS_eq]
  rw [h]
  exact e130_ok
noncomputable def makeBS (a b : Nat) : Bool := Classical.choose (⟨makeB a b, rfl⟩ : ∃ c, c = makeB a b)
noncomputable def e128s : Entry := numsE [1, 1] (nm2 fun a b => .tup [.agg (numCs [(makeQ a b).x, (makeQ a b).y, (makeQ a b).z, (makeQ a b).t]), .c (.v (.int .i64 (bif makeBS a b then 0 else 22)))])
theorem makeBS_eq (a b : Nat) : makeBS a b = makeB a b := Classical.choose_spec (⟨makeB a b, rfl⟩ : ∃ c, c = makeB a b)
theorem e128s_ok : EntryOk Try.prog 128 e128s := by
  have h : e128s = e128 := by
    unfold e128s e128
    simp only [makeBS_eq]
  rw [h]
  exact e128_ok
noncomputable def isCS (a b : Nat) : Bool := Classical.choose (⟨isC a b, rfl⟩ : ∃ c, c = isC a b)
noncomputable def e129s : Entry := numsE [1, 1] (nm2 fun a b => V.bool (isCS a b))
theorem isCS_eq (a b : Nat) : isCS a b = isC a b := Classical.choose_spec (⟨isC a b, rfl⟩ : ∃ c, c = isC a b)
theorem e129s_ok : EntryOk Try.prog 129 e129s := by
  have h : e129s = e129 := by
    unfold e129s e129
    simp only [isCS_eq]
  rw [h]
  exact e129_ok
noncomputable def lcv3 : List (Nat × Entry) := [(132, e132), (134, e134), (141, e141), (140, e140), (130, e130s), (128, e128s), (129, e129s), (142, roE [.words] e142)] ++ lcv2
theorem lcv3_ok : AllOk Try.prog lcv3 := .cons e132_ok (.cons e134_ok (.cons e141_ok (.cons e140_ok (.cons e130s_ok (.cons e128s_ok (.cons e129s_ok (.cons (roE_ok e142_ok) lcv2_ok)))))))
/-- what the numbers of points say. -/
theorem Rep.ok {q : Q4} {P : Pf} (h : Rep q P) : OkQ q := by
  obtain ⟨Z, z, x, y, w, s⟩ := h
  exact ⟨x.lt, y.lt, w.lt, s.lt⟩
theorem rn {q : Q4} {P : Pf} (h : Rep q P) : Rep ⟨nn q.x, nn q.y, nn q.z, nn q.t⟩ P := by
  have e := nq_id h.ok
  unfold nq at e
  rw [e]
  exact h
theorem eqNs_cons4 (a b c d e f g i : Nat) : eqNs [a, b, c, d] [e, f, g, i] = (Nat.beq a e && (Nat.beq b f && (Nat.beq c g && Nat.beq d i))) := by
  rw [eqNs_cons a e [b, c, d] [f, g, i] rfl, eqNs_cons b f [c, d] [g, i] rfl, eqNs_cons c g [d] [i] rfl, eqNs1]
theorem whole_rep {q : Q4} {P : Pf} (h : Rep q P) : whole4 q = q := by
  obtain ⟨Z, z, x, y, w, s⟩ := h
  unfold whole4
  have e : Nat.beq q.z 0 = false := beq_f fun h0 => z ((w.eq_iff El.zero).1 h0)
  rw [eqNs_cons4, e]
  simp
theorem db {q : Q4} {P : Pf} (h : Rep q P) : Rep (dblS q) (padd P P) := by
  unfold dblS
  rw [sQ_eq, whole_rep h]
  exact dblQ_rep h
theorem adr {p q : Q4} {P Q : Pf} (h : Rep p P) (k : Rep q Q) : Rep (adS 16295367250680780974490674513165176452449235426866156013048779062215315747161 p q) (padd P Q) := by
  unfold adS
  rw [sQ_eq, whole_rep h, whole_rep k]
  exact sumQ_rep h k
theorem pzero_add (P : Pf) : padd Pt.zero P = P := Pt.zero_add crv P
theorem padd_zero (P : Pf) : padd P Pt.zero = P := Pt.add_zero crv P
theorem ad2 {a b : Q4} {A B : Pf} (h : Rep a A) (k : Rep b B) : Rep (addsS [nn a.x, nn a.y, nn a.z, nn a.t, nn b.x, nn b.y, nn b.z, nn b.t]) (padd A B) := by
  unfold addsS
  rw [sQ_eq]
  show Rep (sumQ (sumQ zero4 (whole4 ⟨nn a.x, nn a.y, nn a.z, nn a.t⟩) 16295367250680780974490674513165176452449235426866156013048779062215315747161) (whole4 ⟨nn b.x, nn b.y, nn b.z, nn b.t⟩) 16295367250680780974490674513165176452449235426866156013048779062215315747161) _
  rw [whole_rep (rn h), whole_rep (rn k)]
  have e := sumQ_rep (sumQ_rep zero4_rep (rn h)) (rn k)
  rw [pzero_add] at e
  exact e
theorem same_iff {p q : Q4} {P Q : Pf} (h : Rep p P) (k : Rep q Q) : sameS p q = true ↔ P = Q := by
  rw [sameS_eq, whole_rep h, whole_rep k]
  exact sameQ_rep h k
theorem same_t {p q : Q4} {P Q : Pf} (h : Rep p P) (k : Rep q Q) (e : P = Q) : sameS p q = true := (same_iff h k).2 e
theorem El.iN : El 19681161376707505956807079304988542015446066515923890162744021073123829784752 iF := El.lit (by decide +kernel)
theorem El.niN : El 38214883241950591754978413199355411911188925816896391856984770930832735035197 (-iF) := ⟨by decide +kernel, by decide +kernel⟩
theorem El.m1 : El 57896044618658097711785492504343953926634992332820282019728792003956564819948 (-1) := ⟨by decide +kernel, by decide +kernel⟩
theorem low_reps (k : Nat) : Rep (low4S k) (lowP k) ∧ Rep3 (low3S k) (lowP k) := by
  unfold low4S low3S low4 low3 lowP
  rw [sQ_eq, sR_eq]
  have hlt := Nat.mod_lt k (show 0 < 4 by decide)
  generalize k % 4 = x at *
  match x, hlt with
  | 0, _ => exact ⟨zero4_rep, zero3_rep⟩
  | 1, _ => exact ⟨at4_rep El.zero El.m1, at3_rep El.zero El.m1⟩
  | 2, _ => exact ⟨at4_rep El.iN El.zero, at3_rep El.iN El.zero⟩
  | 3, _ => exact ⟨at4_rep El.niN El.zero, at3_rep El.niN El.zero⟩
theorem low4_rep (k : Nat) : Rep (low4S k) (lowP k) := (low_reps k).1
end Go.Proofs.Ytmjejlbmcefaoaa
namespace Go.Proofs.Ytmjejlbmcefaoaa
open Go Sx
def twV : List Value := [.int .u64 16993941304535871833, .int .u64 63073048630374742, .int .u64 1841551078520508720, .int .u64 2596001775599221991]
def adF : C := .v (.func (.func 145) #[.agg twV.toArray] #[])
def e144v : Entry := numsE [] (nm0 (.w (.agg (twV.map C.v))))
theorem e144v_ok : EntryOk Try.prog 144 e144v := numsE_ok fun ns h hl => by
  obtain rfl : ns = [] := List.length_eq_zero_iff.1 h
  refine Spec.resv (r := ⟨vN 16295367250680780974490674513165176452449235426866156013048779062215315747161, [], []⟩) (fun ρ y hy => ?_) (Eq.mp (congrArg (Sx.Spec Try.prog 144 [] []) (by kernel_rfl)) s144_1)
  obtain ⟨cs, rfl, hc⟩ := hy
  cases hc with | cons x1 h => cases h with | cons x2 h => cases h with | cons x3 h => cases h with | cons x4 h =>
  cases h
  refine ⟨_, rfl, ?_⟩
  refine .cons ?_ (.cons ?_ (.cons ?_ (.cons ?_ .nil)))
  · exact (show _ = _ from x1).trans (by kernel_rfl)
  · exact (show _ = _ from x2).trans (by kernel_rfl)
  · exact (show _ = _ from x3).trans (by kernel_rfl)
  · exact (show _ = _ from x4).trans (by kernel_rfl)
noncomputable def lcm0 : List (Nat × Entry) := [(144, e144v), (145, e145)] ++ lcv3
theorem lcm0_ok : AllOk Try.prog lcm0 := .cons e144v_ok (.cons e145_ok lcv3_ok)
/-- is a function the sum that NewAdder makes? -/
def isTwL : List Value → Bool
  | [.int .u64 a, .int .u64 b, .int .u64 c, .int .u64 d] => decide (a = 16993941304535871833) && (decide (b = 63073048630374742) && (decide (c = 1841551078520508720) && decide (d = 2596001775599221991)))
  | _ => false
def isTwF : List Value → Bool
  | [.agg l] => isTwL l.toList
  | _ => false
def isAd : C → Bool
  | .v (.func (.func f) fs cs) => Nat.beq f 145 && (isTwF fs.toList && Nat.beq cs.size 0)
  | _ => false
theorem isTwL_eq {l : List Value} (h : isTwL l = true) : l = twV := by
  unfold isTwL at h
  split at h
  · simp only [Bool.and_eq_true, decide_eq_true_eq] at h
    obtain ⟨rfl, rfl, rfl, rfl⟩ := h
    rfl
  · cases h
theorem isTwF_eq {l : List Value} (h : isTwF l = true) : l = [.agg twV.toArray] := by
  unfold isTwF at h
  split at h
  · rename_i a
    have e := isTwL_eq h
    rw [← Array.toArray_toList (xs := a), e]
  · cases h
theorem isAd_eq {c : C} (h : isAd c = true) : c = adF := by
  unfold isAd at h
  split at h
  · rename_i f fs cs
    rw [Bool.and_eq_true, Bool.and_eq_true, Nat.beq_eq, Nat.beq_eq] at h
    obtain ⟨rfl, h2, h3⟩ := h
    have e := isTwF_eq h2
    have e3 := Array.eq_empty_of_size_eq_zero h3
    subst e3
    rw [← Array.toArray_toList (xs := fs), e]
    rfl
  · cases h
/-- numbers, and that function. -/
def numsFE (ks : List Nat) (R : List Nat → Res) : Entry := fun args ms =>
  match args, ms with
  | [x, .c f], [] => bif isAd f then match decA ks [x] with
    | some (ns, o) => some (R ns, o)
    | none => none
    else none
  | _, _ => none
theorem numsFE_ok {f : FuncId} {ks : List Nat} {R : List Nat → Res} (h : ∀ ns : List Nat, ns.length = ks.sum → (∀ n ∈ ns, n < P256) → Sx.Spec Try.prog f (shA ks ns ++ [.c adF]) [] (R ns)) : EntryOk Try.prog f (numsFE ks R) := by
  intro args ms r obs he ho
  unfold numsFE at he
  split at he
  · rename_i x g
    cases hg : isAd g with
    | false => simp [hg] at he
    | true =>
      rw [hg, cond_true] at he
      have eg := isAd_eq hg
      subst eg
      split at he
      · rename_i ns o hd
        cases he
        obtain ⟨h1, h2, h3⟩ := decA_ok hd ho
        refine Spec.args (fun ρ vs hv => ?_) (h ns h1 h2)
        cases hv with
        | cons x1 hr =>
          have a := h3 ρ _ (.cons x1 .nil)
          generalize shA ks ns = sa at a
          cases a with
          | cons y1 y2 => cases y2; exact .cons y1 hr
      · cases he
  · cases he
/-- words of points, in a row. -/
def row4 (n : Nat) : List Int := [((n % 18446744073709551616 : Nat) : Int), ((n / 18446744073709551616 % 18446744073709551616 : Nat) : Int), ((n / 340282366920938463463374607431768211456 % 18446744073709551616 : Nat) : Int), ((n / 6277101735386680763835789423207666416102355444464034512896 % 18446744073709551616 : Nat) : Int)]
def rowQ (q : Q4) : List Int := row4 q.x ++ (row4 q.y ++ (row4 q.z ++ row4 q.t))
def numAt (l : List Int) (o i : Nat) : Nat := num4 (Int.toNat (List.getD l (o + i) 0)) (Int.toNat (List.getD l (o + (i + 1)) 0)) (Int.toNat (List.getD l (o + (i + 2)) 0)) (Int.toNat (List.getD l (o + (i + 3)) 0))
def ptAt (l : List Int) (o : Nat) : Q4 := ⟨numAt l o 0, numAt l o 4, numAt l o 8, numAt l o 12⟩
theorem rowQ_length (q : Q4) : (rowQ q).length = 16 := rfl
theorem rowQ_isW (q : Q4) : ∀ x ∈ rowQ q, isW x = true := by
  intro x hx
  have key : ∀ m : Nat, isW ((m % 18446744073709551616 : Nat) : Int) = true := fun m => by
    unfold isW
    simp
    omega
  simp only [rowQ, row4, List.cons_append, List.nil_append, List.mem_cons, List.not_mem_nil, or_false] at hx
  rcases hx with h | h | h | h | h | h | h | h | h | h | h | h | h | h | h | h <;> (rw [h]; exact key _)
/-- n points in a row. -/
def rowP (f : Nat → Q4) : Nat → List Int
  | 0 => []
  | n + 1 => rowP f n ++ rowQ (f n)
theorem rowP_length (f : Nat → Q4) : ∀ n, (rowP f n).length = 16 * n
  | 0 => rfl
  | n + 1 => by simp only [rowP, List.length_append, rowP_length f n, rowQ_length]; omega
theorem rowP_get (f : Nat → Q4) : ∀ (n i k : Nat) (tl : List Int), i < n → k < 16 → List.getD (rowP f n ++ tl) (i * 16 + k) 0 = List.getD (rowQ (f i)) k 0
  | n + 1, i, k, tl, hi, hk => by
    rw [rowP, List.append_assoc]
    by_cases h : i < n
    · exact rowP_get f n i k _ h hk
    · have e : i = n := by omega
      subst e
      rw [List.getD_eq_getElem?_getD, List.getElem?_append_right (by rw [rowP_length]; omega), rowP_length, show i * 16 + k - 16 * i = k by omega, List.getElem?_append_left (by rw [rowQ_length]; exact hk), ← List.getD_eq_getElem?_getD]
theorem getD_isW {l : List Int} (h : ∀ x ∈ l, isW x = true) (i : Nat) : isW (List.getD l i 0) = true := by
  rcases Nat.lt_or_ge i l.length with hi | hi
  · rw [List.getD_eq_getElem?_getD, List.getElem?_eq_getElem hi]
    exact h _ (List.getElem_mem hi)
  · rw [List.getD_eq_getElem?_getD, List.getElem?_eq_none hi]
    rfl
theorem ptAt_rowP (f : Nat → Q4) {n i : Nat} (tl : List Int) (hi : i < n) : ptAt (rowP f n ++ tl) (i * 16) = nq (f i) := by
  unfold ptAt numAt
  rw [rowP_get f n i 0 tl hi (by omega), rowP_get f n i _ tl hi (by omega), rowP_get f n i _ tl hi (by omega), rowP_get f n i _ tl hi (by omega), rowP_get f n i 4 tl hi (by omega), rowP_get f n i _ tl hi (by omega), rowP_get f n i _ tl hi (by omega), rowP_get f n i _ tl hi (by omega), rowP_get f n i 8 tl hi (by omega), rowP_get f n i _ tl hi (by omega), rowP_get f n i _ tl hi (by omega), rowP_get f n i _ tl hi (by omega), rowP_get f n i 12 tl hi (by omega), rowP_get f n i _ tl hi (by omega), rowP_get f n i _ tl hi (by omega), rowP_get f n i _ tl hi (by omega)]
  rfl
theorem putL_rowP (f : Nat → Q4) (n : Nat) (z : List Int) (hz : 16 ≤ z.length) : putL (rowP f n ++ z) (n * 16) (rowQ (f n)) = rowP f (n + 1) ++ z.drop 16 := by
  unfold putL
  rw [List.take_left' (by rw [rowP_length]; omega), rowQ_length, List.drop_append, rowP_length, List.drop_eq_nil_of_le (by rw [rowP_length]; omega), show n * 16 + 16 - 16 * n = 16 by omega, List.nil_append, rowP, List.append_assoc]
/-- so many times a point, one by one. -/
def tabQ (p : Q4) : Nat → Q4
  | 0 => zero4
  | i + 1 => sumQ (whole4 (tabQ p i)) (whole4 p) 16295367250680780974490674513165176452449235426866156013048779062215315747161
theorem tabQ_ok (p : Q4) : ∀ i, OkQ (tabQ p i)
  | 0 => okq_zero
  | i + 1 => okq_sum _ _ _
theorem tabQ_rep {p : Q4} {P : Pf} (h : Rep p P) : ∀ i, Rep (tabQ p i) (ptimes P i)
  | 0 => zero4_rep
  | i + 1 => by
    have ih := tabQ_rep h i
    unfold tabQ
    rw [whole_rep ih, whole_rep h, ptimes_succ]
    exact sumQ_rep ih h
def tabL (p : Q4) (i : Nat) : List Int := rowP (tabQ p) i ++ List.replicate (256 - 16 * i) 0
theorem tabL_length (p : Q4) {i : Nat} (h : i ≤ 16) : (tabL p i).length = 256 := by
  unfold tabL
  rw [List.length_append, rowP_length, List.length_replicate]
  omega
theorem tabL_isW (p : Q4) (i : Nat) : ∀ x ∈ tabL p i, isW x = true := by
  have key : ∀ n, ∀ x ∈ rowP (tabQ p) n, isW x = true := by
    intro n
    induction n with
    | zero => intro x hx; cases hx
    | succ n ih =>
      intro x hx
      rcases List.mem_append.1 hx with h | h
      · exact ih x h
      · exact rowQ_isW _ x h
  intro x hx
  rcases List.mem_append.1 hx with h | h
  · exact key i x h
  · rw [(List.mem_replicate.1 h).2]; rfl
theorem tabL_put (p : Q4) {i : Nat} (h : i < 16) : putL (tabL p i) (i * 16) (rowQ (tabQ p i)) = tabL p (i + 1) := by
  unfold tabL
  rw [putL_rowP _ _ _ (by rw [List.length_replicate]; omega), List.drop_replicate, show 256 - 16 * i - 16 = 256 - 16 * (i + 1) by omega]
noncomputable def s264k0 : List Item := kAt Try.prog (tab lcm0) Try.f264 [] 0 [W.agg [C.u 1, C.u 0, C.u 0, C.u 0, C.u 1, C.u 0, C.u 0, C.u 0, C.u 1, C.u 0, C.u 0, C.u 0, C.u 1, C.u 0, C.u 0, C.u 0], W.c (C.v (Value.func (Fn.func 145) #[Value.agg #[Value.int IntKind.u64 16993941304535871833, Value.int IntKind.u64 63073048630374742, Value.int IntKind.u64 1841551078520508720, Value.int IntKind.u64 2596001775599221991]] #[]))] []
noncomputable def stT (p : Q4) (l : List Int) (t6 : Int) : Cfg := cfg s264k0 [1, 2, 4, 5, 6] [V.w (W.c adF), V.w (W.c (C.ptr 0 0)), V.w (W.c (C.ptr 1 0)), V.w (W.c (C.ptr 2 0)), V.int .i64 t6] [⟨129, .rw, .cs (numCs [p.x, p.y, p.z, p.t])⟩, ⟨252, .rw, .ints .u64 (List.replicate 256 0)⟩, ⟨252, .rw, .ints .u64 l⟩]
theorem s264a {ρ : Env} {w : World} {r : Res} (p : Q4) (h1 : 0 + 16 ≤ 256) (hg : G (mkX Try.prog (tab lcm0) Try.f264 [] ρ w r) (stT p (putL (List.replicate 256 0) 0 (rowQ zero4)) 1)) : G (mkX Try.prog (tab lcm0) Try.f264 [] ρ w r) (cfg [.code (Try.f264.body.getD .skip)] (List.range 2) ([.agg (numCs [p.x, p.y, p.z, p.t]), .c adF].map V.w) []) :=
  G.seg (X := mkX Try.prog (tab lcm0) Try.f264 [] ρ w r) ⟨tab_ok lcm0_ok, mixed⟩ [] 1000000 0 [1, 2, 4, 5, 6] [(0, none), (4, none), (8, none)] (k := s264k0) (vs := [V.w (W.c adF), V.w (W.c (C.ptr 0 0)), V.w (W.c (C.ptr 1 0)), V.w (W.c (C.ptr 2 0)), V.int .i64 1]) (bs := [⟨129, .rw, .cs (numCs [p.x, p.y, p.z, p.t])⟩, ⟨252, .rw, .ints .u64 (List.replicate 256 0)⟩, ⟨252, .rw, .ints .u64 (putL (List.replicate 256 0) 0 (rowQ zero4))⟩]) (by kernel_rfl) (by kernel_rfl)
    (ocons rfl (ocons rfl (ocons rfl (ocons (bleT h1) onil)))) hg
theorem s264b {ρ : Env} {w : World} {r : Res} (p : Q4) (l : List Int) (t6 : Int) (h1 : t6 < 16) (h2 : 0 ≤ IntKind.wrap .i64 (t6 - 1)) (h3 : IntKind.wrap .i64 (t6 - 1) < 16) (hb : ∀ k, k < 16 → (spot 0 (Int.toNat (IntKind.wrap .i64 (t6 - 1))) 16) + k < l.length) (hw : ∀ k, k < 16 → (decide (0 ≤ List.getD l ((spot 0 (Int.toNat (IntKind.wrap .i64 (t6 - 1))) 16) + k) 0) && decide (List.getD l ((spot 0 (Int.toNat (IntKind.wrap .i64 (t6 - 1))) 16) + k) 0 < 18446744073709551616)) = true) (h36 : 0 ≤ t6) (h37 : spot 0 (Int.toNat t6) 16 + 16 ≤ l.length) (hg : G (mkX Try.prog (tab lcm0) Try.f264 [] ρ w r) (stT p (putL l (spot 0 (Int.toNat t6) 16) (rowQ (adS 16295367250680780974490674513165176452449235426866156013048779062215315747161 (ptAt l (spot 0 (Int.toNat (IntKind.wrap .i64 (t6 - 1))) 16)) (nq p)))) (IntKind.wrap .i64 (t6 + 1)))) : G (mkX Try.prog (tab lcm0) Try.f264 [] ρ w r) (stT p l t6) :=
  G.seg (X := mkX Try.prog (tab lcm0) Try.f264 [] ρ w r) ⟨tab_ok lcm0_ok, mixed⟩ [(10, true)] 1000000 0 [1, 2, 4, 5, 6] [(0, none), (1, none), (2, none)] (k := s264k0) (vs := [V.w (W.c adF), V.w (W.c (C.ptr 0 0)), V.w (W.c (C.ptr 1 0)), V.w (W.c (C.ptr 2 0)), V.int .i64 (IntKind.wrap .i64 (t6 + 1))]) (bs := [⟨129, .rw, .cs (numCs [p.x, p.y, p.z, p.t])⟩, ⟨252, .rw, .ints .u64 (List.replicate 256 0)⟩, ⟨252, .rw, .ints .u64 (putL l (spot 0 (Int.toNat t6) 16) (rowQ (adS 16295367250680780974490674513165176452449235426866156013048779062215315747161 (ptAt l (spot 0 (Int.toNat (IntKind.wrap .i64 (t6 - 1))) 16)) (nq p))))⟩]) (by kernel_rfl) (by kernel_rfl)
    (ocons (decide_eq_true h1) (ocons (decide_eq_true h2) (ocons (decide_eq_true h3) (ocons (bltT (hb 0 (by decide))) (ocons (bltT (hb 1 (by decide))) (ocons (bltT (hb 2 (by decide))) (ocons (bltT (hb 3 (by decide))) (ocons (bltT (hb 4 (by decide))) (ocons (bltT (hb 5 (by decide))) (ocons (bltT (hb 6 (by decide))) (ocons (bltT (hb 7 (by decide))) (ocons (bltT (hb 8 (by decide))) (ocons (bltT (hb 9 (by decide))) (ocons (bltT (hb 10 (by decide))) (ocons (bltT (hb 11 (by decide))) (ocons (bltT (hb 12 (by decide))) (ocons (bltT (hb 13 (by decide))) (ocons (bltT (hb 14 (by decide))) (ocons (bltT (hb 15 (by decide))) (ocons (hw 0 (by decide)) (ocons (hw 1 (by decide)) (ocons (hw 2 (by decide)) (ocons (hw 3 (by decide)) (ocons (hw 4 (by decide)) (ocons (hw 5 (by decide)) (ocons (hw 6 (by decide)) (ocons (hw 7 (by decide)) (ocons (hw 8 (by decide)) (ocons (hw 9 (by decide)) (ocons (hw 10 (by decide)) (ocons (hw 11 (by decide)) (ocons (hw 12 (by decide)) (ocons (hw 13 (by decide)) (ocons (hw 14 (by decide)) (ocons (hw 15 (by decide)) (ocons (decide_eq_true h36) (ocons (decide_eq_true h1) (ocons rfl (ocons (bleT h37) onil))))))))))))))))))))))))))))))))))))))) hg
theorem s264c {ρ : Env} {w : World} (p : Q4) (b2_0 : List Int) (t6 : Int) (h1 : ¬t6 < 16) (h2 : b2_0.length = 256) : G (mkX Try.prog (tab lcm0) Try.f264 [] ρ w ⟨.w (.ints .u64 b2_0), [], []⟩) (stT p b2_0 t6) :=
  G.ends (tab_ok lcm0_ok) mixed [(10, false)] 1000000 [] (by kernel_rfl) (by kernel_rfl) (by kernel_rfl) (by kernel_rfl)
    (ocons (ndec h1) (ocons (beqT h2) (ocons (beqT h2) (ocons (beqT h2) (ocons (beqT h2) onil)))))

theorem s264n {p : Q4} (hp : OkQ p) : Sx.Spec Try.prog 264 [.agg (numCs [p.x, p.y, p.z, p.t]), .c adF] [] ⟨.w (.ints .u64 (tabL p 16)), [], []⟩ := by
  refine spec_body (tab := tab lcm0) Try.func264 (by kernel_rfl) (by kernel_rfl) (by kernel_rfl) fun ρ w => ?_
  refine s264a p (by decide) ?_
  have key := G.loop (X := mkX Try.prog (tab lcm0) Try.f264 [] ρ w ⟨.w (.ints .u64 (tabL p 16)), [], []⟩) (fun j => stT p (tabL p (j + 1)) ((j : Int) + 1)) 15 (fun j hj hg => by
    have e1 : IntKind.wrap .i64 ((j : Int) + 1 - 1) = (j : Int) := by rw [i64w] <;> omega
    have e2 : IntKind.wrap .i64 ((j : Int) + 1 + 1) = ((j + 1 : Nat) : Int) + 1 := by rw [i64w] <;> omega
    have e3 : spot 0 (Int.toNat (j : Int)) 16 = j * 16 := by rw [Int.toNat_natCast]; rfl
    have e4 : spot 0 (Int.toNat ((j : Int) + 1)) 16 = (j + 1) * 16 := by rw [show (j : Int) + 1 = ((j + 1 : Nat) : Int) by omega, Int.toNat_natCast]; rfl
    have hl := tabL_length p (i := j + 1) (by omega)
    refine s264b p _ _ (by omega) (by rw [e1]; omega) (by rw [e1]; omega) (fun k hk => by rw [e1, e3, hl]; omega) (fun k hk => getD_isW (tabL_isW p _) _) (by omega) (by rw [e4, hl]; omega) ?_
    rw [e1, e2, e3, e4]
    have ep : ptAt (tabL p (j + 1)) (j * 16) = tabQ p j := by
      unfold tabL
      rw [ptAt_rowP _ _ (by omega), nq_id (tabQ_ok p j)]
    rw [ep, nq_id hp]
    unfold adS
    rw [sQ_eq]
    have hput := tabL_put p (i := j + 1) (by omega)
    rw [show tabQ p (j + 1) = sumQ (whole4 (tabQ p j)) (whole4 p) 16295367250680780974490674513165176452449235426866156013048779062215315747161 from rfl] at hput
    rw [hput]
    exact hg) (s264c p _ _ (by omega) (tabL_length p (by omega)))
  have e0 : putL (List.replicate 256 0) 0 (rowQ zero4) = tabL p 1 := by
    have := tabL_put p (i := 0) (by omega)
    exact this
  rw [e0]
  exact key
noncomputable def tabS (p : Q4) : List Int := Classical.choose (⟨tabL p 16, rfl⟩ : ∃ l, l = tabL p 16)
theorem tabS_eq (p : Q4) : tabS p = tabL p 16 := Classical.choose_spec (⟨tabL p 16, rfl⟩ : ∃ l, l = tabL p 16)
noncomputable def e264 : Entry := numsFE [4] (nmQ fun p => .w (.ints .u64 (tabS p)))
theorem e264_ok : EntryOk Try.prog 264 e264 := numsFE_ok fun ns h hl => by
  obtain ⟨a, b, c, d, rfl⟩ := ns4 h
  show Sx.Spec _ _ _ _ ⟨.w (.ints .u64 (tabS ⟨a, b, c, d⟩)), [], []⟩
  rw [tabS_eq]
  exact s264n (p := ⟨a, b, c, d⟩) (okq4 hl (by simp) (by simp) (by simp) (by simp))
noncomputable def lcm1 : List (Nat × Entry) := [(264, e264)] ++ lcm0
theorem lcm1_ok : AllOk Try.prog lcm1 := .cons e264_ok lcm0_ok
end Go.Proofs.Ytmjejlbmcefaoaa
namespace Go.Proofs.Ytmjejlbmcefaoaa
open Go Sx
noncomputable def digS (k i : Nat) : Nat := sealN (k / 16 ^ i % 16)
noncomputable def e266 : Entry := fun args ms => match args, ms with
  | [x, .c (.v (.int .i64 i))], [] => match decA [1] [x] with
    | some ([k], o) => some (⟨V.int .i64 ((digS k i.toNat : Nat) : Int), [], []⟩, decide (0 ≤ i) :: decide (i < 64) :: o)
    | _ => none
  | _, _ => none
theorem s266_1 (l : List Int) (i : Int) (h1 : 0 ≤ IntKind.wrap IntKind.i64 (Int.tdiv i 16)) (h2 : IntKind.wrap IntKind.i64 (Int.tdiv i 16) < 4) (h3 : Int.toNat (IntKind.wrap IntKind.i64 (Int.tdiv i 16)) < List.length l) (h4 : 0 ≤ IntKind.wrap IntKind.i64 (4 * Int.tmod i 16)) : Sx.Spec Try.prog 266 [W.ints IntKind.u64 l, W.int IntKind.i64 i] [] ⟨V.int IntKind.i64 (andI IntKind.i64 (IntKind.wrap IntKind.i64 (Int.fdiv (List.getD l (Int.toNat (IntKind.wrap IntKind.i64 (Int.tdiv i 16))) 0) (2 ^ min (Int.toNat (IntKind.wrap IntKind.i64 (4 * Int.tmod i 16))) 64))) 15), [], []⟩ :=
  spec_of_whole (tab_ok lcm1_ok) mixed Try.func266 [] 1000000 [] (by kernel_rfl) (by kernel_rfl) (by kernel_rfl) (by kernel_rfl) (by kernel_rfl) (by kernel_rfl)
    (ocons rfl (ocons (decide_eq_true h1) (ocons (decide_eq_true h2) (ocons (bltT h3) (ocons rfl (ocons (decide_eq_true h4) onil))))))

theorem and15 {v : Nat} (h : v < 18446744073709551616) : andI .i64 (IntKind.wrap .i64 (v : Int)) 15 = ((v % 16 : Nat) : Int) := by
  have e : BitVec.ofInt 64 (IntKind.wrap .i64 (v : Int)) = BitVec.ofNat 64 v := by
    apply BitVec.eq_of_toNat_eq
    simp [IntKind.wrap, IntKind.signed, IntKind.bits, BitVec.toNat_ofInt]
    omega
  unfold andI
  show IntKind.wrap .i64 (((BitVec.ofInt 64 (IntKind.wrap .i64 (v : Int)) &&& BitVec.ofInt 64 15).toNat : Nat) : Int) = _
  rw [e, BitVec.toNat_and, show (BitVec.ofInt 64 15).toNat = 2 ^ 4 - 1 by decide, BitVec.toNat_ofNat, Nat.mod_eq_of_lt h, Nat.and_two_pow_sub_one_eq_mod]
  rw [i64w] <;> omega
theorem dig_eq (k n : Nat) (h : n < 64) : (k / 18446744073709551616 ^ (n / 16) % 18446744073709551616) / 2 ^ (4 * (n % 16)) % 16 = k / 16 ^ n % 16 := by
  have e1 : (16 : Nat) ^ n = 18446744073709551616 ^ (n / 16) * 2 ^ (4 * (n % 16)) := by
    rw [show (18446744073709551616 : Nat) = 2 ^ 64 from rfl, show (16 : Nat) = 2 ^ 4 from rfl, ← Nat.pow_mul, ← Nat.pow_mul, ← Nat.pow_add]
    congr 1
    omega
  rw [e1, ← Nat.div_div_eq_div_mul]
  generalize k / 18446744073709551616 ^ (n / 16) = a
  have e2 : (18446744073709551616 : Nat) = 2 ^ (4 * (n % 16)) * 2 ^ (64 - 4 * (n % 16)) := by
    rw [← Nat.pow_add, show 4 * (n % 16) + (64 - 4 * (n % 16)) = 64 by omega]
  rw [e2, Nat.mod_mul_right_div_self]
  refine Nat.mod_mod_of_dvd _ ?_
  exact ⟨2 ^ (64 - 4 * (n % 16) - 4), by rw [show (16 : Nat) = 2 ^ 4 from rfl, ← Nat.pow_add]; congr 1; omega⟩
theorem row4_get (k q : Nat) (h : q < 4) : List.getD (row4 k) q 0 = ((k / 18446744073709551616 ^ q % 18446744073709551616 : Nat) : Int) := by
  match q, h with
  | 0, _ => simp [row4]
  | 1, _ => simp [row4]
  | 2, _ => simp [row4]
  | 3, _ => simp [row4]
theorem s266n (k n : Nat) (h : n < 64) : Sx.Spec Try.prog 266 [.ints .u64 (row4 k), .c (.v (.int .i64 (n : Int)))] [] ⟨V.int .i64 ((k / 16 ^ n % 16 : Nat) : Int), [], []⟩ := by
  have t1 : Int.tdiv (n : Int) 16 = ((n / 16 : Nat) : Int) := by
    rw [Int.tdiv_eq_ediv_of_nonneg (by omega)]
    omega
  have t2 : Int.tmod (n : Int) 16 = ((n % 16 : Nat) : Int) := by
    rw [Int.tmod_eq_emod_of_nonneg (by omega)]
    omega
  have e1 : IntKind.wrap .i64 (Int.tdiv (n : Int) 16) = ((n / 16 : Nat) : Int) := by rw [t1, i64w] <;> omega
  have e2 : IntKind.wrap .i64 (4 * Int.tmod (n : Int) 16) = ((4 * (n % 16) : Nat) : Int) := by rw [t2, i64w] <;> omega
  have hs := s266_1 (row4 k) (n : Int)
  rw [e1, e2, Int.toNat_natCast, Int.toNat_natCast, row4_get k (n / 16) (by omega), Nat.min_eq_left (show 4 * (n % 16) ≤ 64 by omega)] at hs
  have e3 : Int.fdiv ((k / 18446744073709551616 ^ (n / 16) % 18446744073709551616 : Nat) : Int) (2 ^ (4 * (n % 16))) = (((k / 18446744073709551616 ^ (n / 16) % 18446744073709551616) / 2 ^ (4 * (n % 16)) : Nat) : Int) := by
    rw [Int.fdiv_eq_ediv_of_nonneg _ (by exact Int.le_of_lt (Int.pow_pos (by decide)))]
    simp
  rw [e3, and15 (Nat.lt_of_le_of_lt (Nat.div_le_self _ _) (Nat.mod_lt _ (by decide))), dig_eq k n h] at hs
  exact hs (by omega) (by omega) (show n / 16 < 4 by omega) (by omega)
theorem row4_rc {ρ : Env} {k : Nat} {y : Value} (h : RW ρ (.agg (numC k)) y) : RW ρ (.ints .u64 (row4 k)) y := by
  obtain ⟨cs, rfl, hc⟩ := h
  cases hc with | cons x1 h => cases h with | cons x2 h => cases h with | cons x3 h => cases h with | cons x4 h =>
  cases h
  show Value.agg _ = Value.agg _
  rw [show _ = _ from x1, show _ = _ from x2, show _ = _ from x3, show _ = _ from x4]
  rfl
theorem e266_ok : EntryOk Try.prog 266 e266 := by
  intro args ms r obs he ho
  unfold e266 at he
  split at he
  · rename_i x i
    split at he
    · rename_i k o hd
      cases he
      have h1 := of_decide_eq_true (ho _ (List.mem_cons_self ..))
      have h2 := of_decide_eq_true (ho _ (List.mem_cons_of_mem _ (List.mem_cons_self ..)))
      obtain ⟨n, rfl⟩ : ∃ n : Nat, i = n := ⟨i.toNat, by omega⟩
      obtain ⟨a1, a2, a3⟩ := decA_ok hd fun b hb => ho b (List.mem_cons_of_mem _ (List.mem_cons_of_mem _ hb))
      unfold digS
      rw [sealN_eq, Int.toNat_natCast]
      refine Spec.args (fun ρ vs hv => ?_) (s266n k n (by omega))
      cases hv with
      | cons x1 hr =>
        have := a3 ρ _ (.cons x1 .nil)
        cases this with
        | cons y1 y2 => exact .cons (row4_rc y1) hr
    · cases he
  · cases he
noncomputable def lcm2 : List (Nat × Entry) := [(266, e266)] ++ lcm1
theorem lcm2_ok : AllOk Try.prog lcm2 := .cons e266_ok lcm1_ok
def kAtL (l : List Int) (j : Int) : Nat := numAt l (spot 0 j.toNat 4) 0
noncomputable def askZ (l : List Int) (j i : Int) : Bool := Nat.beq (digS (kAtL l j) i.toNat) 0
noncomputable def askQ (l : List Int) (j i : Int) (tl : List Int) (q : Q4) : Q4 := adS 16295367250680780974490674513165176452449235426866156013048779062215315747161 q (ptAt tl (spot (spot 0 j.toNat 256) (Int.toNat ((digS (kAtL l j) i.toNat : Nat) : Int)) 16))

def old16 (c0 c1 c2 c3 c4 c5 c6 c7 c8 c9 c10 c11 c12 c13 c14 c15 : Nat) : Q4 := ⟨num4 (c0 % 18446744073709551616) (c1 % 18446744073709551616) (c2 % 18446744073709551616) (c3 % 18446744073709551616), num4 (c4 % 18446744073709551616) (c5 % 18446744073709551616) (c6 % 18446744073709551616) (c7 % 18446744073709551616), num4 (c8 % 18446744073709551616) (c9 % 18446744073709551616) (c10 % 18446744073709551616) (c11 % 18446744073709551616), num4 (c12 % 18446744073709551616) (c13 % 18446744073709551616) (c14 % 18446744073709551616) (c15 % 18446744073709551616)⟩
def new16 (z : Bool) (c0 c1 c2 c3 c4 c5 c6 c7 c8 c9 c10 c11 c12 c13 c14 c15 : Nat) (q : Q4) : List C := [.u (bif z then c0 else (q.x )), .u (bif z then c1 else (q.x / 18446744073709551616)), .u (bif z then c2 else (q.x / 340282366920938463463374607431768211456)), .u (bif z then c3 else (q.x / 6277101735386680763835789423207666416102355444464034512896)), .u (bif z then c4 else (q.y )), .u (bif z then c5 else (q.y / 18446744073709551616)), .u (bif z then c6 else (q.y / 340282366920938463463374607431768211456)), .u (bif z then c7 else (q.y / 6277101735386680763835789423207666416102355444464034512896)), .u (bif z then c8 else (q.z )), .u (bif z then c9 else (q.z / 18446744073709551616)), .u (bif z then c10 else (q.z / 340282366920938463463374607431768211456)), .u (bif z then c11 else (q.z / 6277101735386680763835789423207666416102355444464034512896)), .u (bif z then c12 else (q.t )), .u (bif z then c13 else (q.t / 18446744073709551616)), .u (bif z then c14 else (q.t / 340282366920938463463374607431768211456)), .u (bif z then c15 else (q.t / 6277101735386680763835789423207666416102355444464034512896))]
noncomputable def e265 : Entry := fun args ms => match args, ms with
  | [.c (.v (.int .i64 j)), .c (.v (.int .i64 i)), .c (.ptr 0 0), .c (.ptr 1 0), .c (.ptr 2 0), .c (.ptr 3 0), .c (.ptr 4 0)],
    [⟨t0, .rw, .cs [.sl 5 0 n]⟩, ⟨t1, .rw, .cs [f]⟩, ⟨t2, .rw, .cs [.u c0, .u c1, .u c2, .u c3, .u c4, .u c5, .u c6, .u c7, .u c8, .u c9, .u c10, .u c11, .u c12, .u c13, .u c14, .u c15]⟩, ⟨t3, .rw, .cs [.own 6]⟩, ⟨t4, .rw, .cs [.v (.bool b)]⟩, ⟨t5, .ro, .ints .u64 l⟩, ⟨t6, .own m, .ints .u64 tl⟩] =>
    bif Nat.beq t0 165 && (Nat.beq t1 149 && (isAd f && (Nat.beq t2 129 && (Nat.beq t3 251 && (Nat.beq t4 4 && Nat.beq t6 252))))) then
      some (⟨.tup [], [(2, ⟨129, .rw, .cs (new16 (askZ l j i) c0 c1 c2 c3 c4 c5 c6 c7 c8 c9 c10 c11 c12 c13 c14 c15 (askQ l j i tl (old16 c0 c1 c2 c3 c4 c5 c6 c7 c8 c9 c10 c11 c12 c13 c14 c15)))⟩), (4, ⟨4, .rw, .cs [.v (.bool (b || !(askZ l j i)))]⟩)], []⟩,
        [decide (0 ≤ j), decide (j < (n : Int)), Nat.beq l.length (4 * n), l.all isW, Nat.beq tl.length (256 * n), tl.all isW, decide (0 ≤ i), decide (i < 64), Nat.beq m n])
    else none
  | _, _ => none
theorem s265t (j : Int) (i : Int) (n : Nat) (m : Nat) (t5 : Nat) (c0 : Nat) (c1 : Nat) (c2 : Nat) (c3 : Nat) (c4 : Nat) (c5 : Nat) (c6 : Nat) (c7 : Nat) (c8 : Nat) (c9 : Nat) (c10 : Nat) (c11 : Nat) (c12 : Nat) (c13 : Nat) (c14 : Nat) (c15 : Nat) (b : Bool) (l : List Int) (tl : List Int) (h1 : 0 ≤ j) (h2 : j < (↑n : Int)) (h3 : spot 0 (Int.toNat j) 4 + 0 < List.length l) (h4 : spot 0 (Int.toNat j) 4 + 1 < List.length l) (h5 : spot 0 (Int.toNat j) 4 + 2 < List.length l) (h6 : spot 0 (Int.toNat j) 4 + 3 < List.length l) (h7 : 0 ≤ i) (h8 : i < 64) (h9 : (decide (0 ≤ List.getD l (spot 0 (Int.toNat j) 4 + 0) 0) && decide (List.getD l (spot 0 (Int.toNat j) 4 + 0) 0 < 18446744073709551616)) = true) (h10 : (decide (0 ≤ List.getD l (spot 0 (Int.toNat j) 4 + 1) 0) && decide (List.getD l (spot 0 (Int.toNat j) 4 + 1) 0 < 18446744073709551616)) = true) (h11 : (decide (0 ≤ List.getD l (spot 0 (Int.toNat j) 4 + 2) 0) && decide (List.getD l (spot 0 (Int.toNat j) 4 + 2) 0 < 18446744073709551616)) = true) (h12 : (decide (0 ≤ List.getD l (spot 0 (Int.toNat j) 4 + 3) 0) && decide (List.getD l (spot 0 (Int.toNat j) 4 + 3) 0 < 18446744073709551616)) = true) (h13 : (↑(digS (num4 (Int.toNat (List.getD l (spot 0 (Int.toNat j) 4 + 0) 0)) (Int.toNat (List.getD l (spot 0 (Int.toNat j) 4 + 1) 0)) (Int.toNat (List.getD l (spot 0 (Int.toNat j) 4 + 2) 0)) (Int.toNat (List.getD l (spot 0 (Int.toNat j) 4 + 3) 0))) (Int.toNat i)) : Int) > 0) (h14 : j < (↑m : Int)) (h15 : 0 ≤ (↑(digS (num4 (Int.toNat (List.getD l (spot 0 (Int.toNat j) 4 + 0) 0)) (Int.toNat (List.getD l (spot 0 (Int.toNat j) 4 + 1) 0)) (Int.toNat (List.getD l (spot 0 (Int.toNat j) 4 + 2) 0)) (Int.toNat (List.getD l (spot 0 (Int.toNat j) 4 + 3) 0))) (Int.toNat i)) : Int)) (h16 : (↑(digS (num4 (Int.toNat (List.getD l (spot 0 (Int.toNat j) 4 + 0) 0)) (Int.toNat (List.getD l (spot 0 (Int.toNat j) 4 + 1) 0)) (Int.toNat (List.getD l (spot 0 (Int.toNat j) 4 + 2) 0)) (Int.toNat (List.getD l (spot 0 (Int.toNat j) 4 + 3) 0))) (Int.toNat i)) : Int) < 16) (h17 : spot (spot 0 (Int.toNat j) 256) (Int.toNat (↑(digS (num4 (Int.toNat (List.getD l (spot 0 (Int.toNat j) 4 + 0) 0)) (Int.toNat (List.getD l (spot 0 (Int.toNat j) 4 + 1) 0)) (Int.toNat (List.getD l (spot 0 (Int.toNat j) 4 + 2) 0)) (Int.toNat (List.getD l (spot 0 (Int.toNat j) 4 + 3) 0))) (Int.toNat i)) : Int)) 16 + 0 < List.length tl) (h18 : spot (spot 0 (Int.toNat j) 256) (Int.toNat (↑(digS (num4 (Int.toNat (List.getD l (spot 0 (Int.toNat j) 4 + 0) 0)) (Int.toNat (List.getD l (spot 0 (Int.toNat j) 4 + 1) 0)) (Int.toNat (List.getD l (spot 0 (Int.toNat j) 4 + 2) 0)) (Int.toNat (List.getD l (spot 0 (Int.toNat j) 4 + 3) 0))) (Int.toNat i)) : Int)) 16 + 1 < List.length tl) (h19 : spot (spot 0 (Int.toNat j) 256) (Int.toNat (↑(digS (num4 (Int.toNat (List.getD l (spot 0 (Int.toNat j) 4 + 0) 0)) (Int.toNat (List.getD l (spot 0 (Int.toNat j) 4 + 1) 0)) (Int.toNat (List.getD l (spot 0 (Int.toNat j) 4 + 2) 0)) (Int.toNat (List.getD l (spot 0 (Int.toNat j) 4 + 3) 0))) (Int.toNat i)) : Int)) 16 + 2 < List.length tl) (h20 : spot (spot 0 (Int.toNat j) 256) (Int.toNat (↑(digS (num4 (Int.toNat (List.getD l (spot 0 (Int.toNat j) 4 + 0) 0)) (Int.toNat (List.getD l (spot 0 (Int.toNat j) 4 + 1) 0)) (Int.toNat (List.getD l (spot 0 (Int.toNat j) 4 + 2) 0)) (Int.toNat (List.getD l (spot 0 (Int.toNat j) 4 + 3) 0))) (Int.toNat i)) : Int)) 16 + 3 < List.length tl) (h21 : spot (spot 0 (Int.toNat j) 256) (Int.toNat (↑(digS (num4 (Int.toNat (List.getD l (spot 0 (Int.toNat j) 4 + 0) 0)) (Int.toNat (List.getD l (spot 0 (Int.toNat j) 4 + 1) 0)) (Int.toNat (List.getD l (spot 0 (Int.toNat j) 4 + 2) 0)) (Int.toNat (List.getD l (spot 0 (Int.toNat j) 4 + 3) 0))) (Int.toNat i)) : Int)) 16 + 4 < List.length tl) (h22 : spot (spot 0 (Int.toNat j) 256) (Int.toNat (↑(digS (num4 (Int.toNat (List.getD l (spot 0 (Int.toNat j) 4 + 0) 0)) (Int.toNat (List.getD l (spot 0 (Int.toNat j) 4 + 1) 0)) (Int.toNat (List.getD l (spot 0 (Int.toNat j) 4 + 2) 0)) (Int.toNat (List.getD l (spot 0 (Int.toNat j) 4 + 3) 0))) (Int.toNat i)) : Int)) 16 + 5 < List.length tl) (h23 : spot (spot 0 (Int.toNat j) 256) (Int.toNat (↑(digS (num4 (Int.toNat (List.getD l (spot 0 (Int.toNat j) 4 + 0) 0)) (Int.toNat (List.getD l (spot 0 (Int.toNat j) 4 + 1) 0)) (Int.toNat (List.getD l (spot 0 (Int.toNat j) 4 + 2) 0)) (Int.toNat (List.getD l (spot 0 (Int.toNat j) 4 + 3) 0))) (Int.toNat i)) : Int)) 16 + 6 < List.length tl) (h24 : spot (spot 0 (Int.toNat j) 256) (Int.toNat (↑(digS (num4 (Int.toNat (List.getD l (spot 0 (Int.toNat j) 4 + 0) 0)) (Int.toNat (List.getD l (spot 0 (Int.toNat j) 4 + 1) 0)) (Int.toNat (List.getD l (spot 0 (Int.toNat j) 4 + 2) 0)) (Int.toNat (List.getD l (spot 0 (Int.toNat j) 4 + 3) 0))) (Int.toNat i)) : Int)) 16 + 7 < List.length tl) (h25 : spot (spot 0 (Int.toNat j) 256) (Int.toNat (↑(digS (num4 (Int.toNat (List.getD l (spot 0 (Int.toNat j) 4 + 0) 0)) (Int.toNat (List.getD l (spot 0 (Int.toNat j) 4 + 1) 0)) (Int.toNat (List.getD l (spot 0 (Int.toNat j) 4 + 2) 0)) (Int.toNat (List.getD l (spot 0 (Int.toNat j) 4 + 3) 0))) (Int.toNat i)) : Int)) 16 + 8 < List.length tl) (h26 : spot (spot 0 (Int.toNat j) 256) (Int.toNat (↑(digS (num4 (Int.toNat (List.getD l (spot 0 (Int.toNat j) 4 + 0) 0)) (Int.toNat (List.getD l (spot 0 (Int.toNat j) 4 + 1) 0)) (Int.toNat (List.getD l (spot 0 (Int.toNat j) 4 + 2) 0)) (Int.toNat (List.getD l (spot 0 (Int.toNat j) 4 + 3) 0))) (Int.toNat i)) : Int)) 16 + 9 < List.length tl) (h27 : spot (spot 0 (Int.toNat j) 256) (Int.toNat (↑(digS (num4 (Int.toNat (List.getD l (spot 0 (Int.toNat j) 4 + 0) 0)) (Int.toNat (List.getD l (spot 0 (Int.toNat j) 4 + 1) 0)) (Int.toNat (List.getD l (spot 0 (Int.toNat j) 4 + 2) 0)) (Int.toNat (List.getD l (spot 0 (Int.toNat j) 4 + 3) 0))) (Int.toNat i)) : Int)) 16 + 10 < List.length tl) (h28 : spot (spot 0 (Int.toNat j) 256) (Int.toNat (↑(digS (num4 (Int.toNat (List.getD l (spot 0 (Int.toNat j) 4 + 0) 0)) (Int.toNat (List.getD l (spot 0 (Int.toNat j) 4 + 1) 0)) (Int.toNat (List.getD l (spot 0 (Int.toNat j) 4 + 2) 0)) (Int.toNat (List.getD l (spot 0 (Int.toNat j) 4 + 3) 0))) (Int.toNat i)) : Int)) 16 + 11 < List.length tl) (h29 : spot (spot 0 (Int.toNat j) 256) (Int.toNat (↑(digS (num4 (Int.toNat (List.getD l (spot 0 (Int.toNat j) 4 + 0) 0)) (Int.toNat (List.getD l (spot 0 (Int.toNat j) 4 + 1) 0)) (Int.toNat (List.getD l (spot 0 (Int.toNat j) 4 + 2) 0)) (Int.toNat (List.getD l (spot 0 (Int.toNat j) 4 + 3) 0))) (Int.toNat i)) : Int)) 16 + 12 < List.length tl) (h30 : spot (spot 0 (Int.toNat j) 256) (Int.toNat (↑(digS (num4 (Int.toNat (List.getD l (spot 0 (Int.toNat j) 4 + 0) 0)) (Int.toNat (List.getD l (spot 0 (Int.toNat j) 4 + 1) 0)) (Int.toNat (List.getD l (spot 0 (Int.toNat j) 4 + 2) 0)) (Int.toNat (List.getD l (spot 0 (Int.toNat j) 4 + 3) 0))) (Int.toNat i)) : Int)) 16 + 13 < List.length tl) (h31 : spot (spot 0 (Int.toNat j) 256) (Int.toNat (↑(digS (num4 (Int.toNat (List.getD l (spot 0 (Int.toNat j) 4 + 0) 0)) (Int.toNat (List.getD l (spot 0 (Int.toNat j) 4 + 1) 0)) (Int.toNat (List.getD l (spot 0 (Int.toNat j) 4 + 2) 0)) (Int.toNat (List.getD l (spot 0 (Int.toNat j) 4 + 3) 0))) (Int.toNat i)) : Int)) 16 + 14 < List.length tl) (h32 : spot (spot 0 (Int.toNat j) 256) (Int.toNat (↑(digS (num4 (Int.toNat (List.getD l (spot 0 (Int.toNat j) 4 + 0) 0)) (Int.toNat (List.getD l (spot 0 (Int.toNat j) 4 + 1) 0)) (Int.toNat (List.getD l (spot 0 (Int.toNat j) 4 + 2) 0)) (Int.toNat (List.getD l (spot 0 (Int.toNat j) 4 + 3) 0))) (Int.toNat i)) : Int)) 16 + 15 < List.length tl) (h33 : (decide (0 ≤ List.getD tl (spot (spot 0 (Int.toNat j) 256) (Int.toNat (↑(digS (num4 (Int.toNat (List.getD l (spot 0 (Int.toNat j) 4 + 0) 0)) (Int.toNat (List.getD l (spot 0 (Int.toNat j) 4 + 1) 0)) (Int.toNat (List.getD l (spot 0 (Int.toNat j) 4 + 2) 0)) (Int.toNat (List.getD l (spot 0 (Int.toNat j) 4 + 3) 0))) (Int.toNat i)) : Int)) 16 + 0) 0) && decide (List.getD tl (spot (spot 0 (Int.toNat j) 256) (Int.toNat (↑(digS (num4 (Int.toNat (List.getD l (spot 0 (Int.toNat j) 4 + 0) 0)) (Int.toNat (List.getD l (spot 0 (Int.toNat j) 4 + 1) 0)) (Int.toNat (List.getD l (spot 0 (Int.toNat j) 4 + 2) 0)) (Int.toNat (List.getD l (spot 0 (Int.toNat j) 4 + 3) 0))) (Int.toNat i)) : Int)) 16 + 0) 0 < 18446744073709551616)) = true) (h34 : (decide (0 ≤ List.getD tl (spot (spot 0 (Int.toNat j) 256) (Int.toNat (↑(digS (num4 (Int.toNat (List.getD l (spot 0 (Int.toNat j) 4 + 0) 0)) (Int.toNat (List.getD l (spot 0 (Int.toNat j) 4 + 1) 0)) (Int.toNat (List.getD l (spot 0 (Int.toNat j) 4 + 2) 0)) (Int.toNat (List.getD l (spot 0 (Int.toNat j) 4 + 3) 0))) (Int.toNat i)) : Int)) 16 + 1) 0) && decide (List.getD tl (spot (spot 0 (Int.toNat j) 256) (Int.toNat (↑(digS (num4 (Int.toNat (List.getD l (spot 0 (Int.toNat j) 4 + 0) 0)) (Int.toNat (List.getD l (spot 0 (Int.toNat j) 4 + 1) 0)) (Int.toNat (List.getD l (spot 0 (Int.toNat j) 4 + 2) 0)) (Int.toNat (List.getD l (spot 0 (Int.toNat j) 4 + 3) 0))) (Int.toNat i)) : Int)) 16 + 1) 0 < 18446744073709551616)) = true) (h35 : (decide (0 ≤ List.getD tl (spot (spot 0 (Int.toNat j) 256) (Int.toNat (↑(digS (num4 (Int.toNat (List.getD l (spot 0 (Int.toNat j) 4 + 0) 0)) (Int.toNat (List.getD l (spot 0 (Int.toNat j) 4 + 1) 0)) (Int.toNat (List.getD l (spot 0 (Int.toNat j) 4 + 2) 0)) (Int.toNat (List.getD l (spot 0 (Int.toNat j) 4 + 3) 0))) (Int.toNat i)) : Int)) 16 + 2) 0) && decide (List.getD tl (spot (spot 0 (Int.toNat j) 256) (Int.toNat (↑(digS (num4 (Int.toNat (List.getD l (spot 0 (Int.toNat j) 4 + 0) 0)) (Int.toNat (List.getD l (spot 0 (Int.toNat j) 4 + 1) 0)) (Int.toNat (List.getD l (spot 0 (Int.toNat j) 4 + 2) 0)) (Int.toNat (List.getD l (spot 0 (Int.toNat j) 4 + 3) 0))) (Int.toNat i)) : Int)) 16 + 2) 0 < 18446744073709551616)) = true) (h36 : (decide (0 ≤ List.getD tl (spot (spot 0 (Int.toNat j) 256) (Int.toNat (↑(digS (num4 (Int.toNat (List.getD l (spot 0 (Int.toNat j) 4 + 0) 0)) (Int.toNat (List.getD l (spot 0 (Int.toNat j) 4 + 1) 0)) (Int.toNat (List.getD l (spot 0 (Int.toNat j) 4 + 2) 0)) (Int.toNat (List.getD l (spot 0 (Int.toNat j) 4 + 3) 0))) (Int.toNat i)) : Int)) 16 + 3) 0) && decide (List.getD tl (spot (spot 0 (Int.toNat j) 256) (Int.toNat (↑(digS (num4 (Int.toNat (List.getD l (spot 0 (Int.toNat j) 4 + 0) 0)) (Int.toNat (List.getD l (spot 0 (Int.toNat j) 4 + 1) 0)) (Int.toNat (List.getD l (spot 0 (Int.toNat j) 4 + 2) 0)) (Int.toNat (List.getD l (spot 0 (Int.toNat j) 4 + 3) 0))) (Int.toNat i)) : Int)) 16 + 3) 0 < 18446744073709551616)) = true) (h37 : (decide (0 ≤ List.getD tl (spot (spot 0 (Int.toNat j) 256) (Int.toNat (↑(digS (num4 (Int.toNat (List.getD l (spot 0 (Int.toNat j) 4 + 0) 0)) (Int.toNat (List.getD l (spot 0 (Int.toNat j) 4 + 1) 0)) (Int.toNat (List.getD l (spot 0 (Int.toNat j) 4 + 2) 0)) (Int.toNat (List.getD l (spot 0 (Int.toNat j) 4 + 3) 0))) (Int.toNat i)) : Int)) 16 + 4) 0) && decide (List.getD tl (spot (spot 0 (Int.toNat j) 256) (Int.toNat (↑(digS (num4 (Int.toNat (List.getD l (spot 0 (Int.toNat j) 4 + 0) 0)) (Int.toNat (List.getD l (spot 0 (Int.toNat j) 4 + 1) 0)) (Int.toNat (List.getD l (spot 0 (Int.toNat j) 4 + 2) 0)) (Int.toNat (List.getD l (spot 0 (Int.toNat j) 4 + 3) 0))) (Int.toNat i)) : Int)) 16 + 4) 0 < 18446744073709551616)) = true) (h38 : (decide (0 ≤ List.getD tl (spot (spot 0 (Int.toNat j) 256) (Int.toNat (↑(digS (num4 (Int.toNat (List.getD l (spot 0 (Int.toNat j) 4 + 0) 0)) (Int.toNat (List.getD l (spot 0 (Int.toNat j) 4 + 1) 0)) (Int.toNat (List.getD l (spot 0 (Int.toNat j) 4 + 2) 0)) (Int.toNat (List.getD l (spot 0 (Int.toNat j) 4 + 3) 0))) (Int.toNat i)) : Int)) 16 + 5) 0) && decide (List.getD tl (spot (spot 0 (Int.toNat j) 256) (Int.toNat (↑(digS (num4 (Int.toNat (List.getD l (spot 0 (Int.toNat j) 4 + 0) 0)) (Int.toNat (List.getD l (spot 0 (Int.toNat j) 4 + 1) 0)) (Int.toNat (List.getD l (spot 0 (Int.toNat j) 4 + 2) 0)) (Int.toNat (List.getD l (spot 0 (Int.toNat j) 4 + 3) 0))) (Int.toNat i)) : Int)) 16 + 5) 0 < 18446744073709551616)) = true) (h39 : (decide (0 ≤ List.getD tl (spot (spot 0 (Int.toNat j) 256) (Int.toNat (↑(digS (num4 (Int.toNat (List.getD l (spot 0 (Int.toNat j) 4 + 0) 0)) (Int.toNat (List.getD l (spot 0 (Int.toNat j) 4 + 1) 0)) (Int.toNat (List.getD l (spot 0 (Int.toNat j) 4 + 2) 0)) (Int.toNat (List.getD l (spot 0 (Int.toNat j) 4 + 3) 0))) (Int.toNat i)) : Int)) 16 + 6) 0) && decide (List.getD tl (spot (spot 0 (Int.toNat j) 256) (Int.toNat (↑(digS (num4 (Int.toNat (List.getD l (spot 0 (Int.toNat j) 4 + 0) 0)) (Int.toNat (List.getD l (spot 0 (Int.toNat j) 4 + 1) 0)) (Int.toNat (List.getD l (spot 0 (Int.toNat j) 4 + 2) 0)) (Int.toNat (List.getD l (spot 0 (Int.toNat j) 4 + 3) 0))) (Int.toNat i)) : Int)) 16 + 6) 0 < 18446744073709551616)) = true) (h40 : (decide (0 ≤ List.getD tl (spot (spot 0 (Int.toNat j) 256) (Int.toNat (↑(digS (num4 (Int.toNat (List.getD l (spot 0 (Int.toNat j) 4 + 0) 0)) (Int.toNat (List.getD l (spot 0 (Int.toNat j) 4 + 1) 0)) (Int.toNat (List.getD l (spot 0 (Int.toNat j) 4 + 2) 0)) (Int.toNat (List.getD l (spot 0 (Int.toNat j) 4 + 3) 0))) (Int.toNat i)) : Int)) 16 + 7) 0) && decide (List.getD tl (spot (spot 0 (Int.toNat j) 256) (Int.toNat (↑(digS (num4 (Int.toNat (List.getD l (spot 0 (Int.toNat j) 4 + 0) 0)) (Int.toNat (List.getD l (spot 0 (Int.toNat j) 4 + 1) 0)) (Int.toNat (List.getD l (spot 0 (Int.toNat j) 4 + 2) 0)) (Int.toNat (List.getD l (spot 0 (Int.toNat j) 4 + 3) 0))) (Int.toNat i)) : Int)) 16 + 7) 0 < 18446744073709551616)) = true) (h41 : (decide (0 ≤ List.getD tl (spot (spot 0 (Int.toNat j) 256) (Int.toNat (↑(digS (num4 (Int.toNat (List.getD l (spot 0 (Int.toNat j) 4 + 0) 0)) (Int.toNat (List.getD l (spot 0 (Int.toNat j) 4 + 1) 0)) (Int.toNat (List.getD l (spot 0 (Int.toNat j) 4 + 2) 0)) (Int.toNat (List.getD l (spot 0 (Int.toNat j) 4 + 3) 0))) (Int.toNat i)) : Int)) 16 + 8) 0) && decide (List.getD tl (spot (spot 0 (Int.toNat j) 256) (Int.toNat (↑(digS (num4 (Int.toNat (List.getD l (spot 0 (Int.toNat j) 4 + 0) 0)) (Int.toNat (List.getD l (spot 0 (Int.toNat j) 4 + 1) 0)) (Int.toNat (List.getD l (spot 0 (Int.toNat j) 4 + 2) 0)) (Int.toNat (List.getD l (spot 0 (Int.toNat j) 4 + 3) 0))) (Int.toNat i)) : Int)) 16 + 8) 0 < 18446744073709551616)) = true) (h42 : (decide (0 ≤ List.getD tl (spot (spot 0 (Int.toNat j) 256) (Int.toNat (↑(digS (num4 (Int.toNat (List.getD l (spot 0 (Int.toNat j) 4 + 0) 0)) (Int.toNat (List.getD l (spot 0 (Int.toNat j) 4 + 1) 0)) (Int.toNat (List.getD l (spot 0 (Int.toNat j) 4 + 2) 0)) (Int.toNat (List.getD l (spot 0 (Int.toNat j) 4 + 3) 0))) (Int.toNat i)) : Int)) 16 + 9) 0) && decide (List.getD tl (spot (spot 0 (Int.toNat j) 256) (Int.toNat (↑(digS (num4 (Int.toNat (List.getD l (spot 0 (Int.toNat j) 4 + 0) 0)) (Int.toNat (List.getD l (spot 0 (Int.toNat j) 4 + 1) 0)) (Int.toNat (List.getD l (spot 0 (Int.toNat j) 4 + 2) 0)) (Int.toNat (List.getD l (spot 0 (Int.toNat j) 4 + 3) 0))) (Int.toNat i)) : Int)) 16 + 9) 0 < 18446744073709551616)) = true) (h43 : (decide (0 ≤ List.getD tl (spot (spot 0 (Int.toNat j) 256) (Int.toNat (↑(digS (num4 (Int.toNat (List.getD l (spot 0 (Int.toNat j) 4 + 0) 0)) (Int.toNat (List.getD l (spot 0 (Int.toNat j) 4 + 1) 0)) (Int.toNat (List.getD l (spot 0 (Int.toNat j) 4 + 2) 0)) (Int.toNat (List.getD l (spot 0 (Int.toNat j) 4 + 3) 0))) (Int.toNat i)) : Int)) 16 + 10) 0) && decide (List.getD tl (spot (spot 0 (Int.toNat j) 256) (Int.toNat (↑(digS (num4 (Int.toNat (List.getD l (spot 0 (Int.toNat j) 4 + 0) 0)) (Int.toNat (List.getD l (spot 0 (Int.toNat j) 4 + 1) 0)) (Int.toNat (List.getD l (spot 0 (Int.toNat j) 4 + 2) 0)) (Int.toNat (List.getD l (spot 0 (Int.toNat j) 4 + 3) 0))) (Int.toNat i)) : Int)) 16 + 10) 0 < 18446744073709551616)) = true) (h44 : (decide (0 ≤ List.getD tl (spot (spot 0 (Int.toNat j) 256) (Int.toNat (↑(digS (num4 (Int.toNat (List.getD l (spot 0 (Int.toNat j) 4 + 0) 0)) (Int.toNat (List.getD l (spot 0 (Int.toNat j) 4 + 1) 0)) (Int.toNat (List.getD l (spot 0 (Int.toNat j) 4 + 2) 0)) (Int.toNat (List.getD l (spot 0 (Int.toNat j) 4 + 3) 0))) (Int.toNat i)) : Int)) 16 + 11) 0) && decide (List.getD tl (spot (spot 0 (Int.toNat j) 256) (Int.toNat (↑(digS (num4 (Int.toNat (List.getD l (spot 0 (Int.toNat j) 4 + 0) 0)) (Int.toNat (List.getD l (spot 0 (Int.toNat j) 4 + 1) 0)) (Int.toNat (List.getD l (spot 0 (Int.toNat j) 4 + 2) 0)) (Int.toNat (List.getD l (spot 0 (Int.toNat j) 4 + 3) 0))) (Int.toNat i)) : Int)) 16 + 11) 0 < 18446744073709551616)) = true) (h45 : (decide (0 ≤ List.getD tl (spot (spot 0 (Int.toNat j) 256) (Int.toNat (↑(digS (num4 (Int.toNat (List.getD l (spot 0 (Int.toNat j) 4 + 0) 0)) (Int.toNat (List.getD l (spot 0 (Int.toNat j) 4 + 1) 0)) (Int.toNat (List.getD l (spot 0 (Int.toNat j) 4 + 2) 0)) (Int.toNat (List.getD l (spot 0 (Int.toNat j) 4 + 3) 0))) (Int.toNat i)) : Int)) 16 + 12) 0) && decide (List.getD tl (spot (spot 0 (Int.toNat j) 256) (Int.toNat (↑(digS (num4 (Int.toNat (List.getD l (spot 0 (Int.toNat j) 4 + 0) 0)) (Int.toNat (List.getD l (spot 0 (Int.toNat j) 4 + 1) 0)) (Int.toNat (List.getD l (spot 0 (Int.toNat j) 4 + 2) 0)) (Int.toNat (List.getD l (spot 0 (Int.toNat j) 4 + 3) 0))) (Int.toNat i)) : Int)) 16 + 12) 0 < 18446744073709551616)) = true) (h46 : (decide (0 ≤ List.getD tl (spot (spot 0 (Int.toNat j) 256) (Int.toNat (↑(digS (num4 (Int.toNat (List.getD l (spot 0 (Int.toNat j) 4 + 0) 0)) (Int.toNat (List.getD l (spot 0 (Int.toNat j) 4 + 1) 0)) (Int.toNat (List.getD l (spot 0 (Int.toNat j) 4 + 2) 0)) (Int.toNat (List.getD l (spot 0 (Int.toNat j) 4 + 3) 0))) (Int.toNat i)) : Int)) 16 + 13) 0) && decide (List.getD tl (spot (spot 0 (Int.toNat j) 256) (Int.toNat (↑(digS (num4 (Int.toNat (List.getD l (spot 0 (Int.toNat j) 4 + 0) 0)) (Int.toNat (List.getD l (spot 0 (Int.toNat j) 4 + 1) 0)) (Int.toNat (List.getD l (spot 0 (Int.toNat j) 4 + 2) 0)) (Int.toNat (List.getD l (spot 0 (Int.toNat j) 4 + 3) 0))) (Int.toNat i)) : Int)) 16 + 13) 0 < 18446744073709551616)) = true) (h47 : (decide (0 ≤ List.getD tl (spot (spot 0 (Int.toNat j) 256) (Int.toNat (↑(digS (num4 (Int.toNat (List.getD l (spot 0 (Int.toNat j) 4 + 0) 0)) (Int.toNat (List.getD l (spot 0 (Int.toNat j) 4 + 1) 0)) (Int.toNat (List.getD l (spot 0 (Int.toNat j) 4 + 2) 0)) (Int.toNat (List.getD l (spot 0 (Int.toNat j) 4 + 3) 0))) (Int.toNat i)) : Int)) 16 + 14) 0) && decide (List.getD tl (spot (spot 0 (Int.toNat j) 256) (Int.toNat (↑(digS (num4 (Int.toNat (List.getD l (spot 0 (Int.toNat j) 4 + 0) 0)) (Int.toNat (List.getD l (spot 0 (Int.toNat j) 4 + 1) 0)) (Int.toNat (List.getD l (spot 0 (Int.toNat j) 4 + 2) 0)) (Int.toNat (List.getD l (spot 0 (Int.toNat j) 4 + 3) 0))) (Int.toNat i)) : Int)) 16 + 14) 0 < 18446744073709551616)) = true) (h48 : (decide (0 ≤ List.getD tl (spot (spot 0 (Int.toNat j) 256) (Int.toNat (↑(digS (num4 (Int.toNat (List.getD l (spot 0 (Int.toNat j) 4 + 0) 0)) (Int.toNat (List.getD l (spot 0 (Int.toNat j) 4 + 1) 0)) (Int.toNat (List.getD l (spot 0 (Int.toNat j) 4 + 2) 0)) (Int.toNat (List.getD l (spot 0 (Int.toNat j) 4 + 3) 0))) (Int.toNat i)) : Int)) 16 + 15) 0) && decide (List.getD tl (spot (spot 0 (Int.toNat j) 256) (Int.toNat (↑(digS (num4 (Int.toNat (List.getD l (spot 0 (Int.toNat j) 4 + 0) 0)) (Int.toNat (List.getD l (spot 0 (Int.toNat j) 4 + 1) 0)) (Int.toNat (List.getD l (spot 0 (Int.toNat j) 4 + 2) 0)) (Int.toNat (List.getD l (spot 0 (Int.toNat j) 4 + 3) 0))) (Int.toNat i)) : Int)) 16 + 15) 0 < 18446744073709551616)) = true) : Sx.Spec Try.prog 265 [W.int IntKind.i64 j, W.int IntKind.i64 i, W.c (C.ptr 0 0), W.c (C.ptr 1 0), W.c (C.ptr 2 0), W.c (C.ptr 3 0), W.c (C.ptr 4 0)] [Blk.mk 165 Mode.rw (K.cs [C.sl 5 0 n]), Blk.mk 149 Mode.rw (K.cs [C.v (Value.func (Fn.func 145) #[Value.agg #[Value.int IntKind.u64 16993941304535871833, Value.int IntKind.u64 63073048630374742, Value.int IntKind.u64 1841551078520508720, Value.int IntKind.u64 2596001775599221991]] #[])]), Blk.mk 129 Mode.rw (K.cs [C.u c0, C.u c1, C.u c2, C.u c3, C.u c4, C.u c5, C.u c6, C.u c7, C.u c8, C.u c9, C.u c10, C.u c11, C.u c12, C.u c13, C.u c14, C.u c15]), Blk.mk 251 Mode.rw (K.cs [C.own 6]), Blk.mk 4 Mode.rw (K.cs [C.v (Value.bool b)]), Blk.mk t5 Mode.ro (K.ints IntKind.u64 l), Blk.mk 252 (Mode.own m) (K.ints IntKind.u64 tl)] ⟨V.tup [], [(2, ⟨129, .rw, .cs (numCs [(askQ l j i tl (old16 c0 c1 c2 c3 c4 c5 c6 c7 c8 c9 c10 c11 c12 c13 c14 c15)).x, (askQ l j i tl (old16 c0 c1 c2 c3 c4 c5 c6 c7 c8 c9 c10 c11 c12 c13 c14 c15)).y, (askQ l j i tl (old16 c0 c1 c2 c3 c4 c5 c6 c7 c8 c9 c10 c11 c12 c13 c14 c15)).z, (askQ l j i tl (old16 c0 c1 c2 c3 c4 c5 c6 c7 c8 c9 c10 c11 c12 c13 c14 c15)).t])⟩), (4, ⟨4, .rw, .cs [.v (.bool true)]⟩)], []⟩ :=
  spec_of_whole (tab_ok lcm2_ok) mixed Try.func265 [(17, true)] 1000000 [(0, none), (1, none), (2, none), (3, none), (4, none), (5, none), (6, none)] (by kernel_rfl) (by kernel_rfl) (by kernel_rfl) (by kernel_rfl) (by kernel_rfl) (by kernel_rfl)
    (ocons (decide_eq_true h1) (ocons (decide_eq_true h2) (ocons (bltT h3) (ocons (bltT h4) (ocons (bltT h5) (ocons (bltT h6) (ocons (decide_eq_true h7) (ocons (decide_eq_true h8) (ocons h9 (ocons h10 (ocons h11 (ocons h12 (ocons (decide_eq_true h13) (ocons (decide_eq_true h1) (ocons (decide_eq_true h14) (ocons (decide_eq_true h15) (ocons (decide_eq_true h16) (ocons (bltT h17) (ocons (bltT h18) (ocons (bltT h19) (ocons (bltT h20) (ocons (bltT h21) (ocons (bltT h22) (ocons (bltT h23) (ocons (bltT h24) (ocons (bltT h25) (ocons (bltT h26) (ocons (bltT h27) (ocons (bltT h28) (ocons (bltT h29) (ocons (bltT h30) (ocons (bltT h31) (ocons (bltT h32) (ocons h33 (ocons h34 (ocons h35 (ocons h36 (ocons h37 (ocons h38 (ocons h39 (ocons h40 (ocons h41 (ocons h42 (ocons h43 (ocons h44 (ocons h45 (ocons h46 (ocons h47 (ocons h48 (ocons rfl (ocons rfl onil)))))))))))))))))))))))))))))))))))))))))))))))))))
theorem s265_2 (j : Int) (i : Int) (n : Nat) (m : Nat) (t5 : Nat) (c0 : Nat) (c1 : Nat) (c2 : Nat) (c3 : Nat) (c4 : Nat) (c5 : Nat) (c6 : Nat) (c7 : Nat) (c8 : Nat) (c9 : Nat) (c10 : Nat) (c11 : Nat) (c12 : Nat) (c13 : Nat) (c14 : Nat) (c15 : Nat) (b : Bool) (l : List Int) (tl : List Int) (h1 : 0 ≤ j) (h2 : j < (↑n : Int)) (h3 : spot 0 (Int.toNat j) 4 + 0 < List.length l) (h4 : spot 0 (Int.toNat j) 4 + 1 < List.length l) (h5 : spot 0 (Int.toNat j) 4 + 2 < List.length l) (h6 : spot 0 (Int.toNat j) 4 + 3 < List.length l) (h7 : 0 ≤ i) (h8 : i < 64) (h9 : (decide (0 ≤ List.getD l (spot 0 (Int.toNat j) 4 + 0) 0) && decide (List.getD l (spot 0 (Int.toNat j) 4 + 0) 0 < 18446744073709551616)) = true) (h10 : (decide (0 ≤ List.getD l (spot 0 (Int.toNat j) 4 + 1) 0) && decide (List.getD l (spot 0 (Int.toNat j) 4 + 1) 0 < 18446744073709551616)) = true) (h11 : (decide (0 ≤ List.getD l (spot 0 (Int.toNat j) 4 + 2) 0) && decide (List.getD l (spot 0 (Int.toNat j) 4 + 2) 0 < 18446744073709551616)) = true) (h12 : (decide (0 ≤ List.getD l (spot 0 (Int.toNat j) 4 + 3) 0) && decide (List.getD l (spot 0 (Int.toNat j) 4 + 3) 0 < 18446744073709551616)) = true) (h13 : ¬(↑(digS (num4 (Int.toNat (List.getD l (spot 0 (Int.toNat j) 4 + 0) 0)) (Int.toNat (List.getD l (spot 0 (Int.toNat j) 4 + 1) 0)) (Int.toNat (List.getD l (spot 0 (Int.toNat j) 4 + 2) 0)) (Int.toNat (List.getD l (spot 0 (Int.toNat j) 4 + 3) 0))) (Int.toNat i)) : Int) > 0) : Sx.Spec Try.prog 265 [W.int IntKind.i64 j, W.int IntKind.i64 i, W.c (C.ptr 0 0), W.c (C.ptr 1 0), W.c (C.ptr 2 0), W.c (C.ptr 3 0), W.c (C.ptr 4 0)] [Blk.mk 165 Mode.rw (K.cs [C.sl 5 0 n]), Blk.mk 149 Mode.rw (K.cs [C.v (Value.func (Fn.func 145) #[Value.agg #[Value.int IntKind.u64 16993941304535871833, Value.int IntKind.u64 63073048630374742, Value.int IntKind.u64 1841551078520508720, Value.int IntKind.u64 2596001775599221991]] #[])]), Blk.mk 129 Mode.rw (K.cs [C.u c0, C.u c1, C.u c2, C.u c3, C.u c4, C.u c5, C.u c6, C.u c7, C.u c8, C.u c9, C.u c10, C.u c11, C.u c12, C.u c13, C.u c14, C.u c15]), Blk.mk 251 Mode.rw (K.cs [C.own 6]), Blk.mk 4 Mode.rw (K.cs [C.v (Value.bool b)]), Blk.mk t5 Mode.ro (K.ints IntKind.u64 l), Blk.mk 252 (Mode.own m) (K.ints IntKind.u64 tl)] ⟨V.tup [], [], []⟩ :=
  spec_of_whole (tab_ok lcm2_ok) mixed Try.func265 [(17, false)] 1000000 [(0, none), (1, none), (2, none), (3, none), (4, none), (5, none), (6, none)] (by kernel_rfl) (by kernel_rfl) (by kernel_rfl) (by kernel_rfl) (by kernel_rfl) (by kernel_rfl)
    (ocons (decide_eq_true h1) (ocons (decide_eq_true h2) (ocons (bltT h3) (ocons (bltT h4) (ocons (bltT h5) (ocons (bltT h6) (ocons (decide_eq_true h7) (ocons (decide_eq_true h8) (ocons h9 (ocons h10 (ocons h11 (ocons h12 (ocons (ndec h13) onil)))))))))))))

theorem spec_upd {f : FuncId} {sa : List Sx.W} {ms : List Blk} {v : V} {u u' : List (Nat × Blk)} {n : List Blk} (e : applyU ms u = applyU ms u') (h : Sx.Spec Try.prog f sa ms ⟨v, u, n⟩) : Sx.Spec Try.prog f sa ms ⟨v, u', n⟩ := by
  intro ρ vs w ha hM
  have k := h ρ vs w ha hM
  unfold Post at *
  simp only [e] at k
  exact k
theorem getD_w {l : List Int} (h : l.all isW = true) (i : Nat) : (decide (0 ≤ List.getD l i 0) && decide (List.getD l i 0 < 18446744073709551616)) = true := getD_isW (List.all_eq_true.1 h) i
theorem e265_ok : EntryOk Try.prog 265 e265 := by
  intro args ms r obs he ho
  unfold e265 at he
  split at he
  · rename_i j i t0 n t1 f t2 c0 c1 c2 c3 c4 c5 c6 c7 c8 c9 c10 c11 c12 c13 c14 c15 t3 t4 b t5 l t6 m tl
    cases hb : (Nat.beq t0 165 && (Nat.beq t1 149 && (isAd f && (Nat.beq t2 129 && (Nat.beq t3 251 && (Nat.beq t4 4 && Nat.beq t6 252)))))) with
    | false => rw [hb] at he; cases he
    | true =>
      rw [hb, cond_true] at he
      cases he
      simp only [Bool.and_eq_true, Nat.beq_eq] at hb
      obtain ⟨rfl, rfl, hf, rfl, rfl, rfl, rfl⟩ := hb
      have ef := isAd_eq hf
      subst ef
      simp only [List.mem_cons, List.not_mem_nil, or_false, forall_eq_or_imp, forall_eq, decide_eq_true_eq, Nat.beq_eq] at ho
      obtain ⟨h1, h2, g3, g4, g5, g6, h7, h8, rfl⟩ := ho
      have hm : j < (m : Int) := h2
      have hj : j.toNat < m := by omega
      have e0 : spot 0 (Int.toNat j) 4 = j.toNat * 4 := rfl
      have hL : ∀ k, k < 4 → spot 0 (Int.toNat j) 4 + k < l.length := fun k hk => by rw [e0]; omega
      have hW : ∀ k, (decide (0 ≤ List.getD l (spot 0 (Int.toNat j) 4 + k) 0) && decide (List.getD l (spot 0 (Int.toNat j) 4 + k) 0 < 18446744073709551616)) = true := fun k => getD_w g4 _
      have hdl : digS (kAtL l j) i.toNat < 16 := by unfold digS; rw [sealN_eq]; exact Nat.mod_lt _ (by decide)
      cases hz0 : askZ l j i with
      | true =>
        have hz : ¬ ((digS (kAtL l j) i.toNat : Nat) : Int) > 0 := by
          unfold askZ at hz0
          rw [Nat.beq_eq.mp hz0]
          omega
        refine spec_upd (u := []) ?_ (s265_2 j i m m t5 c0 c1 c2 c3 c4 c5 c6 c7 c8 c9 c10 c11 c12 c13 c14 c15 b l tl h1 h2 (hL 0 (by omega)) (hL 1 (by omega)) (hL 2 (by omega)) (hL 3 (by omega)) h7 h8 (hW 0) (hW 1) (hW 2) (hW 3) hz)
        cases b <;> rfl
      | false =>
        have hz : ((digS (kAtL l j) i.toNat : Nat) : Int) > 0 := by
          unfold askZ at hz0
          have : digS (kAtL l j) i.toNat ≠ 0 := fun h => by rw [h] at hz0; cases hz0
          omega
        have hd : ((digS (kAtL l j) i.toNat : Nat) : Int) < 16 := by omega
        have e1 : spot (spot 0 (Int.toNat j) 256) (Int.toNat ((digS (kAtL l j) i.toNat : Nat) : Int)) 16 = j.toNat * 256 + digS (kAtL l j) i.toNat * 16 := by
          rw [Int.toNat_natCast, show spot 0 (Int.toNat j) 256 = j.toNat * 256 from rfl]
          unfold spot
          cases hq : j.toNat * 256 with
          | zero => simp
          | succ q => simp
        have hT : ∀ k, k < 16 → spot (spot 0 (Int.toNat j) 256) (Int.toNat ((digS (kAtL l j) i.toNat : Nat) : Int)) 16 + k < tl.length := fun k hk => by rw [e1]; omega
        have hU : ∀ k, (decide (0 ≤ List.getD tl (spot (spot 0 (Int.toNat j) 256) (Int.toNat ((digS (kAtL l j) i.toNat : Nat) : Int)) 16 + k) 0) && decide (List.getD tl (spot (spot 0 (Int.toNat j) 256) (Int.toNat ((digS (kAtL l j) i.toNat : Nat) : Int)) 16 + k) 0 < 18446744073709551616)) = true := fun k => getD_w g6 _
        have k := s265t j i m m t5 c0 c1 c2 c3 c4 c5 c6 c7 c8 c9 c10 c11 c12 c13 c14 c15 b l tl h1 h2 (hL 0 (by omega)) (hL 1 (by omega)) (hL 2 (by omega)) (hL 3 (by omega)) h7 h8 (hW 0) (hW 1) (hW 2) (hW 3) hz hm (by omega) hd (hT 0 (by omega)) (hT 1 (by omega)) (hT 2 (by omega)) (hT 3 (by omega)) (hT 4 (by omega)) (hT 5 (by omega)) (hT 6 (by omega)) (hT 7 (by omega)) (hT 8 (by omega)) (hT 9 (by omega)) (hT 10 (by omega)) (hT 11 (by omega)) (hT 12 (by omega)) (hT 13 (by omega)) (hT 14 (by omega)) (hT 15 (by omega)) (hU 0) (hU 1) (hU 2) (hU 3) (hU 4) (hU 5) (hU 6) (hU 7) (hU 8) (hU 9) (hU 10) (hU 11) (hU 12) (hU 13) (hU 14) (hU 15)
        rw [Bool.not_false, Bool.or_true]
        exact k
  · cases he
noncomputable def lcm3 : List (Nat × Entry) := [(265, e265)] ++ lcm2
theorem lcm3_ok : AllOk Try.prog lcm3 := .cons e265_ok lcm2_ok
end Go.Proofs.Ytmjejlbmcefaoaa
