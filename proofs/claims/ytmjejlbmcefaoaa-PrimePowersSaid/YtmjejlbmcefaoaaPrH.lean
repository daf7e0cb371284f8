/- The reference: powers, inverses; what lives. -/
import Derived.Test.YtmjejlbmcefaoaaPrG
namespace Go.Proofs.Ytmjejlbmcefaoaa
open Go Sx

def orF (F G : Entry) : Entry := fun args ms => match F args ms with
  | some r => some r
  | none => G args ms
theorem orF_ok {P : Program} {f : FuncId} {F G : Entry} (hF : EntryOk P f F) (hG : EntryOk P f G) : EntryOk P f (orF F G) := by
  intro args ms r obs h ho
  unfold orF at h
  split at h
  · rename_i p hp
    cases h
    exact hF _ _ _ _ hp ho
  · exact hG _ _ _ _ h ho

/-- p and a word that is no limb: minus two, minus one. -/
def e85x : Entry := fun args ms => match args, ms with
  | [.c (.sl 0 0 16), .c (.sl 1 0 1)], [⟨t, .ro, .ints .u64 l⟩, ⟨u, .ro, .ints .u64 m⟩] =>
    bif Nat.beq t 22 && Nat.beq u 22 && decide (l = [65517, 65535, 65535, 65535, 65535, 65535, 65535, 65535, 65535, 65535, 65535, 65535, 65535, 65535, 65535, 32767]) then
      (bif decide (m = [18446744073709551614]) then some (⟨.w (.c (.own 2)), [], [⟨22, .own 17, .ints .u64 [65515, 65535, 65535, 65535, 65535, 65535, 65535, 65535, 65535, 65535, 65535, 65535, 65535, 65535, 65535, 32767, 0]⟩]⟩, [])
       else bif decide (m = [18446744073709551615]) then some (⟨.w (.c (.own 2)), [], [⟨22, .own 17, .ints .u64 [65516, 65535, 65535, 65535, 65535, 65535, 65535, 65535, 65535, 65535, 65535, 65535, 65535, 65535, 65535, 32767, 0]⟩]⟩, []) else none)
    else none
  | _, _ => none
theorem s85x_1 : Sx.Spec Try.prog 85 [W.c (C.sl 0 0 16), W.c (C.sl 1 0 1)] [Blk.mk 22 Mode.ro (K.ints IntKind.u64 [65517, 65535, 65535, 65535, 65535, 65535, 65535, 65535, 65535, 65535, 65535, 65535, 65535, 65535, 65535, 32767]), Blk.mk 22 Mode.ro (K.ints IntKind.u64 [18446744073709551614])] ⟨V.w (W.c (C.own 2)), [], [Blk.mk 22 (Mode.own 17) (K.ints IntKind.u64 [65515, 65535, 65535, 65535, 65535, 65535, 65535, 65535, 65535, 65535, 65535, 65535, 65535, 65535, 65535, 32767, 0])]⟩ :=
  spec_of_whole (tab_ok libg0_ok) mixed Try.func85 [] 1000000 [(0, none), (1, none), (30, none)] (by kernel_rfl) (by kernel_rfl) (by kernel_rfl) (by kernel_rfl) (by kernel_rfl) (by kernel_rfl)
    (ocons rfl (ocons rfl (ocons rfl (ocons rfl (ocons rfl (ocons rfl (ocons rfl (ocons rfl (ocons rfl (ocons rfl (ocons rfl (ocons rfl (ocons rfl (ocons rfl (ocons rfl (ocons rfl (ocons rfl (ocons rfl (ocons rfl (ocons rfl (ocons rfl (ocons rfl (ocons rfl (ocons rfl (ocons rfl (ocons rfl (ocons rfl (ocons rfl (ocons rfl (ocons rfl (ocons rfl (ocons rfl (ocons rfl (ocons rfl (ocons rfl (ocons rfl (ocons rfl (ocons rfl (ocons rfl (ocons rfl (ocons rfl (ocons rfl (ocons rfl (ocons rfl (ocons rfl (ocons rfl (ocons rfl (ocons rfl (ocons rfl (ocons rfl (ocons rfl (ocons rfl (ocons rfl (ocons rfl (ocons rfl (ocons rfl (ocons rfl (ocons rfl (ocons rfl (ocons rfl (ocons rfl (ocons rfl (ocons rfl (ocons rfl (ocons rfl (ocons rfl (ocons rfl (ocons rfl (ocons rfl (ocons rfl (ocons rfl (ocons rfl (ocons rfl (ocons rfl (ocons rfl (ocons rfl (ocons rfl (ocons rfl (ocons rfl (ocons rfl (ocons rfl (ocons rfl (ocons rfl (ocons rfl (ocons rfl (ocons rfl (ocons rfl (ocons rfl (ocons rfl (ocons rfl (ocons rfl (ocons rfl (ocons rfl (ocons rfl (ocons rfl (ocons rfl (ocons rfl (ocons rfl (ocons rfl (ocons rfl (ocons rfl (ocons rfl (ocons rfl (ocons rfl (ocons rfl (ocons rfl (ocons rfl (ocons rfl (ocons rfl (ocons rfl (ocons rfl (ocons rfl (ocons rfl (ocons rfl (ocons rfl (ocons rfl (ocons rfl (ocons rfl (ocons rfl (ocons rfl (ocons rfl (ocons rfl (ocons rfl (ocons rfl (ocons rfl (ocons rfl (ocons rfl (ocons rfl (ocons rfl (ocons rfl (ocons rfl (ocons rfl (ocons rfl (ocons rfl (ocons rfl (ocons rfl (ocons rfl (ocons rfl (ocons rfl onil)))))))))))))))))))))))))))))))))))))))))))))))))))))))))))))))))))))))))))))))))))))))))))))))))))))))))))))))))))))))))))))))))))))))))))

theorem s85y_1 : Sx.Spec Try.prog 85 [W.c (C.sl 0 0 16), W.c (C.sl 1 0 1)] [Blk.mk 22 Mode.ro (K.ints IntKind.u64 [65517, 65535, 65535, 65535, 65535, 65535, 65535, 65535, 65535, 65535, 65535, 65535, 65535, 65535, 65535, 32767]), Blk.mk 22 Mode.ro (K.ints IntKind.u64 [18446744073709551615])] ⟨V.w (W.c (C.own 2)), [], [Blk.mk 22 (Mode.own 17) (K.ints IntKind.u64 [65516, 65535, 65535, 65535, 65535, 65535, 65535, 65535, 65535, 65535, 65535, 65535, 65535, 65535, 65535, 32767, 0])]⟩ :=
  spec_of_whole (tab_ok libg0_ok) mixed Try.func85 [] 1000000 [(0, none), (1, none), (30, none)] (by kernel_rfl) (by kernel_rfl) (by kernel_rfl) (by kernel_rfl) (by kernel_rfl) (by kernel_rfl)
    (ocons rfl (ocons rfl (ocons rfl (ocons rfl (ocons rfl (ocons rfl (ocons rfl (ocons rfl (ocons rfl (ocons rfl (ocons rfl (ocons rfl (ocons rfl (ocons rfl (ocons rfl (ocons rfl (ocons rfl (ocons rfl (ocons rfl (ocons rfl (ocons rfl (ocons rfl (ocons rfl (ocons rfl (ocons rfl (ocons rfl (ocons rfl (ocons rfl (ocons rfl (ocons rfl (ocons rfl (ocons rfl (ocons rfl (ocons rfl (ocons rfl (ocons rfl (ocons rfl (ocons rfl (ocons rfl (ocons rfl (ocons rfl (ocons rfl (ocons rfl (ocons rfl (ocons rfl (ocons rfl (ocons rfl (ocons rfl (ocons rfl (ocons rfl (ocons rfl (ocons rfl (ocons rfl (ocons rfl (ocons rfl (ocons rfl (ocons rfl (ocons rfl (ocons rfl (ocons rfl (ocons rfl (ocons rfl (ocons rfl (ocons rfl (ocons rfl (ocons rfl (ocons rfl (ocons rfl (ocons rfl (ocons rfl (ocons rfl (ocons rfl (ocons rfl (ocons rfl (ocons rfl (ocons rfl (ocons rfl (ocons rfl (ocons rfl (ocons rfl (ocons rfl (ocons rfl (ocons rfl (ocons rfl (ocons rfl (ocons rfl (ocons rfl (ocons rfl (ocons rfl (ocons rfl (ocons rfl (ocons rfl (ocons rfl (ocons rfl (ocons rfl (ocons rfl (ocons rfl (ocons rfl (ocons rfl (ocons rfl (ocons rfl (ocons rfl (ocons rfl (ocons rfl (ocons rfl (ocons rfl (ocons rfl (ocons rfl (ocons rfl (ocons rfl (ocons rfl (ocons rfl (ocons rfl (ocons rfl (ocons rfl (ocons rfl (ocons rfl (ocons rfl (ocons rfl (ocons rfl (ocons rfl (ocons rfl (ocons rfl (ocons rfl (ocons rfl (ocons rfl (ocons rfl (ocons rfl (ocons rfl (ocons rfl (ocons rfl (ocons rfl (ocons rfl (ocons rfl (ocons rfl (ocons rfl (ocons rfl (ocons rfl (ocons rfl onil)))))))))))))))))))))))))))))))))))))))))))))))))))))))))))))))))))))))))))))))))))))))))))))))))))))))))))))))))))))))))))))))))))))))))))


theorem e85x_ok : EntryOk Try.prog 85 e85x := by
  intro args ms r obs h ho
  unfold e85x at h
  split at h
  · rename_i t l u m
    cases hb : Nat.beq t 22 && Nat.beq u 22 && decide (l = [65517, 65535, 65535, 65535, 65535, 65535, 65535, 65535, 65535, 65535, 65535, 65535, 65535, 65535, 65535, 32767]) with
    | false => rw [hb] at h; cases h
    | true =>
      rw [hb, cond_true] at h
      simp only [Bool.and_eq_true, Nat.beq_eq, decide_eq_true_eq] at hb
      obtain ⟨⟨rfl, rfl⟩, rfl⟩ := hb
      cases h1 : decide (m = [18446744073709551614]) with
      | true =>
        rw [h1, cond_true] at h
        have := of_decide_eq_true h1
        subst this
        cases h
        exact s85x_1
      | false =>
        rw [h1, cond_false] at h
        cases h2 : decide (m = [18446744073709551615]) with
        | true =>
          rw [h2, cond_true] at h
          have := of_decide_eq_true h2
          subst this
          cases h
          exact s85y_1
        | false => rw [h2] at h; cases h
  · cases h
def libr1 :List (Nat × Entry) := [(105, e105), (109, e109), (112, e112), (114, e114), (115, e115), (117, e117)] ++ libr0
def libr1x : List (Nat × Entry) := (85, roE [.ints .u64, .ints .u64] (orF e85x e85)) :: libr1
theorem libr1_ok : AllOk Try.prog libr1 := .cons e105_ok (.cons e109_ok (.cons e112_ok (.cons e114_ok (.cons e115_ok (.cons e117_ok libr0_ok)))))
theorem libr1x_ok : AllOk Try.prog libr1x := .cons (roE_ok (orF_ok e85x_ok e85_ok)) libr1_ok
noncomputable def s119k0 : List Item := kAt Try.prog (tab libr1) Try.f119 [] 0 [W.agg [C.u 1, C.u 0, C.u 0, C.u 0], W.agg [C.u 1, C.u 0, C.u 0, C.u 0]] []
noncomputable def s119st0 (k : Nat) (t8 : Int) (b2_0 : Nat) (b2_1 : Nat) (b2_2 : Nat) (b2_3 : Nat) (b3_0 : Nat) (b3_1 : Nat) (b3_2 : Nat) (b3_3 : Nat) : Cfg := cfg s119k0 [4, 5, 6, 7, 8] [V.w (W.c (C.ptr 0 0)), V.w (W.c (C.own 1)), V.w (W.c (C.ptr 2 0)), V.w (W.c (C.ptr 3 0)), V.int IntKind.i64 t8] [Blk.mk 79 Mode.rw (K.cs [C.u 0, C.u 0, C.u 0, C.u 0]), Blk.mk 22 (Mode.own 16) (K.ints IntKind.u64 (lim 16 (nn k))), Blk.mk 79 Mode.rw (K.cs [C.u b2_0, C.u b2_1, C.u b2_2, C.u b2_3]), Blk.mk 79 Mode.rw (K.cs [C.u b3_0, C.u b3_1, C.u b3_2, C.u b3_3])]
theorem s119_1 {ρ : Env} {w : World} {r : Res} (a : Nat) (k : Nat) (hg : G (mkX Try.prog (tab libr1) Try.f119 [] ρ w r) (s119st0 k (0) (1) (0) (0) (0) (a) (a / 18446744073709551616) (a / 340282366920938463463374607431768211456) (a / 6277101735386680763835789423207666416102355444464034512896))) : G (mkX Try.prog (tab libr1) Try.f119 [] ρ w r) (cfg [.code (Try.f119.body.getD .skip)] (List.range 2) ([W.agg [C.u a, C.u (a / 18446744073709551616), C.u (a / 340282366920938463463374607431768211456), C.u (a / 6277101735386680763835789423207666416102355444464034512896)], W.agg [C.u k, C.u (k / 18446744073709551616), C.u (k / 340282366920938463463374607431768211456), C.u (k / 6277101735386680763835789423207666416102355444464034512896)]].map V.w) []) :=
  G.seg (X := mkX Try.prog (tab libr1) Try.f119 [] ρ w r) ⟨tab_ok libr1_ok, mixed⟩ [] 1000000 0 [4, 5, 6, 7, 8] [(8, none), (16, none), (28, none), (40, none)] (k := s119k0) (vs := [V.w (W.c (C.ptr 0 0)), V.w (W.c (C.own 1)), V.w (W.c (C.ptr 2 0)), V.w (W.c (C.ptr 3 0)), V.int IntKind.i64 0]) (bs := [Blk.mk 79 Mode.rw (K.cs [C.u 0, C.u 0, C.u 0, C.u 0]), Blk.mk 22 (Mode.own 16) (K.ints IntKind.u64 (lim 16 (nn k))), Blk.mk 79 Mode.rw (K.cs [C.u 1, C.u 0, C.u 0, C.u 0]), Blk.mk 79 Mode.rw (K.cs [C.u a, C.u (a / 18446744073709551616), C.u (a / 340282366920938463463374607431768211456), C.u (a / 6277101735386680763835789423207666416102355444464034512896)])]) (by kernel_rfl) (by kernel_rfl)
    (ocons rfl (ocons rfl (ocons rfl onil))) hg
theorem s119_2 {ρ : Env} {w : World} {r : Res} (a : Nat) (k : Nat) (t8 : Int) (b2_0 : Nat) (b2_1 : Nat) (b2_2 : Nat) (b2_3 : Nat) (b3_0 : Nat) (b3_1 : Nat) (b3_2 : Nat) (b3_3 : Nat) (h1 : t8 < 256) (h2 : List.length (lim 16 (nn k)) = 16) (h3 : limOk (lim 16 (nn k)) = true) (h4 : 0 ≤ t8) (h5 : t8 ≤ 16000000000) (h6 : (↑(bitL (lim 16 (nn k)) t8) : Int) = 1) (hg : G (mkX Try.prog (tab libr1) Try.f119 [] ρ w r) (s119st0 k (IntKind.wrap IntKind.i64 (t8 + 1)) (num4 (b2_0 % 18446744073709551616) (b2_1 % 18446744073709551616) (b2_2 % 18446744073709551616) (b2_3 % 18446744073709551616) * num4 (b3_0 % 18446744073709551616) (b3_1 % 18446744073709551616) (b3_2 % 18446744073709551616) (b3_3 % 18446744073709551616) % 57896044618658097711785492504343953926634992332820282019728792003956564819949) (num4 (b2_0 % 18446744073709551616) (b2_1 % 18446744073709551616) (b2_2 % 18446744073709551616) (b2_3 % 18446744073709551616) * num4 (b3_0 % 18446744073709551616) (b3_1 % 18446744073709551616) (b3_2 % 18446744073709551616) (b3_3 % 18446744073709551616) % 57896044618658097711785492504343953926634992332820282019728792003956564819949 / 18446744073709551616) (num4 (b2_0 % 18446744073709551616) (b2_1 % 18446744073709551616) (b2_2 % 18446744073709551616) (b2_3 % 18446744073709551616) * num4 (b3_0 % 18446744073709551616) (b3_1 % 18446744073709551616) (b3_2 % 18446744073709551616) (b3_3 % 18446744073709551616) % 57896044618658097711785492504343953926634992332820282019728792003956564819949 / 340282366920938463463374607431768211456) (num4 (b2_0 % 18446744073709551616) (b2_1 % 18446744073709551616) (b2_2 % 18446744073709551616) (b2_3 % 18446744073709551616) * num4 (b3_0 % 18446744073709551616) (b3_1 % 18446744073709551616) (b3_2 % 18446744073709551616) (b3_3 % 18446744073709551616) % 57896044618658097711785492504343953926634992332820282019728792003956564819949 / 6277101735386680763835789423207666416102355444464034512896) (num4 (b3_0 % 18446744073709551616) (b3_1 % 18446744073709551616) (b3_2 % 18446744073709551616) (b3_3 % 18446744073709551616) * num4 (b3_0 % 18446744073709551616) (b3_1 % 18446744073709551616) (b3_2 % 18446744073709551616) (b3_3 % 18446744073709551616) % 57896044618658097711785492504343953926634992332820282019728792003956564819949) (num4 (b3_0 % 18446744073709551616) (b3_1 % 18446744073709551616) (b3_2 % 18446744073709551616) (b3_3 % 18446744073709551616) * num4 (b3_0 % 18446744073709551616) (b3_1 % 18446744073709551616) (b3_2 % 18446744073709551616) (b3_3 % 18446744073709551616) % 57896044618658097711785492504343953926634992332820282019728792003956564819949 / 18446744073709551616) (num4 (b3_0 % 18446744073709551616) (b3_1 % 18446744073709551616) (b3_2 % 18446744073709551616) (b3_3 % 18446744073709551616) * num4 (b3_0 % 18446744073709551616) (b3_1 % 18446744073709551616) (b3_2 % 18446744073709551616) (b3_3 % 18446744073709551616) % 57896044618658097711785492504343953926634992332820282019728792003956564819949 / 340282366920938463463374607431768211456) (num4 (b3_0 % 18446744073709551616) (b3_1 % 18446744073709551616) (b3_2 % 18446744073709551616) (b3_3 % 18446744073709551616) * num4 (b3_0 % 18446744073709551616) (b3_1 % 18446744073709551616) (b3_2 % 18446744073709551616) (b3_3 % 18446744073709551616) % 57896044618658097711785492504343953926634992332820282019728792003956564819949 / 6277101735386680763835789423207666416102355444464034512896))) : G (mkX Try.prog (tab libr1) Try.f119 [] ρ w r) (s119st0 k t8 b2_0 b2_1 b2_2 b2_3 b3_0 b3_1 b3_2 b3_3) :=
  G.seg (X := mkX Try.prog (tab libr1) Try.f119 [] ρ w r) ⟨tab_ok libr1_ok, mixed⟩ [(14, true), (20, true)] 1000000 0 [4, 5, 6, 7, 8] [(0, none), (1, none), (2, none), (3, none)] (k := s119k0) (vs := [V.w (W.c (C.ptr 0 0)), V.w (W.c (C.own 1)), V.w (W.c (C.ptr 2 0)), V.w (W.c (C.ptr 3 0)), V.int IntKind.i64 (IntKind.wrap IntKind.i64 (t8 + 1))]) (bs := [Blk.mk 79 Mode.rw (K.cs [C.u 0, C.u 0, C.u 0, C.u 0]), Blk.mk 22 (Mode.own 16) (K.ints IntKind.u64 (lim 16 (nn k))), Blk.mk 79 Mode.rw (K.cs [C.u (num4 (b2_0 % 18446744073709551616) (b2_1 % 18446744073709551616) (b2_2 % 18446744073709551616) (b2_3 % 18446744073709551616) * num4 (b3_0 % 18446744073709551616) (b3_1 % 18446744073709551616) (b3_2 % 18446744073709551616) (b3_3 % 18446744073709551616) % 57896044618658097711785492504343953926634992332820282019728792003956564819949), C.u (num4 (b2_0 % 18446744073709551616) (b2_1 % 18446744073709551616) (b2_2 % 18446744073709551616) (b2_3 % 18446744073709551616) * num4 (b3_0 % 18446744073709551616) (b3_1 % 18446744073709551616) (b3_2 % 18446744073709551616) (b3_3 % 18446744073709551616) % 57896044618658097711785492504343953926634992332820282019728792003956564819949 / 18446744073709551616), C.u (num4 (b2_0 % 18446744073709551616) (b2_1 % 18446744073709551616) (b2_2 % 18446744073709551616) (b2_3 % 18446744073709551616) * num4 (b3_0 % 18446744073709551616) (b3_1 % 18446744073709551616) (b3_2 % 18446744073709551616) (b3_3 % 18446744073709551616) % 57896044618658097711785492504343953926634992332820282019728792003956564819949 / 340282366920938463463374607431768211456), C.u (num4 (b2_0 % 18446744073709551616) (b2_1 % 18446744073709551616) (b2_2 % 18446744073709551616) (b2_3 % 18446744073709551616) * num4 (b3_0 % 18446744073709551616) (b3_1 % 18446744073709551616) (b3_2 % 18446744073709551616) (b3_3 % 18446744073709551616) % 57896044618658097711785492504343953926634992332820282019728792003956564819949 / 6277101735386680763835789423207666416102355444464034512896)]), Blk.mk 79 Mode.rw (K.cs [C.u (num4 (b3_0 % 18446744073709551616) (b3_1 % 18446744073709551616) (b3_2 % 18446744073709551616) (b3_3 % 18446744073709551616) * num4 (b3_0 % 18446744073709551616) (b3_1 % 18446744073709551616) (b3_2 % 18446744073709551616) (b3_3 % 18446744073709551616) % 57896044618658097711785492504343953926634992332820282019728792003956564819949), C.u (num4 (b3_0 % 18446744073709551616) (b3_1 % 18446744073709551616) (b3_2 % 18446744073709551616) (b3_3 % 18446744073709551616) * num4 (b3_0 % 18446744073709551616) (b3_1 % 18446744073709551616) (b3_2 % 18446744073709551616) (b3_3 % 18446744073709551616) % 57896044618658097711785492504343953926634992332820282019728792003956564819949 / 18446744073709551616), C.u (num4 (b3_0 % 18446744073709551616) (b3_1 % 18446744073709551616) (b3_2 % 18446744073709551616) (b3_3 % 18446744073709551616) * num4 (b3_0 % 18446744073709551616) (b3_1 % 18446744073709551616) (b3_2 % 18446744073709551616) (b3_3 % 18446744073709551616) % 57896044618658097711785492504343953926634992332820282019728792003956564819949 / 340282366920938463463374607431768211456), C.u (num4 (b3_0 % 18446744073709551616) (b3_1 % 18446744073709551616) (b3_2 % 18446744073709551616) (b3_3 % 18446744073709551616) * num4 (b3_0 % 18446744073709551616) (b3_1 % 18446744073709551616) (b3_2 % 18446744073709551616) (b3_3 % 18446744073709551616) % 57896044618658097711785492504343953926634992332820282019728792003956564819949 / 6277101735386680763835789423207666416102355444464034512896)])]) (by kernel_rfl) (by kernel_rfl)
    (ocons (decide_eq_true h1) (ocons (beqT h2) (ocons h3 (ocons (decide_eq_true h4) (ocons (decide_eq_true h5) (ocons (eqI h6) (ocons rfl (ocons rfl onil)))))))) hg
theorem s119_3 {ρ : Env} {w : World} {r : Res} (a : Nat) (k : Nat) (t8 : Int) (b2_0 : Nat) (b2_1 : Nat) (b2_2 : Nat) (b2_3 : Nat) (b3_0 : Nat) (b3_1 : Nat) (b3_2 : Nat) (b3_3 : Nat) (h1 : t8 < 256) (h2 : List.length (lim 16 (nn k)) = 16) (h3 : limOk (lim 16 (nn k)) = true) (h4 : 0 ≤ t8) (h5 : t8 ≤ 16000000000) (h6 : ¬(↑(bitL (lim 16 (nn k)) t8) : Int) = 1) (hg : G (mkX Try.prog (tab libr1) Try.f119 [] ρ w r) (s119st0 k (IntKind.wrap IntKind.i64 (t8 + 1)) (b2_0) (b2_1) (b2_2) (b2_3) (num4 (b3_0 % 18446744073709551616) (b3_1 % 18446744073709551616) (b3_2 % 18446744073709551616) (b3_3 % 18446744073709551616) * num4 (b3_0 % 18446744073709551616) (b3_1 % 18446744073709551616) (b3_2 % 18446744073709551616) (b3_3 % 18446744073709551616) % 57896044618658097711785492504343953926634992332820282019728792003956564819949) (num4 (b3_0 % 18446744073709551616) (b3_1 % 18446744073709551616) (b3_2 % 18446744073709551616) (b3_3 % 18446744073709551616) * num4 (b3_0 % 18446744073709551616) (b3_1 % 18446744073709551616) (b3_2 % 18446744073709551616) (b3_3 % 18446744073709551616) % 57896044618658097711785492504343953926634992332820282019728792003956564819949 / 18446744073709551616) (num4 (b3_0 % 18446744073709551616) (b3_1 % 18446744073709551616) (b3_2 % 18446744073709551616) (b3_3 % 18446744073709551616) * num4 (b3_0 % 18446744073709551616) (b3_1 % 18446744073709551616) (b3_2 % 18446744073709551616) (b3_3 % 18446744073709551616) % 57896044618658097711785492504343953926634992332820282019728792003956564819949 / 340282366920938463463374607431768211456) (num4 (b3_0 % 18446744073709551616) (b3_1 % 18446744073709551616) (b3_2 % 18446744073709551616) (b3_3 % 18446744073709551616) * num4 (b3_0 % 18446744073709551616) (b3_1 % 18446744073709551616) (b3_2 % 18446744073709551616) (b3_3 % 18446744073709551616) % 57896044618658097711785492504343953926634992332820282019728792003956564819949 / 6277101735386680763835789423207666416102355444464034512896))) : G (mkX Try.prog (tab libr1) Try.f119 [] ρ w r) (s119st0 k t8 b2_0 b2_1 b2_2 b2_3 b3_0 b3_1 b3_2 b3_3) :=
  G.seg (X := mkX Try.prog (tab libr1) Try.f119 [] ρ w r) ⟨tab_ok libr1_ok, mixed⟩ [(14, true), (20, false)] 1000000 0 [4, 5, 6, 7, 8] [(0, none), (1, none), (2, none), (3, none)] (k := s119k0) (vs := [V.w (W.c (C.ptr 0 0)), V.w (W.c (C.own 1)), V.w (W.c (C.ptr 2 0)), V.w (W.c (C.ptr 3 0)), V.int IntKind.i64 (IntKind.wrap IntKind.i64 (t8 + 1))]) (bs := [Blk.mk 79 Mode.rw (K.cs [C.u 0, C.u 0, C.u 0, C.u 0]), Blk.mk 22 (Mode.own 16) (K.ints IntKind.u64 (lim 16 (nn k))), Blk.mk 79 Mode.rw (K.cs [C.u b2_0, C.u b2_1, C.u b2_2, C.u b2_3]), Blk.mk 79 Mode.rw (K.cs [C.u (num4 (b3_0 % 18446744073709551616) (b3_1 % 18446744073709551616) (b3_2 % 18446744073709551616) (b3_3 % 18446744073709551616) * num4 (b3_0 % 18446744073709551616) (b3_1 % 18446744073709551616) (b3_2 % 18446744073709551616) (b3_3 % 18446744073709551616) % 57896044618658097711785492504343953926634992332820282019728792003956564819949), C.u (num4 (b3_0 % 18446744073709551616) (b3_1 % 18446744073709551616) (b3_2 % 18446744073709551616) (b3_3 % 18446744073709551616) * num4 (b3_0 % 18446744073709551616) (b3_1 % 18446744073709551616) (b3_2 % 18446744073709551616) (b3_3 % 18446744073709551616) % 57896044618658097711785492504343953926634992332820282019728792003956564819949 / 18446744073709551616), C.u (num4 (b3_0 % 18446744073709551616) (b3_1 % 18446744073709551616) (b3_2 % 18446744073709551616) (b3_3 % 18446744073709551616) * num4 (b3_0 % 18446744073709551616) (b3_1 % 18446744073709551616) (b3_2 % 18446744073709551616) (b3_3 % 18446744073709551616) % 57896044618658097711785492504343953926634992332820282019728792003956564819949 / 340282366920938463463374607431768211456), C.u (num4 (b3_0 % 18446744073709551616) (b3_1 % 18446744073709551616) (b3_2 % 18446744073709551616) (b3_3 % 18446744073709551616) * num4 (b3_0 % 18446744073709551616) (b3_1 % 18446744073709551616) (b3_2 % 18446744073709551616) (b3_3 % 18446744073709551616) % 57896044618658097711785492504343953926634992332820282019728792003956564819949 / 6277101735386680763835789423207666416102355444464034512896)])]) (by kernel_rfl) (by kernel_rfl)
    (ocons (decide_eq_true h1) (ocons (beqT h2) (ocons h3 (ocons (decide_eq_true h4) (ocons (decide_eq_true h5) (ocons (neI h6) (ocons rfl onil))))))) hg
theorem s119_4 {ρ : Env} {w : World} (a : Nat) (k : Nat) (t8 : Int) (b2_0 : Nat) (b2_1 : Nat) (b2_2 : Nat) (b2_3 : Nat) (b3_0 : Nat) (b3_1 : Nat) (b3_2 : Nat) (b3_3 : Nat) (h1 : ¬t8 < 256) : G (mkX Try.prog (tab libr1) Try.f119 [] ρ w ⟨V.w (W.agg [C.u b2_0, C.u b2_1, C.u b2_2, C.u b2_3]), [], []⟩) (s119st0 k t8 b2_0 b2_1 b2_2 b2_3 b3_0 b3_1 b3_2 b3_3) :=
  G.ends (tab_ok libr1_ok) mixed [(14, false)] 1000000 [] (by kernel_rfl) (by kernel_rfl) (by kernel_rfl) (by kernel_rfl)
    (ocons (ndec h1) (ocons rfl onil))

theorem s228a_1 : Sx.Spec Try.prog 228 [W.int IntKind.i64 (-2), W.int IntKind.i64 0] [] ⟨V.w (W.agg [C.u 57896044618658097711785492504343953926634992332820282019728792003956564819947, C.u 3138550867693340381917894711603833208051177722232017256447, C.u 170141183460469231731687303715884105727, C.u 9223372036854775807]), [], []⟩ :=
  spec_of_whole (tab_ok libr1x_ok) mixed Try.func228 [] 1000000 [] (by kernel_rfl) (by kernel_rfl) (by kernel_rfl) (by kernel_rfl) (by kernel_rfl) (by kernel_rfl)
    (ocons rfl (ocons rfl (ocons rfl (ocons rfl (ocons rfl (ocons rfl (ocons rfl (ocons rfl (ocons rfl (ocons rfl (ocons rfl (ocons rfl (ocons rfl (ocons rfl (ocons rfl (ocons rfl (ocons rfl (ocons rfl (ocons rfl (ocons rfl (ocons rfl (ocons rfl (ocons rfl (ocons rfl (ocons rfl (ocons rfl (ocons rfl (ocons rfl (ocons rfl (ocons rfl (ocons rfl (ocons rfl (ocons rfl (ocons rfl (ocons rfl (ocons rfl (ocons rfl (ocons rfl (ocons rfl (ocons rfl (ocons rfl (ocons rfl (ocons rfl (ocons rfl (ocons rfl (ocons rfl (ocons rfl (ocons rfl (ocons rfl (ocons rfl (ocons rfl (ocons rfl (ocons rfl (ocons rfl (ocons rfl (ocons rfl (ocons rfl (ocons rfl (ocons rfl (ocons rfl (ocons rfl (ocons rfl (ocons rfl (ocons rfl (ocons rfl (ocons rfl (ocons rfl (ocons rfl (ocons rfl (ocons rfl (ocons rfl (ocons rfl (ocons rfl (ocons rfl (ocons rfl (ocons rfl (ocons rfl (ocons rfl (ocons rfl (ocons rfl (ocons rfl (ocons rfl (ocons rfl (ocons rfl (ocons rfl (ocons rfl (ocons rfl (ocons rfl (ocons rfl (ocons rfl (ocons rfl (ocons rfl (ocons rfl (ocons rfl (ocons rfl (ocons rfl (ocons rfl (ocons rfl (ocons rfl (ocons rfl (ocons rfl (ocons rfl (ocons rfl (ocons rfl (ocons rfl (ocons rfl (ocons rfl (ocons rfl (ocons rfl (ocons rfl (ocons rfl (ocons rfl (ocons rfl (ocons rfl (ocons rfl (ocons rfl (ocons rfl (ocons rfl (ocons rfl (ocons rfl (ocons rfl (ocons rfl (ocons rfl (ocons rfl (ocons rfl (ocons rfl (ocons rfl (ocons rfl (ocons rfl (ocons rfl (ocons rfl (ocons rfl (ocons rfl (ocons rfl (ocons rfl (ocons rfl (ocons rfl (ocons rfl (ocons rfl (ocons rfl (ocons rfl (ocons rfl (ocons rfl (ocons rfl (ocons rfl (ocons rfl (ocons rfl (ocons rfl (ocons rfl (ocons rfl (ocons rfl (ocons rfl (ocons rfl (ocons rfl (ocons rfl (ocons rfl (ocons rfl (ocons rfl (ocons rfl (ocons rfl (ocons rfl (ocons rfl (ocons rfl (ocons rfl (ocons rfl (ocons rfl (ocons rfl (ocons rfl (ocons rfl (ocons rfl (ocons rfl (ocons rfl (ocons rfl (ocons rfl (ocons rfl (ocons rfl (ocons rfl (ocons rfl (ocons rfl (ocons rfl (ocons rfl (ocons rfl (ocons rfl (ocons rfl (ocons rfl (ocons rfl (ocons rfl (ocons rfl (ocons rfl (ocons rfl (ocons rfl (ocons rfl (ocons rfl (ocons rfl (ocons rfl (ocons rfl (ocons rfl (ocons rfl onil))))))))))))))))))))))))))))))))))))))))))))))))))))))))))))))))))))))))))))))))))))))))))))))))))))))))))))))))))))))))))))))))))))))))))))))))))))))))))))))))))))))))))))))))))))))))))))))))))))))

theorem s228b_1 : Sx.Spec Try.prog 228 [W.int IntKind.i64 (-1), W.int IntKind.i64 1] [] ⟨V.w (W.agg [C.u 28948022309329048855892746252171976963317496166410141009864396001978282409974, C.u 1569275433846670190958947355801916604025588861116008628223, C.u 85070591730234615865843651857942052863, C.u 4611686018427387903]), [], []⟩ :=
  spec_of_whole (tab_ok libr1x_ok) mixed Try.func228 [] 1000000 [] (by kernel_rfl) (by kernel_rfl) (by kernel_rfl) (by kernel_rfl) (by kernel_rfl) (by kernel_rfl)
    (ocons rfl (ocons rfl (ocons rfl (ocons rfl (ocons rfl (ocons rfl (ocons rfl (ocons rfl (ocons rfl (ocons rfl (ocons rfl (ocons rfl (ocons rfl (ocons rfl (ocons rfl (ocons rfl (ocons rfl (ocons rfl (ocons rfl (ocons rfl (ocons rfl (ocons rfl (ocons rfl (ocons rfl (ocons rfl (ocons rfl (ocons rfl (ocons rfl (ocons rfl (ocons rfl (ocons rfl (ocons rfl (ocons rfl (ocons rfl (ocons rfl (ocons rfl (ocons rfl (ocons rfl (ocons rfl (ocons rfl (ocons rfl (ocons rfl (ocons rfl (ocons rfl (ocons rfl (ocons rfl (ocons rfl (ocons rfl (ocons rfl (ocons rfl (ocons rfl (ocons rfl (ocons rfl (ocons rfl (ocons rfl (ocons rfl (ocons rfl (ocons rfl (ocons rfl (ocons rfl (ocons rfl (ocons rfl (ocons rfl (ocons rfl (ocons rfl (ocons rfl (ocons rfl (ocons rfl (ocons rfl (ocons rfl (ocons rfl (ocons rfl (ocons rfl (ocons rfl (ocons rfl (ocons rfl (ocons rfl (ocons rfl (ocons rfl (ocons rfl (ocons rfl (ocons rfl (ocons rfl (ocons rfl (ocons rfl (ocons rfl (ocons rfl (ocons rfl (ocons rfl (ocons rfl (ocons rfl (ocons rfl (ocons rfl (ocons rfl (ocons rfl (ocons rfl (ocons rfl (ocons rfl (ocons rfl (ocons rfl (ocons rfl (ocons rfl (ocons rfl (ocons rfl (ocons rfl (ocons rfl (ocons rfl (ocons rfl (ocons rfl (ocons rfl (ocons rfl (ocons rfl (ocons rfl (ocons rfl (ocons rfl (ocons rfl (ocons rfl (ocons rfl (ocons rfl (ocons rfl (ocons rfl (ocons rfl (ocons rfl (ocons rfl (ocons rfl (ocons rfl (ocons rfl (ocons rfl (ocons rfl (ocons rfl (ocons rfl (ocons rfl (ocons rfl (ocons rfl (ocons rfl (ocons rfl (ocons rfl (ocons rfl (ocons rfl (ocons rfl (ocons rfl (ocons rfl (ocons rfl (ocons rfl (ocons rfl (ocons rfl (ocons rfl (ocons rfl (ocons rfl (ocons rfl (ocons rfl (ocons rfl (ocons rfl (ocons rfl (ocons rfl (ocons rfl (ocons rfl (ocons rfl (ocons rfl (ocons rfl (ocons rfl (ocons rfl (ocons rfl (ocons rfl (ocons rfl (ocons rfl (ocons rfl (ocons rfl (ocons rfl (ocons rfl (ocons rfl (ocons rfl (ocons rfl (ocons rfl (ocons rfl (ocons rfl (ocons rfl (ocons rfl (ocons rfl (ocons rfl (ocons rfl (ocons rfl (ocons rfl (ocons rfl (ocons rfl (ocons rfl (ocons rfl (ocons rfl (ocons rfl (ocons rfl (ocons rfl (ocons rfl (ocons rfl (ocons rfl (ocons rfl (ocons rfl (ocons rfl (ocons rfl onil))))))))))))))))))))))))))))))))))))))))))))))))))))))))))))))))))))))))))))))))))))))))))))))))))))))))))))))))))))))))))))))))))))))))))))))))))))))))))))))))))))))))))))))))))))))))))))))))))))))

theorem s228c_1 : Sx.Spec Try.prog 228 [W.int IntKind.i64 3, W.int IntKind.i64 3] [] ⟨V.w (W.agg [C.u 7237005577332262213973186563042994240829374041602535252466099000494570602494, C.u 392318858461667547739736838950479151006397215279002157055, C.u 21267647932558653966460912964485513215, C.u 1152921504606846975]), [], []⟩ :=
  spec_of_whole (tab_ok libr1x_ok) mixed Try.func228 [] 1000000 [] (by kernel_rfl) (by kernel_rfl) (by kernel_rfl) (by kernel_rfl) (by kernel_rfl) (by kernel_rfl)
    (ocons rfl (ocons rfl (ocons rfl (ocons rfl (ocons rfl (ocons rfl (ocons rfl (ocons rfl (ocons rfl (ocons rfl (ocons rfl (ocons rfl (ocons rfl (ocons rfl (ocons rfl (ocons rfl (ocons rfl (ocons rfl (ocons rfl (ocons rfl (ocons rfl (ocons rfl (ocons rfl (ocons rfl (ocons rfl (ocons rfl (ocons rfl (ocons rfl (ocons rfl (ocons rfl (ocons rfl (ocons rfl (ocons rfl (ocons rfl (ocons rfl (ocons rfl (ocons rfl (ocons rfl (ocons rfl (ocons rfl (ocons rfl (ocons rfl (ocons rfl (ocons rfl (ocons rfl (ocons rfl (ocons rfl (ocons rfl (ocons rfl (ocons rfl (ocons rfl (ocons rfl (ocons rfl (ocons rfl (ocons rfl (ocons rfl (ocons rfl (ocons rfl (ocons rfl (ocons rfl (ocons rfl (ocons rfl (ocons rfl (ocons rfl (ocons rfl (ocons rfl (ocons rfl (ocons rfl (ocons rfl (ocons rfl (ocons rfl (ocons rfl (ocons rfl (ocons rfl (ocons rfl (ocons rfl (ocons rfl (ocons rfl (ocons rfl (ocons rfl (ocons rfl (ocons rfl (ocons rfl (ocons rfl (ocons rfl (ocons rfl (ocons rfl (ocons rfl (ocons rfl (ocons rfl (ocons rfl (ocons rfl (ocons rfl (ocons rfl (ocons rfl (ocons rfl (ocons rfl (ocons rfl (ocons rfl (ocons rfl (ocons rfl (ocons rfl (ocons rfl (ocons rfl (ocons rfl (ocons rfl (ocons rfl (ocons rfl (ocons rfl (ocons rfl (ocons rfl (ocons rfl (ocons rfl (ocons rfl (ocons rfl (ocons rfl (ocons rfl (ocons rfl (ocons rfl (ocons rfl (ocons rfl (ocons rfl (ocons rfl (ocons rfl (ocons rfl (ocons rfl (ocons rfl (ocons rfl (ocons rfl (ocons rfl (ocons rfl (ocons rfl (ocons rfl (ocons rfl (ocons rfl (ocons rfl (ocons rfl (ocons rfl (ocons rfl (ocons rfl (ocons rfl (ocons rfl (ocons rfl (ocons rfl (ocons rfl (ocons rfl (ocons rfl (ocons rfl (ocons rfl (ocons rfl (ocons rfl (ocons rfl (ocons rfl (ocons rfl (ocons rfl (ocons rfl (ocons rfl (ocons rfl (ocons rfl (ocons rfl (ocons rfl (ocons rfl (ocons rfl (ocons rfl (ocons rfl (ocons rfl (ocons rfl (ocons rfl (ocons rfl (ocons rfl (ocons rfl (ocons rfl (ocons rfl (ocons rfl (ocons rfl (ocons rfl (ocons rfl (ocons rfl (ocons rfl (ocons rfl (ocons rfl (ocons rfl (ocons rfl (ocons rfl (ocons rfl (ocons rfl (ocons rfl (ocons rfl (ocons rfl (ocons rfl (ocons rfl (ocons rfl (ocons rfl (ocons rfl (ocons rfl (ocons rfl (ocons rfl (ocons rfl (ocons rfl (ocons rfl (ocons rfl (ocons rfl (ocons rfl onil)))))))))))))))))))))))))))))))))))))))))))))))))))))))))))))))))))))))))))))))))))))))))))))))))))))))))))))))))))))))))))))))))))))))))))))))))))))))))))))))))))))))))))))))))))))))))))))))))))))))))))

theorem s228d_1 : Sx.Spec Try.prog 228 [W.int IntKind.i64 (-1), W.int IntKind.i64 2] [] ⟨V.w (W.agg [C.u 14474011154664524427946373126085988481658748083205070504932198000989141204987, C.u 784637716923335095479473677900958302012794430558004314111, C.u 42535295865117307932921825928971026431, C.u 2305843009213693951]), [], []⟩ :=
  spec_of_whole (tab_ok libr1x_ok) mixed Try.func228 [] 1000000 [] (by kernel_rfl) (by kernel_rfl) (by kernel_rfl) (by kernel_rfl) (by kernel_rfl) (by kernel_rfl)
    (ocons rfl (ocons rfl (ocons rfl (ocons rfl (ocons rfl (ocons rfl (ocons rfl (ocons rfl (ocons rfl (ocons rfl (ocons rfl (ocons rfl (ocons rfl (ocons rfl (ocons rfl (ocons rfl (ocons rfl (ocons rfl (ocons rfl (ocons rfl (ocons rfl (ocons rfl (ocons rfl (ocons rfl (ocons rfl (ocons rfl (ocons rfl (ocons rfl (ocons rfl (ocons rfl (ocons rfl (ocons rfl (ocons rfl (ocons rfl (ocons rfl (ocons rfl (ocons rfl (ocons rfl (ocons rfl (ocons rfl (ocons rfl (ocons rfl (ocons rfl (ocons rfl (ocons rfl (ocons rfl (ocons rfl (ocons rfl (ocons rfl (ocons rfl (ocons rfl (ocons rfl (ocons rfl (ocons rfl (ocons rfl (ocons rfl (ocons rfl (ocons rfl (ocons rfl (ocons rfl (ocons rfl (ocons rfl (ocons rfl (ocons rfl (ocons rfl (ocons rfl (ocons rfl (ocons rfl (ocons rfl (ocons rfl (ocons rfl (ocons rfl (ocons rfl (ocons rfl (ocons rfl (ocons rfl (ocons rfl (ocons rfl (ocons rfl (ocons rfl (ocons rfl (ocons rfl (ocons rfl (ocons rfl (ocons rfl (ocons rfl (ocons rfl (ocons rfl (ocons rfl (ocons rfl (ocons rfl (ocons rfl (ocons rfl (ocons rfl (ocons rfl (ocons rfl (ocons rfl (ocons rfl (ocons rfl (ocons rfl (ocons rfl (ocons rfl (ocons rfl (ocons rfl (ocons rfl (ocons rfl (ocons rfl (ocons rfl (ocons rfl (ocons rfl (ocons rfl (ocons rfl (ocons rfl (ocons rfl (ocons rfl (ocons rfl (ocons rfl (ocons rfl (ocons rfl (ocons rfl (ocons rfl (ocons rfl (ocons rfl (ocons rfl (ocons rfl (ocons rfl (ocons rfl (ocons rfl (ocons rfl (ocons rfl (ocons rfl (ocons rfl (ocons rfl (ocons rfl (ocons rfl (ocons rfl (ocons rfl (ocons rfl (ocons rfl (ocons rfl (ocons rfl (ocons rfl (ocons rfl (ocons rfl (ocons rfl (ocons rfl (ocons rfl (ocons rfl (ocons rfl (ocons rfl (ocons rfl (ocons rfl (ocons rfl (ocons rfl (ocons rfl (ocons rfl (ocons rfl (ocons rfl (ocons rfl (ocons rfl (ocons rfl (ocons rfl (ocons rfl (ocons rfl (ocons rfl (ocons rfl (ocons rfl (ocons rfl (ocons rfl (ocons rfl (ocons rfl (ocons rfl (ocons rfl (ocons rfl (ocons rfl (ocons rfl (ocons rfl (ocons rfl (ocons rfl (ocons rfl (ocons rfl (ocons rfl (ocons rfl (ocons rfl (ocons rfl (ocons rfl (ocons rfl (ocons rfl (ocons rfl (ocons rfl (ocons rfl (ocons rfl (ocons rfl (ocons rfl (ocons rfl (ocons rfl (ocons rfl (ocons rfl onil))))))))))))))))))))))))))))))))))))))))))))))))))))))))))))))))))))))))))))))))))))))))))))))))))))))))))))))))))))))))))))))))))))))))))))))))))))))))))))))))))))))))))))))))))))))))))))))))))))))

theorem s103_1 : Sx.Spec Try.prog 103 [] [] ⟨V.bool true, [], []⟩ :=
  spec_of_whole (tab_ok libr1_ok) mixed Try.func103 [] 1000000 [] (by kernel_rfl) (by kernel_rfl) (by kernel_rfl) (by kernel_rfl) (by kernel_rfl) (by kernel_rfl)
    (ocons rfl (ocons rfl (ocons rfl (ocons rfl (ocons rfl (ocons rfl (ocons rfl (ocons rfl (ocons rfl (ocons rfl (ocons rfl (ocons rfl onil))))))))))))


/-- (p + s) / 2^i, for the four that are asked for. -/
def e228 : Entry := fun args ms => match args, ms with
  | [.c (.v (.int .i64 s)), .c (.v (.int .i64 i))], [] =>
    bif decide (s = -2) && decide (i = 0) then some (⟨vN 57896044618658097711785492504343953926634992332820282019728792003956564819947, [], []⟩, [])
    else bif decide (s = -1) && decide (i = 1) then some (⟨vN 28948022309329048855892746252171976963317496166410141009864396001978282409974, [], []⟩, [])
    else bif decide (s = 3) && decide (i = 3) then some (⟨vN 7237005577332262213973186563042994240829374041602535252466099000494570602494, [], []⟩, [])
    else bif decide (s = -1) && decide (i = 2) then some (⟨vN 14474011154664524427946373126085988481658748083205070504932198000989141204987, [], []⟩, [])
    else none
  | _, _ => none
theorem e228_ok : EntryOk Try.prog 228 e228 := by
  intro args ms r obs h ho
  unfold e228 at h
  split at h
  · rename_i s i
    cases h1 : decide (s = -2) && decide (i = 0) with
    | true =>
      rw [h1, cond_true] at h
      simp only [Bool.and_eq_true, decide_eq_true_eq] at h1
      obtain ⟨rfl, rfl⟩ := h1
      cases h
      exact s228a_1
    | false =>
    rw [h1, cond_false] at h
    cases h2 : decide (s = -1) && decide (i = 1) with
    | true =>
      rw [h2, cond_true] at h
      simp only [Bool.and_eq_true, decide_eq_true_eq] at h2
      obtain ⟨rfl, rfl⟩ := h2
      cases h
      exact s228b_1
    | false =>
    rw [h2, cond_false] at h
    cases h3 : decide (s = 3) && decide (i = 3) with
    | true =>
      rw [h3, cond_true] at h
      simp only [Bool.and_eq_true, decide_eq_true_eq] at h3
      obtain ⟨rfl, rfl⟩ := h3
      cases h
      exact s228c_1
    | false =>
    rw [h3, cond_false] at h
    cases h4 : decide (s = -1) && decide (i = 2) with
    | true =>
      rw [h4, cond_true] at h
      simp only [Bool.and_eq_true, decide_eq_true_eq] at h4
      obtain ⟨rfl, rfl⟩ := h4
      cases h
      exact s228d_1
    | false => rw [h4] at h; cases h
  · cases h

theorem s119n {a k : Nat} (ha : a < P256) (hk : k < P256) : Sx.Spec Try.prog 119 [.agg (numC a), .agg (numC k)] [] ⟨vN (powP a k), [], []⟩ := by
  refine spec_body (tab := tab libr1) Try.func119 (by kernel_rfl) (by kernel_rfl) (by kernel_rfl) fun ρ w => ?_
  refine s119_1 a k ?_
  rw [powP_eq a hk]
  have hltP : ∀ x, x % 57896044618658097711785492504343953926634992332820282019728792003956564819949 < 115792089237316195423570985008687907853269984665640564039457584007913129639936 := fun x => Nat.lt_trans (Nat.mod_lt _ (by decide)) (by decide)
  have key : ∀ (f i : Nat), i + f = 256 → ∀ c0 c1 c2 c3 e0 e1 e2 e3, d4 c0 c1 c2 c3 = a ^ (k % 2 ^ i) % 57896044618658097711785492504343953926634992332820282019728792003956564819949 → d4 e0 e1 e2 e3 % 57896044618658097711785492504343953926634992332820282019728792003956564819949 = a ^ (2 ^ i) % 57896044618658097711785492504343953926634992332820282019728792003956564819949 → G (mkX Try.prog (tab libr1) Try.f119 [] ρ w ⟨vN (a ^ k % 57896044618658097711785492504343953926634992332820282019728792003956564819949), [], []⟩) (s119st0 k (i : Int) c0 c1 c2 c3 e0 e1 e2 e3) := by
    intro f
    induction f with
    | zero =>
      intro i hi c0 c1 c2 c3 e0 e1 e2 e3 hc he
      have : i = 256 := by omega
      subst this
      rw [Nat.mod_eq_of_lt (show k < 2 ^ 256 by unfold P256 at hk; omega)] at hc
      refine G.resv (r := ⟨.w (.agg [.u c0, .u c1, .u c2, .u c3]), [], []⟩) (fun ρ y h => ?_) (s119_4 a k _ c0 c1 c2 c3 e0 e1 e2 e3 (by omega))
      rw [← hc]
      exact rw_d4 y h
    | succ f ih =>
      intro i hi c0 c1 c2 c3 e0 e1 e2 e3 hc he
      have ew : IntKind.wrap .i64 ((i : Int) + 1) = ((i + 1 : Nat) : Int) := by rw [i64w] <;> omega
      have eb : bitL (lim 16 (nn k)) (i : Int) = k / 2 ^ i % 2 := by
        unfold bitL
        rw [val16 hk, Int.toNat_natCast]
      have hsq : d4 e0 e1 e2 e3 * d4 e0 e1 e2 e3 % 57896044618658097711785492504343953926634992332820282019728792003956564819949 % 57896044618658097711785492504343953926634992332820282019728792003956564819949 = a ^ (2 ^ (i + 1)) % 57896044618658097711785492504343953926634992332820282019728792003956564819949 := by
        rw [Nat.mod_mod, Nat.mul_mod, he, Nat.pow_succ, Nat.mul_two, Nat.pow_add, ← Nat.mul_mod]
      have hkm : k % 2 ^ (i + 1) = k % 2 ^ i + 2 ^ i * (k / 2 ^ i % 2) := by
        rw [Nat.pow_succ, Nat.mod_mul]
      by_cases h1 : k / 2 ^ i % 2 = 1
      · refine s119_2 a k i c0 c1 c2 c3 e0 e1 e2 e3 (by omega) (lim_length _ _) (limOk_lim _ _) (by omega) (by omega) (by rw [eb, h1]; rfl) ?_
        rw [show num4 (c0 % 18446744073709551616) (c1 % 18446744073709551616) (c2 % 18446744073709551616) (c3 % 18446744073709551616) = d4 c0 c1 c2 c3 from rfl, show num4 (e0 % 18446744073709551616) (e1 % 18446744073709551616) (e2 % 18446744073709551616) (e3 % 18446744073709551616) = d4 e0 e1 e2 e3 from rfl, ew]
        refine ih (i + 1) (by omega) _ _ _ _ _ _ _ _ ?_ ?_
        · rw [d4_num, Nat.mod_eq_of_lt (hltP _), hkm, h1, Nat.mul_one, Nat.pow_add, Nat.mul_mod, hc, he, Nat.mod_mod, ← Nat.mul_mod]
        · rw [d4_num, Nat.mod_eq_of_lt (hltP _), hsq]
      · refine s119_3 a k i c0 c1 c2 c3 e0 e1 e2 e3 (by omega) (lim_length _ _) (limOk_lim _ _) (by omega) (by omega) (by rw [eb]; omega) ?_
        rw [show num4 (e0 % 18446744073709551616) (e1 % 18446744073709551616) (e2 % 18446744073709551616) (e3 % 18446744073709551616) = d4 e0 e1 e2 e3 from rfl, ew]
        refine ih (i + 1) (by omega) _ _ _ _ _ _ _ _ ?_ ?_
        · rw [hc, hkm, show k / 2 ^ i % 2 = 0 by omega, Nat.mul_zero, Nat.add_zero]
        · rw [d4_num, Nat.mod_eq_of_lt (hltP _), hsq]
  refine key 256 0 (by omega) 1 0 0 0 _ _ _ _ ?_ ?_
  · rw [Nat.pow_zero, Nat.mod_one, Nat.pow_zero]; decide
  · rw [d4_num, Nat.mod_eq_of_lt (show a < 115792089237316195423570985008687907853269984665640564039457584007913129639936 from ha), Nat.pow_zero, Nat.pow_one]
def e119 : Entry := numsE [1, 1] (nm2 fun a k => vN (powP a k))
theorem e119_ok : EntryOk Try.prog 119 e119 := numsE_ok fun ns h hl => by
  obtain ⟨a, b, rfl⟩ := ns2 h
  exact s119n (hl a (by simp)) (hl b (by simp))
def e103 : Entry := fun args ms => match args, ms with
  | [], [] => some (⟨V.bool true, [], []⟩, [])
  | _, _ => none
theorem e103_ok : EntryOk Try.prog 103 e103 := by
  intro args ms r obs h ho
  unfold e103 at h
  split at h
  · cases h
    exact s103_1
  · cases h
end Go.Proofs.Ytmjejlbmcefaoaa
