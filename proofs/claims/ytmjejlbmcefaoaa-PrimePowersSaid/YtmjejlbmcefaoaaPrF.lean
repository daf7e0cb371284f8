/- The reference: what is left over by p, limb by limb. -/
import Derived.Test.YtmjejlbmcefaoaaPrC
import Derived.Test.YtmjejlbmcefaoaaSl
namespace Go.Proofs.Ytmjejlbmcefaoaa
open Go Sx
def e258 : Entry := fun args ms => match args, ms with
  | [.c (.sl 0 0 n)], [⟨_, .ro, .ints .u64 l⟩] => some (⟨V.bool (Nat.ble 115792089237316195423570985008687907853269984665640564039457584007913129639936 (valL l)), [], []⟩, [Nat.beq l.length n, limOk l, Nat.ble n 1000000000])
  | _, _ => none
def e225 : Entry := fun args ms => match args, ms with
  | [], [] => some (⟨.w (.c (.own 0)), [], [⟨22, .own 16, .ints .u64 [65517, 65535, 65535, 65535, 65535, 65535, 65535, 65535, 65535, 65535, 65535, 65535, 65535, 65535, 65535, 32767]⟩]⟩, [])
  | _, _ => none
def libq0 : List (Nat × Entry) := [(90, roE [.cut .u64, .ints .u64] e90), (85, roE [.cut .u64, .ints .u64] e85), (258, roE [.ints .u64] e258), (225, e225)] ++ libp3
noncomputable def s258k0 : List Item := kAt Try.prog (tab libp3) Try.f258 [] 0 [W.c (C.sl 0 0 1)] [Blk.mk 1 Mode.ro (K.ints IntKind.u64 [0])]
noncomputable def s258st0 (t : Nat) (n : Nat) (l : List Int) (t3 : Int) : Cfg := cfg s258k0 [0, 3] [V.w (W.c (C.sl 0 0 n)), V.int IntKind.i64 t3] [Blk.mk t Mode.ro (K.ints IntKind.u64 l)]
theorem s258_1 {ρ : Env} {w : World} {r : Res} (t : Nat) (n : Nat) (l : List Int) (hg : G (mkX Try.prog (tab libp3) Try.f258 [Blk.mk t Mode.ro (K.ints IntKind.u64 l)] ρ w r) (s258st0 t (n) (l) (16))) : G (mkX Try.prog (tab libp3) Try.f258 [Blk.mk t Mode.ro (K.ints IntKind.u64 l)] ρ w r) (cfg [.code (Try.f258.body.getD .skip)] (List.range 1) ([W.c (C.sl 0 0 n)].map V.w) [Blk.mk t Mode.ro (K.ints IntKind.u64 l)]) :=
  G.seg (X := mkX Try.prog (tab libp3) Try.f258 [Blk.mk t Mode.ro (K.ints IntKind.u64 l)] ρ w r) ⟨tab_ok libp3_ok, mixed⟩ [] 1000000 0 [0, 3] [(0, none)] (k := s258k0) (vs := [V.w (W.c (C.sl 0 0 n)), V.int IntKind.i64 16]) (bs := [Blk.mk t Mode.ro (K.ints IntKind.u64 l)]) (by kernel_rfl) (by kernel_rfl)
    onil hg
theorem s258_2 {ρ : Env} {w : World} (t : Nat) (n : Nat) (l : List Int) (t3 : Int) (h1 : t3 < (↑n : Int)) (h2 : 0 ≤ t3) (h3 : Int.toNat t3 < List.length l) (h4 : ¬List.getD l (Int.toNat t3) 0 = 0) : G (mkX Try.prog (tab libp3) Try.f258 [Blk.mk t Mode.ro (K.ints IntKind.u64 l)] ρ w ⟨V.bool true, [], []⟩) (s258st0 t n l t3) :=
  G.ends (tab_ok libp3_ok) mixed [(7, true), (14, true)] 1000000 [(0, none)] (by kernel_rfl) (by kernel_rfl) (by kernel_rfl) (by kernel_rfl)
    (ocons (decide_eq_true h1) (ocons (decide_eq_true h2) (ocons (decide_eq_true h1) (ocons (bltT h3) (ocons (bneI h4) onil)))))
theorem s258_3 {ρ : Env} {w : World} {r : Res} (t : Nat) (n : Nat) (l : List Int) (t3 : Int) (h1 : t3 < (↑n : Int)) (h2 : 0 ≤ t3) (h3 : Int.toNat t3 < List.length l) (h4 : List.getD l (Int.toNat t3) 0 = 0) (hg : G (mkX Try.prog (tab libp3) Try.f258 [Blk.mk t Mode.ro (K.ints IntKind.u64 l)] ρ w r) (s258st0 t (n) (l) (IntKind.wrap IntKind.i64 (t3 + 1)))) : G (mkX Try.prog (tab libp3) Try.f258 [Blk.mk t Mode.ro (K.ints IntKind.u64 l)] ρ w r) (s258st0 t n l t3) :=
  G.seg (X := mkX Try.prog (tab libp3) Try.f258 [Blk.mk t Mode.ro (K.ints IntKind.u64 l)] ρ w r) ⟨tab_ok libp3_ok, mixed⟩ [(7, true), (14, false)] 1000000 0 [0, 3] [(0, none)] (k := s258k0) (vs := [V.w (W.c (C.sl 0 0 n)), V.int IntKind.i64 (IntKind.wrap IntKind.i64 (t3 + 1))]) (bs := [Blk.mk t Mode.ro (K.ints IntKind.u64 l)]) (by kernel_rfl) (by kernel_rfl)
    (ocons (decide_eq_true h1) (ocons (decide_eq_true h2) (ocons (decide_eq_true h1) (ocons (bltT h3) (ocons (nbneI h4) onil))))) hg
theorem s258_4 {ρ : Env} {w : World} (t : Nat) (n : Nat) (l : List Int) (t3 : Int) (h1 : ¬t3 < (↑n : Int)) : G (mkX Try.prog (tab libp3) Try.f258 [Blk.mk t Mode.ro (K.ints IntKind.u64 l)] ρ w ⟨V.bool false, [], []⟩) (s258st0 t n l t3) :=
  G.ends (tab_ok libp3_ok) mixed [(7, false)] 1000000 [(0, none)] (by kernel_rfl) (by kernel_rfl) (by kernel_rfl) (by kernel_rfl)
    (ocons (ndec h1) onil)

theorem s225_1 : Sx.Spec Try.prog 225 [] [] ⟨V.w (W.c (C.own 0)), [], [Blk.mk 22 (Mode.own 16) (K.ints IntKind.u64 [65517, 65535, 65535, 65535, 65535, 65535, 65535, 65535, 65535, 65535, 65535, 65535, 65535, 65535, 65535, 32767])]⟩ :=
  spec_of_whole (tab_ok libp3_ok) mixed Try.func225 [] 1000000 [(8, none)] (by kernel_rfl) (by kernel_rfl) (by kernel_rfl) (by kernel_rfl) (by kernel_rfl) (by kernel_rfl)
    onil


theorem valL_small {l : List Int} (h : limOk l = true) : ∀ m k, k + m = l.length → (∀ i, k ≤ i → i < l.length → l.getD i 0 = 0) → valL l < 65536 ^ k
  | 0, k, hk, _ => by
    have := valL_lt h
    rwa [show l.length = k by omega] at this
  | m + 1, k, hk, hz => by
    have h1 := valL_small h m (k + 1) (by omega) fun i hi hl => hz i (by omega) hl
    have h2 := valL_get h k
    rw [hz k (Nat.le_refl k) (by omega)] at h2
    have h3 : valL l / 65536 ^ k < 65536 := Nat.div_lt_of_lt_mul (by rw [Nat.pow_succ] at h1; exact h1)
    have hp := Nat.pow_pos (n := k) (show 0 < 65536 by decide)
    have h4 : valL l / 65536 ^ k = 0 := by
      generalize valL l / 65536 ^ k = x at h2 h3 ⊢
      omega
    rcases Nat.div_eq_zero_iff.1 h4 with h5 | h5
    · omega
    · exact h5
theorem pow16 : (65536 : Nat) ^ 16 = P256 := by decide
theorem s258n (t : Nat) {l : List Int} (h : limOk l = true) (hn : l.length ≤ 1000000000) : Sx.Spec Try.prog 258 [.c (.sl 0 0 l.length)] [⟨t, .ro, .ints .u64 l⟩] ⟨V.bool (Nat.ble P256 (valL l)), [], []⟩ := by
  refine spec_body (tab := tab libp3) Try.func258 (by kernel_rfl) (by kernel_rfl) (by kernel_rfl) fun ρ w => ?_
  refine s258_1 t _ l ?_
  have key : ∀ (f i : Nat), 16 ≤ i → (i + f = l.length ∨ (f = 0 ∧ l.length < i)) → (∀ j, 16 ≤ j → j < i → j < l.length → l.getD j 0 = 0) → G (mkX Try.prog (tab libp3) Try.f258 [⟨t, .ro, .ints .u64 l⟩] ρ w ⟨V.bool (Nat.ble P256 (valL l)), [], []⟩) (s258st0 t l.length l (i : Int)) := by
    intro f
    induction f with
    | zero =>
      intro i hi hf hz
      have hlt : valL l < P256 := by
        rw [← pow16]
        rcases Nat.lt_or_ge l.length 16 with hs | hs
        · exact Nat.lt_of_lt_of_le (valL_lt h) (Nat.pow_le_pow_right (by decide) (by omega))
        · exact valL_small h (l.length - 16) 16 (by omega) fun j hj hl => hz j hj (by omega) hl
      rw [show Nat.ble P256 (valL l) = false from by cases hb : Nat.ble P256 (valL l) with | false => rfl | true => have := Nat.ble_eq.mp hb; omega]
      exact s258_4 t _ l i (by omega)
    | succ f ih =>
      intro i hi hf hz
      have hil : i < l.length := by omega
      by_cases h0 : l.getD i 0 = 0
      · refine s258_3 t _ l i (by omega) (by omega) (by rw [Int.toNat_natCast]; exact hil) (by rw [Int.toNat_natCast]; exact h0) ?_
        rw [show IntKind.wrap .i64 ((i : Int) + 1) = ((i + 1 : Nat) : Int) by rw [i64w] <;> omega]
        refine ih (i + 1) (by omega) (by omega) fun j h1 h2 h3 => ?_
        by_cases hj : j = i
        · subst hj; exact h0
        · exact hz j h1 (by omega) h3
      · have hge : P256 ≤ valL l := by
          rw [← pow16]
          rcases Nat.lt_or_ge (valL l) (65536 ^ 16) with hlt | hge
          · exfalso
            apply h0
            rw [valL_get h i, Nat.div_eq_of_lt (Nat.lt_of_lt_of_le hlt (Nat.pow_le_pow_right (by decide) hi))]
            rfl
          · exact hge
        rw [show Nat.ble P256 (valL l) = true from Nat.ble_eq.mpr hge]
        exact s258_2 t _ l i (by omega) (by omega) (by rw [Int.toNat_natCast]; exact hil) (by rw [Int.toNat_natCast]; exact h0)
  rcases Nat.lt_or_ge l.length 16 with hs | hs
  · exact key 0 16 (by omega) (.inr ⟨rfl, hs⟩) (fun j h1 h2 => by omega)
  · exact key (l.length - 16) 16 (by omega) (.inl (by omega)) (fun j h1 h2 => by omega)
theorem e258_ok : EntryOk Try.prog 258 e258 := by
  intro args ms r obs h ho
  unfold e258 at h
  split at h
  · rename_i n t l
    cases h
    have h1 := Nat.beq_eq.mp (ho _ (List.mem_cons_self ..))
    subst h1
    have h2 := ho _ (List.mem_cons_of_mem _ (List.mem_cons_self ..))
    have h3 := Nat.ble_eq.mp (ho _ (List.mem_cons_of_mem _ (List.mem_cons_of_mem _ (List.mem_cons_self ..))))
    exact s258n t h2 h3
  · cases h
theorem e225_ok : EntryOk Try.prog 225 e225 := by
  intro args ms r obs h ho
  unfold e225 at h
  split at h
  · cases h
    exact s225_1
  · cases h
theorem libq0_ok : AllOk Try.prog libq0 := .cons (roE_ok e90_ok) (.cons (roE_ok e85_ok) (.cons (roE_ok e258_ok) (.cons e225_ok libp3_ok)))
noncomputable def s223k0 : List Item := kAt Try.prog (tab libq0) Try.f223 [] 0 [W.c (C.sl 0 0 1)] [Blk.mk 22 Mode.ro (K.ints IntKind.u64 [0])]
noncomputable def s223st0 (l : List Int) (t0_1h0 : Nat) (b2_0h0 : List Int) : Cfg := cfg s223k0 [2, 0] [V.w (W.c (C.ptr 1 0)), V.w (W.c (C.sl 2 0 t0_1h0))] [Blk.mk 22 Mode.ro (K.ints IntKind.u64 l), Blk.mk 79 Mode.rw (K.cs [C.u 0, C.u 0, C.u 0, C.u 0]), Blk.mk 22 Mode.ro (K.ints IntKind.u64 b2_0h0)]
noncomputable def s223k1 : List Item := kAt Try.prog (tab libq0) Try.f223 [(5, false)] 1 [W.c (C.sl 0 0 1)] [Blk.mk 22 Mode.ro (K.ints IntKind.u64 [0])]
noncomputable def s223st1 (l : List Int) (t0_1h0 : Nat) (b3_0h1 : List Int) : Cfg := cfg s223k1 [2, 3, 0] [V.w (W.c (C.ptr 1 0)), V.w (W.c (C.own 2)), V.w (W.c (C.sl 3 0 t0_1h0))] [Blk.mk 22 Mode.ro (K.ints IntKind.u64 l), Blk.mk 79 Mode.rw (K.cs [C.u 0, C.u 0, C.u 0, C.u 0]), Blk.mk 22 (Mode.own 16) (K.ints IntKind.u64 [65517, 65535, 65535, 65535, 65535, 65535, 65535, 65535, 65535, 65535, 65535, 65535, 65535, 65535, 65535, 32767]), Blk.mk 22 Mode.ro (K.ints IntKind.u64 b3_0h1)]
theorem s223_1 {ρ : Env} {w : World} {r : Res} (n : Nat) (l : List Int) (hg : G (mkX Try.prog (tab libq0) Try.f223 [Blk.mk 22 Mode.ro (K.ints IntKind.u64 l)] ρ w r) (s223st0 (l) (n) (l))) : G (mkX Try.prog (tab libq0) Try.f223 [Blk.mk 22 Mode.ro (K.ints IntKind.u64 l)] ρ w r) (cfg [.code (Try.f223.body.getD .skip)] (List.range 1) ([W.c (C.sl 0 0 n)].map V.w) [Blk.mk 22 Mode.ro (K.ints IntKind.u64 l)]) :=
  G.seg (X := mkX Try.prog (tab libq0) Try.f223 [Blk.mk 22 Mode.ro (K.ints IntKind.u64 l)] ρ w r) ⟨tab_ok libq0_ok, mixed⟩ [] 1000000 0 [2, 0] [(0, none), (1, none)] (k := s223k0) (vs := [V.w (W.c (C.ptr 1 0)), V.w (W.c (C.sl 0 0 n))]) (bs := [Blk.mk 22 Mode.ro (K.ints IntKind.u64 l), Blk.mk 79 Mode.rw (K.cs [C.u 0, C.u 0, C.u 0, C.u 0])]) (by kernel_rfl) (by kernel_rfl)
    onil (G.aliasRo 1 rfl rfl rfl (Nat.le_of_ble_eq_true rfl) hg)
theorem s223_2 {ρ : Env} {w : World} {r : Res} (n : Nat) (l : List Int) (t0_1h0 : Nat) (b2_0h0 : List Int) (h1 : List.length b2_0h0 = t0_1h0) (h2 : limOk b2_0h0 = true) (h3 : t0_1h0 ≤ 1000000000) (h4 : 115792089237316195423570985008687907853269984665640564039457584007913129639936 ≤ valL b2_0h0) (h5 : 16 ≤ (↑t0_1h0 : Int)) (h6 : (↑t0_1h0 : Int) ≤ (↑t0_1h0 : Int)) (h7 : List.length (List.take (t0_1h0 - 16) (List.drop 16 b2_0h0)) = t0_1h0 - 16) (h8 : limOk (List.take (t0_1h0 - 16) (List.drop 16 b2_0h0)) = true) (h9 : List.length (List.take (t0_1h0 - 16) (List.drop 16 b2_0h0)) ≤ 1000000000) (h10 : List.length (List.take 16 (List.drop 0 b2_0h0)) = 16) (h11 : List.length (lim (t0_1h0 - 16 + 1) (valL (List.take (t0_1h0 - 16) (List.drop 16 b2_0h0)) * 38)) = t0_1h0 - 16 + 1) (h12 : limOk (List.take 16 (List.drop 0 b2_0h0)) = true) (h13 : limOk (lim (t0_1h0 - 16 + 1) (valL (List.take (t0_1h0 - 16) (List.drop 16 b2_0h0)) * 38)) = true) (h14 : List.length (List.take 16 (List.drop 0 b2_0h0)) ≤ 1000000000) (h15 : List.length (lim (t0_1h0 - 16 + 1) (valL (List.take (t0_1h0 - 16) (List.drop 16 b2_0h0)) * 38)) ≤ 1000000000) (hg : G (mkX Try.prog (tab libq0) Try.f223 [Blk.mk 22 Mode.ro (K.ints IntKind.u64 l)] ρ w r) (s223st0 (l) (maxN 16 (t0_1h0 - 16 + 1) + 1) (lim (maxN 16 (t0_1h0 - 16 + 1) + 1) (valL (List.take 16 (List.drop 0 b2_0h0)) + valL (lim (t0_1h0 - 16 + 1) (valL (List.take (t0_1h0 - 16) (List.drop 16 b2_0h0)) * 38)))))) : G (mkX Try.prog (tab libq0) Try.f223 [Blk.mk 22 Mode.ro (K.ints IntKind.u64 l)] ρ w r) (s223st0 l t0_1h0 b2_0h0) :=
  G.seg (X := mkX Try.prog (tab libq0) Try.f223 [Blk.mk 22 Mode.ro (K.ints IntKind.u64 l)] ρ w r) ⟨tab_ok libq0_ok, mixed⟩ [(5, true)] 1000000 0 [2, 0] [(0, none), (1, none), (35, none)] (k := s223k0) (vs := [V.w (W.c (C.ptr 1 0)), V.w (W.c (C.own 2))]) (bs := [Blk.mk 22 Mode.ro (K.ints IntKind.u64 l), Blk.mk 79 Mode.rw (K.cs [C.u 0, C.u 0, C.u 0, C.u 0]), Blk.mk 22 (Mode.own (maxN 16 (t0_1h0 - 16 + 1) + 1)) (K.ints IntKind.u64 (lim (maxN 16 (t0_1h0 - 16 + 1) + 1) (valL (List.take 16 (List.drop 0 b2_0h0)) + valL (lim (t0_1h0 - 16 + 1) (valL (List.take (t0_1h0 - 16) (List.drop 16 b2_0h0)) * 38)))))]) (by kernel_rfl) (by kernel_rfl)
    (ocons (beqT h1) (ocons h2 (ocons (bleT h3) (ocons (bleT h4) (ocons rfl (ocons rfl (ocons rfl (ocons (decide_eq_true h5) (ocons rfl (ocons (decide_eq_true h5) (ocons rfl (ocons (decide_eq_true h6) (ocons (beqT h7) (ocons rfl (ocons h8 (ocons rfl (ocons (bleT h9) (ocons rfl (ocons (beqT h10) (ocons (beqT h11) (ocons h12 (ocons h13 (ocons (bleT h14) (ocons (bleT h15) onil)))))))))))))))))))))))) (G.ownSl 1 2 rfl rfl rfl hg)
theorem s223_3 {ρ : Env} {w : World} {r : Res} (n : Nat) (l : List Int) (t0_1h0 : Nat) (b2_0h0 : List Int) (h1 : List.length b2_0h0 = t0_1h0) (h2 : limOk b2_0h0 = true) (h3 : t0_1h0 ≤ 1000000000) (h4 : (!Nat.ble 115792089237316195423570985008687907853269984665640564039457584007913129639936 (valL b2_0h0)) = true) (hg : G (mkX Try.prog (tab libq0) Try.f223 [Blk.mk 22 Mode.ro (K.ints IntKind.u64 l)] ρ w r) (s223st1 (l) (t0_1h0) (b2_0h0))) : G (mkX Try.prog (tab libq0) Try.f223 [Blk.mk 22 Mode.ro (K.ints IntKind.u64 l)] ρ w r) (s223st0 l t0_1h0 b2_0h0) :=
  G.seg (X := mkX Try.prog (tab libq0) Try.f223 [Blk.mk 22 Mode.ro (K.ints IntKind.u64 l)] ρ w r) ⟨tab_ok libq0_ok, mixed⟩ [(5, false)] 1000000 0 [2, 3, 0] [(0, none), (1, none), (11, none), (2, none)] (k := s223k1) (vs := [V.w (W.c (C.ptr 1 0)), V.w (W.c (C.own 2)), V.w (W.c (C.sl 3 0 t0_1h0))]) (bs := [Blk.mk 22 Mode.ro (K.ints IntKind.u64 l), Blk.mk 79 Mode.rw (K.cs [C.u 0, C.u 0, C.u 0, C.u 0]), Blk.mk 22 (Mode.own 16) (K.ints IntKind.u64 [65517, 65535, 65535, 65535, 65535, 65535, 65535, 65535, 65535, 65535, 65535, 65535, 65535, 65535, 65535, 32767]), Blk.mk 22 Mode.ro (K.ints IntKind.u64 b2_0h0)]) (by kernel_rfl) (by kernel_rfl)
    (ocons (beqT h1) (ocons h2 (ocons (bleT h3) (ocons h4 onil)))) hg
theorem s223_4 {ρ : Env} {w : World} {r : Res} (n : Nat) (l : List Int) (t0_1h0 : Nat) (b3_0h1 : List Int) (h1 : List.length b3_0h1 = t0_1h0) (h2 : limOk b3_0h1 = true) (h3 : List.length b3_0h1 ≤ 1000000000) (h4 : (!Nat.blt (valL b3_0h1) 57896044618658097711785492504343953926634992332820282019728792003956564819949) = true) (hg : G (mkX Try.prog (tab libq0) Try.f223 [Blk.mk 22 Mode.ro (K.ints IntKind.u64 l)] ρ w r) (s223st1 (l) (t0_1h0) (lim t0_1h0 (subN t0_1h0 (valL b3_0h1) 57896044618658097711785492504343953926634992332820282019728792003956564819949)))) : G (mkX Try.prog (tab libq0) Try.f223 [Blk.mk 22 Mode.ro (K.ints IntKind.u64 l)] ρ w r) (s223st1 l t0_1h0 b3_0h1) :=
  G.seg (X := mkX Try.prog (tab libq0) Try.f223 [Blk.mk 22 Mode.ro (K.ints IntKind.u64 l)] ρ w r) ⟨tab_ok libq0_ok, mixed⟩ [(17, true)] 1000000 0 [2, 3, 0] [(0, none), (1, none), (2, none), (28, none)] (k := s223k1) (vs := [V.w (W.c (C.ptr 1 0)), V.w (W.c (C.own 2)), V.w (W.c (C.own 3))]) (bs := [Blk.mk 22 Mode.ro (K.ints IntKind.u64 l), Blk.mk 79 Mode.rw (K.cs [C.u 0, C.u 0, C.u 0, C.u 0]), Blk.mk 22 (Mode.own 16) (K.ints IntKind.u64 [65517, 65535, 65535, 65535, 65535, 65535, 65535, 65535, 65535, 65535, 65535, 65535, 65535, 65535, 65535, 32767]), Blk.mk 22 (Mode.own t0_1h0) (K.ints IntKind.u64 (lim t0_1h0 (subN t0_1h0 (valL b3_0h1) 57896044618658097711785492504343953926634992332820282019728792003956564819949)))]) (by kernel_rfl) (by kernel_rfl)
    (ocons (beqT h1) (ocons rfl (ocons h2 (ocons rfl (ocons (bleT h3) (ocons rfl (ocons h4 (ocons (beqT h1) (ocons rfl (ocons h2 (ocons rfl (ocons (bleT h3) (ocons rfl onil))))))))))))) (G.ownSl 2 3 rfl rfl rfl hg)
theorem s223_5 {ρ : Env} {w : World} (n : Nat) (l : List Int) (t0_1h0 : Nat) (b3_0h1 : List Int) (h1 : List.length b3_0h1 = t0_1h0) (h2 : limOk b3_0h1 = true) (h3 : List.length b3_0h1 ≤ 1000000000) (h4 : (!!Nat.blt (valL b3_0h1) 57896044618658097711785492504343953926634992332820282019728792003956564819949) = true) : G (mkX Try.prog (tab libq0) Try.f223 [Blk.mk 22 Mode.ro (K.ints IntKind.u64 l)] ρ w ⟨V.w (W.agg [C.u (toN b3_0h1 0), C.u (toN b3_0h1 0 / 18446744073709551616), C.u (toN b3_0h1 0 / 340282366920938463463374607431768211456), C.u (toN b3_0h1 0 / 6277101735386680763835789423207666416102355444464034512896)]), [], []⟩) (s223st1 l t0_1h0 b3_0h1) :=
  G.ends (tab_ok libq0_ok) mixed [(17, false)] 1000000 [(0, none)] (by kernel_rfl) (by kernel_rfl) (by kernel_rfl) (by kernel_rfl)
    (ocons (beqT h1) (ocons rfl (ocons h2 (ocons rfl (ocons (bleT h3) (ocons rfl (ocons h4 (ocons (beqT h1) (ocons h2 (ocons rfl (ocons rfl (ocons rfl onil))))))))))))


theorem valL_cat : ∀ (l m : List Int), valL (l ++ m) = valL l + 65536 ^ l.length * valL m
  | [], m => by simp [valL]
  | a :: l, m => by
    simp only [List.cons_append, valL, valL_cat l m, List.length_cons, Nat.pow_succ]
    rw [Nat.mul_add, ← Nat.add_assoc, Nat.mul_comm (65536 ^ l.length) 65536, Nat.mul_assoc]
theorem limOk_sub {l m : List Int} (h : limOk l = true) (hs : ∀ x ∈ m, x ∈ l) : limOk m = true := by
  unfold limOk at *
  rw [List.all_eq_true] at *
  exact fun x hx => h x (hs x hx)
/-- one turn: 2^256 is 38, and p twice. -/
theorem fold_turn {l : List Int} {n : Nat} (hl : l.length = n) (h : limOk l = true) (hn : 16 ≤ n) (hg : P256 ≤ valL l) :
    valL (lim (maxN 16 (n - 16 + 1) + 1) (valL (List.take 16 (List.drop 0 l)) + valL (lim (n - 16 + 1) (valL (List.take (n - 16) (List.drop 16 l)) * 38)))) % 57896044618658097711785492504343953926634992332820282019728792003956564819949 = valL l % 57896044618658097711785492504343953926634992332820282019728792003956564819949 ∧
    valL (lim (maxN 16 (n - 16 + 1) + 1) (valL (List.take 16 (List.drop 0 l)) + valL (lim (n - 16 + 1) (valL (List.take (n - 16) (List.drop 16 l)) * 38)))) < valL l := by
  rw [List.drop_zero, List.take_of_length_le (show (List.drop 16 l).length ≤ n - 16 by rw [List.length_drop]; omega), valL_lim, valL_lim]
  have hlo : limOk (List.take 16 l) = true := limOk_sub h fun x hx => List.mem_of_mem_take hx
  have hhi : limOk (List.drop 16 l) = true := limOk_sub h fun x hx => List.mem_of_mem_drop hx
  have h1 := valL_lt hlo
  have h2 := valL_lt hhi
  have h3 : valL l = valL (List.take 16 l) + P256 * valL (List.drop 16 l) := by
    conv => lhs; rw [← List.take_append_drop 16 l]
    rw [valL_cat, List.length_take, hl, show min 16 n = 16 by omega, pow16]
  rw [List.length_take, hl, show min 16 n = 16 by omega] at h1
  rw [List.length_drop, hl] at h2
  generalize valL (List.take 16 l) = lo at *
  generalize valL (List.drop 16 l) = hi at *
  have h4 : hi * 38 < 65536 ^ (n - 16 + 1) := by
    rw [Nat.pow_succ]
    omega
  rw [Nat.mod_eq_of_lt h4]
  have h5 : lo + hi * 38 < 65536 ^ (maxN 16 (n - 16 + 1) + 1) := by
    have a1 : (65536 : Nat) ^ 16 ≤ 65536 ^ maxN 16 (n - 16 + 1) := Nat.pow_le_pow_right (by decide) (Nat.le_max_left ..)
    have a2 : (65536 : Nat) ^ (n - 16 + 1) ≤ 65536 ^ maxN 16 (n - 16 + 1) := Nat.pow_le_pow_right (by decide) (Nat.le_max_right ..)
    rw [Nat.pow_succ]
    omega
  rw [Nat.mod_eq_of_lt h5]
  rw [pow16] at h1
  unfold P256 at *
  constructor
  · rw [h3, show lo + 115792089237316195423570985008687907853269984665640564039457584007913129639936 * hi = lo + hi * 38 + 57896044618658097711785492504343953926634992332820282019728792003956564819949 * (2 * hi) by omega, Nat.add_mul_mod_self_left]
  · omega
theorem fold_less {l : List Int} {n : Nat} (hl : l.length = n) (h : limOk l = true) (hn : 16 ≤ n) (hg : 57896044618658097711785492504343953926634992332820282019728792003956564819949 ≤ valL l) : valL (lim n (subN n (valL l) 57896044618658097711785492504343953926634992332820282019728792003956564819949)) = valL l - 57896044618658097711785492504343953926634992332820282019728792003956564819949 := by
  rw [valL_lim, subN]
  have h1 := valL_lt h
  rw [hl] at h1
  have h2 : 115792089237316195423570985008687907853269984665640564039457584007913129639936 ≤ 65536 ^ n := by
    have : (65536 : Nat) ^ 16 ≤ 65536 ^ n := Nat.pow_le_pow_right (by decide) hn
    rw [pow16] at this
    exact this
  rw [Nat.mod_eq_of_lt (show 57896044618658097711785492504343953926634992332820282019728792003956564819949 < 65536 ^ n by omega), show valL l + 65536 ^ n - 57896044618658097711785492504343953926634992332820282019728792003956564819949 = valL l - 57896044618658097711785492504343953926634992332820282019728792003956564819949 + 65536 ^ n by omega, Nat.add_mod_right, Nat.mod_eq_of_lt (by omega)]
def e223 : Entry := fun args ms => match args, ms with
  | [.c (.sl 0 0 n)], [⟨_, .ro, .ints .u64 l⟩] => some (⟨vN (valL l % 57896044618658097711785492504343953926634992332820282019728792003956564819949), [], []⟩, [Nat.beq l.length n, limOk l, Nat.ble 16 n, Nat.ble n 1000000])
  | _, _ => none
theorem toN_zero (l : List Int) : toN l 0 = valL l := by unfold toN; simp
theorem s223n {l : List Int} (h : limOk l = true) (h16 : 16 ≤ l.length) (hn : l.length ≤ 1000000) : Sx.Spec Try.prog 223 [.c (.sl 0 0 l.length)] [⟨22, .ro, .ints .u64 l⟩] ⟨vN (valL l % 57896044618658097711785492504343953926634992332820282019728792003956564819949), [], []⟩ := by
  refine spec_body (tab := tab libq0) Try.func223 (by kernel_rfl) (by kernel_rfl) (by kernel_rfl) fun ρ w => ?_
  refine s223_1 _ l ?_
  have key1 : ∀ (f n : Nat) (m : List Int), m.length = n → limOk m = true → 16 ≤ n → n ≤ 1000000 → valL m < (f + 1) * 57896044618658097711785492504343953926634992332820282019728792003956564819949 → valL m % 57896044618658097711785492504343953926634992332820282019728792003956564819949 = valL l % 57896044618658097711785492504343953926634992332820282019728792003956564819949 → G (mkX Try.prog (tab libq0) Try.f223 [⟨22, .ro, .ints .u64 l⟩] ρ w ⟨vN (valL l % 57896044618658097711785492504343953926634992332820282019728792003956564819949), [], []⟩) (s223st1 l n m) := by
    intro f
    induction f with
    | zero =>
      intro n m hl hm h1 h2 hf hv
      have hlt : valL m < 57896044618658097711785492504343953926634992332820282019728792003956564819949 := by omega
      have k := s223_5 (ρ := ρ) (w := w) 0 l n m hl hm (by omega) (by rw [Bool.not_not]; exact Nat.blt_eq.mpr hlt)
      rw [toN_zero, show valL m = valL l % 57896044618658097711785492504343953926634992332820282019728792003956564819949 by rw [← hv, Nat.mod_eq_of_lt hlt]] at k
      exact k
    | succ f ih =>
      intro n m hl hm h1 h2 hf hv
      by_cases hlt : valL m < 57896044618658097711785492504343953926634992332820282019728792003956564819949
      · have k := s223_5 (ρ := ρ) (w := w) 0 l n m hl hm (by omega) (by rw [Bool.not_not]; exact Nat.blt_eq.mpr hlt)
        rw [toN_zero, show valL m = valL l % 57896044618658097711785492504343953926634992332820282019728792003956564819949 by rw [← hv, Nat.mod_eq_of_lt hlt]] at k
        exact k
      · refine s223_4 0 l n m hl hm (by omega) ?_ ?_
        · rw [show Nat.blt (valL m) 57896044618658097711785492504343953926634992332820282019728792003956564819949 = false from by cases hb : Nat.blt (valL m) 57896044618658097711785492504343953926634992332820282019728792003956564819949 with | false => rfl | true => exact absurd (Nat.blt_eq.mp hb) hlt]
          rfl
        · have e := fold_less hl hm h1 (by omega)
          refine ih n _ (lim_length _ _) (limOk_lim _ _) h1 h2 (by rw [e]; omega) ?_
          rw [e, ← hv]
          conv => rhs; rw [show valL m = valL m - 57896044618658097711785492504343953926634992332820282019728792003956564819949 + 57896044618658097711785492504343953926634992332820282019728792003956564819949 by omega, Nat.add_mod_right]
  have key0 : ∀ (v n : Nat) (m : List Int), m.length = n → limOk m = true → 16 ≤ n → n ≤ 1000000 → valL m ≤ v → valL m % 57896044618658097711785492504343953926634992332820282019728792003956564819949 = valL l % 57896044618658097711785492504343953926634992332820282019728792003956564819949 → G (mkX Try.prog (tab libq0) Try.f223 [⟨22, .ro, .ints .u64 l⟩] ρ w ⟨vN (valL l % 57896044618658097711785492504343953926634992332820282019728792003956564819949), [], []⟩) (s223st0 l n m) := by
    intro v
    induction v with
    | zero =>
      intro n m hl hm h1 h2 hv he
      refine s223_3 0 l n m hl hm (by omega) ?_ (key1 2 n m hl hm h1 h2 (by omega) he)
      rw [show Nat.ble 115792089237316195423570985008687907853269984665640564039457584007913129639936 (valL m) = false from by cases hb : Nat.ble 115792089237316195423570985008687907853269984665640564039457584007913129639936 (valL m) with | false => rfl | true => have := Nat.ble_eq.mp hb; omega]
      rfl
    | succ v ih =>
      intro n m hl hm h1 h2 hv he
      by_cases hg : 115792089237316195423570985008687907853269984665640564039457584007913129639936 ≤ valL m
      · obtain ⟨t1, t2⟩ := fold_turn hl hm h1 hg
        have hd : (List.take (n - 16) (List.drop 16 m)).length = n - 16 := by rw [List.length_take, List.length_drop]; omega
        have ht : (List.take 16 (List.drop 0 m)).length = 16 := by rw [List.length_take, List.length_drop]; omega
        refine s223_2 0 l n m hl hm (by omega) hg (by omega) (by omega) hd (limOk_sub hm fun x hx => List.mem_of_mem_drop (List.mem_of_mem_take hx)) (by omega) ht (lim_length _ _) (limOk_sub hm fun x hx => List.mem_of_mem_drop (List.mem_of_mem_take hx)) (limOk_lim _ _) (by omega) (by rw [lim_length]; omega) ?_
        have hmx : maxN 16 (n - 16 + 1) + 1 ≤ 1000000 ∧ 16 ≤ maxN 16 (n - 16 + 1) + 1 := by unfold maxN; omega
        exact ih _ _ (lim_length _ _) (limOk_lim _ _) hmx.2 hmx.1 (by omega) (by rw [t1, he])
      · refine s223_3 0 l n m hl hm (by omega) ?_ (key1 2 n m hl hm h1 h2 (by omega) he)
        rw [show Nat.ble 115792089237316195423570985008687907853269984665640564039457584007913129639936 (valL m) = false from by cases hb : Nat.ble 115792089237316195423570985008687907853269984665640564039457584007913129639936 (valL m) with | false => rfl | true => have := Nat.ble_eq.mp hb; omega]
        rfl
  exact key0 (valL l) _ l rfl h h16 hn (Nat.le_refl _) rfl
theorem e223_ok : EntryOk Try.prog 223 e223 := by
  intro args ms r obs h ho
  unfold e223 at h
  split at h
  · rename_i n t l
    cases h
    have h1 := Nat.beq_eq.mp (ho _ (List.mem_cons_self ..))
    subst h1
    have h2 := ho _ (List.mem_cons_of_mem _ (List.mem_cons_self ..))
    have h3 := Nat.ble_eq.mp (ho _ (List.mem_cons_of_mem _ (List.mem_cons_of_mem _ (List.mem_cons_self ..))))
    have h4 := Nat.ble_eq.mp (ho _ (List.mem_cons_of_mem _ (List.mem_cons_of_mem _ (List.mem_cons_of_mem _ (List.mem_cons_self ..)))))
    exact Spec.ro rfl rfl rfl (fun _ _ h => h) (s223n h2 h3 h4)
  · cases h
end Go.Proofs.Ytmjejlbmcefaoaa
