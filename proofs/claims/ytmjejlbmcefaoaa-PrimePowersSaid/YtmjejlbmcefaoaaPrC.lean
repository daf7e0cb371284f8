/- The numbers below p: sums, products and powers. -/
import Derived.Test.YtmjejlbmcefaoaaPrB
namespace Go.Proofs.Ytmjejlbmcefaoaa
open Go Sx
def libp3 : List (Nat × Entry) := [(104, e104), (110, e110), (121, e121), (122, e122), (123, e123), (124, numsE [1] r97), (126, e126), (127, e127), (224, e224), (226, e226)] ++ libp2
theorem libp3_ok : AllOk Try.prog libp3 := .cons e104_ok (.cons e110_ok (.cons e121_ok (.cons e122_ok (.cons e123_ok (.cons e124_ok (.cons e126_ok (.cons e127_ok (.cons e224_ok (.cons e226_ok libp2_ok)))))))))

/-- numbers' words, in a row. -/
def rowN : List Nat → List Int
  | [] => []
  | n :: r => wd n 0 :: wd n 1 :: wd n 2 :: wd n 3 :: rowN r
theorem rowN_length : ∀ ns : List Nat, (rowN ns).length = 4 * ns.length
  | [] => rfl
  | n :: r => by simp only [rowN, List.length_cons, rowN_length r]; omega
theorem rowN_append : ∀ a b : List Nat, rowN (a ++ b) = rowN a ++ rowN b
  | [], b => rfl
  | n :: r, b => by simp only [List.cons_append, rowN, rowN_append r b]
theorem rowN_get : ∀ (ns : List Nat) (i j : Nat), i < ns.length → j < 4 → (rowN ns).getD (i * 4 + j) 0 = wd (ns.getD i 0) j
  | [], i, j, h, _ => by simp at h
  | n :: r, 0, j, _, hj => by
    rw [Nat.zero_mul, Nat.zero_add]
    match j, hj with
    | 0, _ => rfl
    | 1, _ => rfl
    | 2, _ => rfl
    | 3, _ => rfl
  | n :: r, i + 1, j, h, hj => by
    rw [show (i + 1) * 4 + j = i * 4 + j + 1 + 1 + 1 + 1 by omega]
    simp only [rowN, List.getD_cons_succ]
    exact rowN_get r i j (by simpa using h) hj
theorem rowN_cs {ρ : Env} : ∀ (ns : List Nat) (vs : List Value), RL (RC ρ) (numCs ns) vs → vs = (rowN ns).map (Value.int .u64)
  | [], vs, h => by cases h; rfl
  | n :: r, vs, h => by
    cases h with | cons x1 h => cases h with | cons x2 h => cases h with | cons x3 h => cases h with | cons x4 h =>
    simp only [rowN, List.map_cons]
    rw [wd0, wd1, wd2, wd3, show _ = _ from x1, show _ = _ from x2, show _ = _ from x3, show _ = _ from x4, rowN_cs r _ h]
/-- a row's numbers. -/
def unrow : List Int → List Nat
  | a :: b :: c :: d :: r => num4 a.toNat b.toNat c.toNat d.toNat :: unrow r
  | _ => []
def isW (x : Int) : Bool := decide (0 ≤ x) && decide (x < 18446744073709551616)
theorem unrow_length : ∀ (l : List Int) (n : Nat), l.length = 4 * n → (unrow l).length = n
  | a :: b :: c :: d :: r, n, h => by
    simp only [List.length_cons] at h
    simp only [unrow, List.length_cons]
    have := unrow_length r (n - 1) (by omega)
    omega
  | [], n, h => by show 0 = n; simp only [List.length_nil] at h; omega
  | [_], n, h => by simp at h; omega
  | [_, _], n, h => by simp at h; omega
  | [_, _, _], n, h => by simp at h; omega
theorem wd_num4 {a b c d : Nat} (ha : a < 18446744073709551616) (hb : b < 18446744073709551616) (hc : c < 18446744073709551616) (hd : d < 18446744073709551616) : wd (num4 a b c d) 0 = a ∧ wd (num4 a b c d) 1 = b ∧ wd (num4 a b c d) 2 = c ∧ wd (num4 a b c d) 3 = d ∧ num4 a b c d < P256 := by
  have h := num4_cells ha hb hc hd
  rw [wd0, wd1, wd2, wd3, h.1, h.2.1, h.2.2.1, h.2.2.2.1]
  exact ⟨rfl, rfl, rfl, rfl, h.2.2.2.2⟩
theorem isW_nat {x : Int} (h : isW x = true) : x.toNat < 18446744073709551616 ∧ (x.toNat : Int) = x := by
  simp only [isW, Bool.and_eq_true, decide_eq_true_eq] at h
  omega
theorem rowN_unrow : ∀ (l : List Int) (n : Nat), l.length = 4 * n → l.all isW = true → rowN (unrow l) = l ∧ ∀ n ∈ unrow l, n < P256
  | a :: b :: c :: d :: r, n, h, hw => by
    simp only [List.all_cons, Bool.and_eq_true] at hw
    obtain ⟨ha, hb, hc, hd, hr⟩ := hw
    obtain ⟨ha, ea⟩ := isW_nat ha
    obtain ⟨hb, eb⟩ := isW_nat hb
    obtain ⟨hc, ec⟩ := isW_nat hc
    obtain ⟨hd, ed⟩ := isW_nat hd
    obtain ⟨e0, e1, e2, e3, e4⟩ := wd_num4 ha hb hc hd
    simp only [List.length_cons] at h
    obtain ⟨i1, i2⟩ := rowN_unrow r (n - 1) (by omega) hr
    refine ⟨by simp only [unrow, rowN, e0, e1, e2, e3, ea, eb, ec, ed, i1], ?_⟩
    intro m hm
    simp only [unrow, List.mem_cons] at hm
    rcases hm with rfl | hm
    · exact e4
    · exact i2 m hm
  | [], n, h, _ => ⟨rfl, fun m hm => by cases hm⟩
  | [_], n, h, _ => by simp at h; omega
  | [_, _], n, h, _ => by simp at h; omega
  | [_, _, _], n, h, _ => by simp at h; omega
theorem isW_wd (n i : Nat) : isW (wd n i) = true := by
  have := wd_range n i
  simp only [isW, Bool.and_eq_true, decide_eq_true_eq]
  exact this
theorem unrow_rowN : ∀ ns : List Nat, (∀ n ∈ ns, n < P256) → unrow (rowN ns) = ns ∧ (rowN ns).all isW = true
  | [], _ => ⟨rfl, rfl⟩
  | n :: r, h => by
    obtain ⟨i1, i2⟩ := unrow_rowN r fun m hm => h m (List.mem_cons_of_mem _ hm)
    have e : num4 (wd n 0).toNat (wd n 1).toNat (wd n 2).toNat (wd n 3).toNat = n := by
      rw [wd0, wd1, wd2, wd3]
      simp only [Int.toNat_natCast]
      exact (nn_eq n).trans (Nat.mod_eq_of_lt (h n (List.mem_cons_self ..)))
    refine ⟨by simp only [rowN, unrow, e, i1], ?_⟩
    simp only [rowN, List.all_cons, isW_wd, Bool.true_and, i2]
/-- an entry over a slice of numbers. -/
def listE (R : List Nat → Res) : Entry := fun args ms =>
  match args, ms with
  | [.c (.sl 0 0 n)], [⟨_, .ro, .cs l⟩] => match nums l with
    | some (ns, o) => bif Nat.beq ns.length n && Nat.blt n 4096 then some (R ns, o) else none
    | none => none
  | [.c (.sl 0 0 n)], [⟨_, .ro, .ints .u64 l⟩] => some (R (unrow l), [Nat.beq l.length (4 * n), Nat.blt n 4096, l.all isW])
  | _, _ => none
theorem listE_ok {f : FuncId} {R : List Nat → Res} (hu : ∀ ns, (R ns).upd = []) (h : ∀ ns : List Nat, ns.length < 4096 → (∀ n ∈ ns, n < P256) → Sx.Spec Try.prog f [.c (.sl 0 0 ns.length)] [⟨0, .ro, .ints .u64 (rowN ns)⟩] (R ns)) : EntryOk Try.prog f (listE R) := by
  intro args ms r obs he ho
  unfold listE at he
  split at he
  · rename_i n ty l
    split at he
    · rename_i ns o hn
      cases hb : Nat.beq ns.length n && Nat.blt n 4096 with
      | false => simp [hb] at he
      | true =>
        simp only [hb, cond_true, Option.some.injEq, Prod.mk.injEq] at he
        obtain ⟨rfl, rfl⟩ := he
        rw [Bool.and_eq_true] at hb
        obtain ⟨hb, hc⟩ := hb
        have hb := Nat.beq_eq.mp hb
        have hc := Nat.blt_eq.mp hc
        subst hb
        obtain ⟨h1, h2, h3⟩ := nums_ok hn ho
        refine Spec.ro (hu ns) (nums_ids hn) (by simp only [K.len, h2, rowN_length]) (fun ρ read hk => ?_) (h ns hc h1)
        obtain ⟨vs, hl, hv, hi⟩ := K.Is.list hk
        have := rowN_cs ns vs (h3 ρ vs ((K.Is.congr_cs hl).1 hi) ρ)
        have hl2 : vs.length = (rowN ns).length := by rw [this, List.length_map]
        refine ((K.Is.congr_ints hl2).2 this).read fun i y _ hy => hv i y hy
    · cases he
  · rename_i n ty l
    simp only [Option.some.injEq, Prod.mk.injEq] at he
    obtain ⟨rfl, rfl⟩ := he
    have h1 := Nat.beq_eq.mp (ho _ (List.mem_cons_self ..))
    have h2 := Nat.blt_eq.mp (ho _ (List.mem_cons_of_mem _ (List.mem_cons_self ..)))
    have h3 := ho _ (List.mem_cons_of_mem _ (List.mem_cons_of_mem _ (List.mem_cons_self ..)))
    obtain ⟨e1, e2⟩ := rowN_unrow l n h1 h3
    have hl := unrow_length l n h1
    have k := h (unrow l) (by omega) e2
    rw [e1, hl] at k
    exact Spec.ro (hu _) rfl rfl (fun _ _ h => h) k
  · cases he
theorem row_el {ns : List Nat} {i : Nat} (hi : i < ns.length) : num4 (Int.toNat (List.getD (rowN ns) (spot 0 (Int.toNat (i : Int)) 4 + 0) 0)) (Int.toNat (List.getD (rowN ns) (spot 0 (Int.toNat (i : Int)) 4 + 1) 0)) (Int.toNat (List.getD (rowN ns) (spot 0 (Int.toNat (i : Int)) 4 + 2) 0)) (Int.toNat (List.getD (rowN ns) (spot 0 (Int.toNat (i : Int)) 4 + 3) 0)) = nn (ns.getD i 0) := by
  rw [Int.toNat_natCast, show spot 0 i 4 = i * 4 from rfl, rowN_get ns i 0 hi (by omega), rowN_get ns i 1 hi (by omega), rowN_get ns i 2 hi (by omega), rowN_get ns i 3 hi (by omega), wd0, wd1, wd2, wd3]
  simp only [Int.toNat_natCast]
  rfl
theorem row_in {ns : List Nat} {i : Nat} (hi : i < ns.length) (j : Nat) (hj : j < 4) : spot 0 (Int.toNat (i : Int)) 4 + j < (rowN ns).length := by
  rw [Int.toNat_natCast, show spot 0 i 4 = i * 4 from rfl, rowN_length]
  omega
theorem row_w {ns : List Nat} {i : Nat} (hi : i < ns.length) (j : Nat) (hj : j < 4) : (decide (0 ≤ List.getD (rowN ns) (spot 0 (Int.toNat (i : Int)) 4 + j) 0) && decide (List.getD (rowN ns) (spot 0 (Int.toNat (i : Int)) 4 + j) 0 < 18446744073709551616)) = true := by
  rw [Int.toNat_natCast, show spot 0 i 4 = i * 4 from rfl, rowN_get ns i j hi hj]
  exact isW_wd _ _
noncomputable def s113k0 : List Item := kAt Try.prog (tab libp3) Try.f113 [] 0 [W.c (C.sl 0 0 1)] [Blk.mk 1 Mode.ro (K.ints IntKind.u64 [0])]
noncomputable def s113st0 (t : Nat) (n : Nat) (l : List Int) (t10 : Int) (b2_0 : Nat) (b2_1 : Nat) (b2_2 : Nat) (b2_3 : Nat) : Cfg := cfg s113k0 [2, 3, 8, 9, 10] [V.w (W.c (C.ptr 1 0)), V.w (W.c (C.ptr 2 0)), V.w (W.c (C.sl 0 0 n)), V.int IntKind.i64 (↑n : Int), V.int IntKind.i64 t10] [Blk.mk t Mode.ro (K.ints IntKind.u64 l), Blk.mk 106 Mode.rw (K.cs [C.u 0, C.u 0, C.u 0, C.u 0]), Blk.mk 106 Mode.rw (K.cs [C.u b2_0, C.u b2_1, C.u b2_2, C.u b2_3])]
theorem s113_1 {ρ : Env} {w : World} {r : Res} (t : Nat) (n : Nat) (l : List Int) (hg : G (mkX Try.prog (tab libp3) Try.f113 [Blk.mk t Mode.ro (K.ints IntKind.u64 l)] ρ w r) (s113st0 t (n) (l) (0) (0) (0) (0) (0))) : G (mkX Try.prog (tab libp3) Try.f113 [Blk.mk t Mode.ro (K.ints IntKind.u64 l)] ρ w r) (cfg [.code (Try.f113.body.getD .skip)] (List.range 1) ([W.c (C.sl 0 0 n)].map V.w) [Blk.mk t Mode.ro (K.ints IntKind.u64 l)]) :=
  G.seg (X := mkX Try.prog (tab libp3) Try.f113 [Blk.mk t Mode.ro (K.ints IntKind.u64 l)] ρ w r) ⟨tab_ok libp3_ok, mixed⟩ [] 1000000 0 [2, 3, 8, 9, 10] [(0, none), (1, none), (5, none)] (k := s113k0) (vs := [V.w (W.c (C.ptr 1 0)), V.w (W.c (C.ptr 2 0)), V.w (W.c (C.sl 0 0 n)), V.int IntKind.i64 (↑n : Int), V.int IntKind.i64 0]) (bs := [Blk.mk t Mode.ro (K.ints IntKind.u64 l), Blk.mk 106 Mode.rw (K.cs [C.u 0, C.u 0, C.u 0, C.u 0]), Blk.mk 106 Mode.rw (K.cs [C.u 0, C.u 0, C.u 0, C.u 0])]) (by kernel_rfl) (by kernel_rfl)
    onil hg
theorem s113_2 {ρ : Env} {w : World} {r : Res} (t : Nat) (n : Nat) (l : List Int) (t10 : Int) (b2_0 : Nat) (b2_1 : Nat) (b2_2 : Nat) (b2_3 : Nat) (h1 : t10 < (↑n : Int)) (h2 : 0 ≤ t10) (h3 : spot 0 (Int.toNat t10) 4 + 0 < List.length l) (h4 : spot 0 (Int.toNat t10) 4 + 1 < List.length l) (h5 : spot 0 (Int.toNat t10) 4 + 2 < List.length l) (h6 : spot 0 (Int.toNat t10) 4 + 3 < List.length l) (h7 : (decide (0 ≤ List.getD l (spot 0 (Int.toNat t10) 4 + 0) 0) && decide (List.getD l (spot 0 (Int.toNat t10) 4 + 0) 0 < 18446744073709551616)) = true) (h8 : (decide (0 ≤ List.getD l (spot 0 (Int.toNat t10) 4 + 1) 0) && decide (List.getD l (spot 0 (Int.toNat t10) 4 + 1) 0 < 18446744073709551616)) = true) (h9 : (decide (0 ≤ List.getD l (spot 0 (Int.toNat t10) 4 + 2) 0) && decide (List.getD l (spot 0 (Int.toNat t10) 4 + 2) 0 < 18446744073709551616)) = true) (h10 : (decide (0 ≤ List.getD l (spot 0 (Int.toNat t10) 4 + 3) 0) && decide (List.getD l (spot 0 (Int.toNat t10) 4 + 3) 0 < 18446744073709551616)) = true) (hg : G (mkX Try.prog (tab libp3) Try.f113 [Blk.mk t Mode.ro (K.ints IntKind.u64 l)] ρ w r) (s113st0 t (n) (l) (IntKind.wrap IntKind.i64 (t10 + 1)) (nn (num4 (b2_0 % 18446744073709551616) (b2_1 % 18446744073709551616) (b2_2 % 18446744073709551616) (b2_3 % 18446744073709551616) + num4 (Int.toNat (List.getD l (spot 0 (Int.toNat t10) 4 + 0) 0)) (Int.toNat (List.getD l (spot 0 (Int.toNat t10) 4 + 1) 0)) (Int.toNat (List.getD l (spot 0 (Int.toNat t10) 4 + 2) 0)) (Int.toNat (List.getD l (spot 0 (Int.toNat t10) 4 + 3) 0))) % 57896044618658097711785492504343953926634992332820282019728792003956564819949) (nn (num4 (b2_0 % 18446744073709551616) (b2_1 % 18446744073709551616) (b2_2 % 18446744073709551616) (b2_3 % 18446744073709551616) + num4 (Int.toNat (List.getD l (spot 0 (Int.toNat t10) 4 + 0) 0)) (Int.toNat (List.getD l (spot 0 (Int.toNat t10) 4 + 1) 0)) (Int.toNat (List.getD l (spot 0 (Int.toNat t10) 4 + 2) 0)) (Int.toNat (List.getD l (spot 0 (Int.toNat t10) 4 + 3) 0))) % 57896044618658097711785492504343953926634992332820282019728792003956564819949 / 18446744073709551616) (nn (num4 (b2_0 % 18446744073709551616) (b2_1 % 18446744073709551616) (b2_2 % 18446744073709551616) (b2_3 % 18446744073709551616) + num4 (Int.toNat (List.getD l (spot 0 (Int.toNat t10) 4 + 0) 0)) (Int.toNat (List.getD l (spot 0 (Int.toNat t10) 4 + 1) 0)) (Int.toNat (List.getD l (spot 0 (Int.toNat t10) 4 + 2) 0)) (Int.toNat (List.getD l (spot 0 (Int.toNat t10) 4 + 3) 0))) % 57896044618658097711785492504343953926634992332820282019728792003956564819949 / 340282366920938463463374607431768211456) (nn (num4 (b2_0 % 18446744073709551616) (b2_1 % 18446744073709551616) (b2_2 % 18446744073709551616) (b2_3 % 18446744073709551616) + num4 (Int.toNat (List.getD l (spot 0 (Int.toNat t10) 4 + 0) 0)) (Int.toNat (List.getD l (spot 0 (Int.toNat t10) 4 + 1) 0)) (Int.toNat (List.getD l (spot 0 (Int.toNat t10) 4 + 2) 0)) (Int.toNat (List.getD l (spot 0 (Int.toNat t10) 4 + 3) 0))) % 57896044618658097711785492504343953926634992332820282019728792003956564819949 / 6277101735386680763835789423207666416102355444464034512896))) : G (mkX Try.prog (tab libp3) Try.f113 [Blk.mk t Mode.ro (K.ints IntKind.u64 l)] ρ w r) (s113st0 t n l t10 b2_0 b2_1 b2_2 b2_3) :=
  G.seg (X := mkX Try.prog (tab libp3) Try.f113 [Blk.mk t Mode.ro (K.ints IntKind.u64 l)] ρ w r) ⟨tab_ok libp3_ok, mixed⟩ [(11, true)] 1000000 0 [2, 3, 8, 9, 10] [(0, none), (1, none), (2, none)] (k := s113k0) (vs := [V.w (W.c (C.ptr 1 0)), V.w (W.c (C.ptr 2 0)), V.w (W.c (C.sl 0 0 n)), V.int IntKind.i64 (↑n : Int), V.int IntKind.i64 (IntKind.wrap IntKind.i64 (t10 + 1))]) (bs := [Blk.mk t Mode.ro (K.ints IntKind.u64 l), Blk.mk 106 Mode.rw (K.cs [C.u 0, C.u 0, C.u 0, C.u 0]), Blk.mk 106 Mode.rw (K.cs [C.u (nn (num4 (b2_0 % 18446744073709551616) (b2_1 % 18446744073709551616) (b2_2 % 18446744073709551616) (b2_3 % 18446744073709551616) + num4 (Int.toNat (List.getD l (spot 0 (Int.toNat t10) 4 + 0) 0)) (Int.toNat (List.getD l (spot 0 (Int.toNat t10) 4 + 1) 0)) (Int.toNat (List.getD l (spot 0 (Int.toNat t10) 4 + 2) 0)) (Int.toNat (List.getD l (spot 0 (Int.toNat t10) 4 + 3) 0))) % 57896044618658097711785492504343953926634992332820282019728792003956564819949), C.u (nn (num4 (b2_0 % 18446744073709551616) (b2_1 % 18446744073709551616) (b2_2 % 18446744073709551616) (b2_3 % 18446744073709551616) + num4 (Int.toNat (List.getD l (spot 0 (Int.toNat t10) 4 + 0) 0)) (Int.toNat (List.getD l (spot 0 (Int.toNat t10) 4 + 1) 0)) (Int.toNat (List.getD l (spot 0 (Int.toNat t10) 4 + 2) 0)) (Int.toNat (List.getD l (spot 0 (Int.toNat t10) 4 + 3) 0))) % 57896044618658097711785492504343953926634992332820282019728792003956564819949 / 18446744073709551616), C.u (nn (num4 (b2_0 % 18446744073709551616) (b2_1 % 18446744073709551616) (b2_2 % 18446744073709551616) (b2_3 % 18446744073709551616) + num4 (Int.toNat (List.getD l (spot 0 (Int.toNat t10) 4 + 0) 0)) (Int.toNat (List.getD l (spot 0 (Int.toNat t10) 4 + 1) 0)) (Int.toNat (List.getD l (spot 0 (Int.toNat t10) 4 + 2) 0)) (Int.toNat (List.getD l (spot 0 (Int.toNat t10) 4 + 3) 0))) % 57896044618658097711785492504343953926634992332820282019728792003956564819949 / 340282366920938463463374607431768211456), C.u (nn (num4 (b2_0 % 18446744073709551616) (b2_1 % 18446744073709551616) (b2_2 % 18446744073709551616) (b2_3 % 18446744073709551616) + num4 (Int.toNat (List.getD l (spot 0 (Int.toNat t10) 4 + 0) 0)) (Int.toNat (List.getD l (spot 0 (Int.toNat t10) 4 + 1) 0)) (Int.toNat (List.getD l (spot 0 (Int.toNat t10) 4 + 2) 0)) (Int.toNat (List.getD l (spot 0 (Int.toNat t10) 4 + 3) 0))) % 57896044618658097711785492504343953926634992332820282019728792003956564819949 / 6277101735386680763835789423207666416102355444464034512896)])]) (by kernel_rfl) (by kernel_rfl)
    (ocons (decide_eq_true h1) (ocons (decide_eq_true h2) (ocons (decide_eq_true h1) (ocons (bltT h3) (ocons (bltT h4) (ocons (bltT h5) (ocons (bltT h6) (ocons rfl (ocons h7 (ocons h8 (ocons h9 (ocons h10 (ocons rfl (ocons rfl onil)))))))))))))) hg
theorem s113_3 {ρ : Env} {w : World} (t : Nat) (n : Nat) (l : List Int) (t10 : Int) (b2_0 : Nat) (b2_1 : Nat) (b2_2 : Nat) (b2_3 : Nat) (h1 : ¬t10 < (↑n : Int)) : G (mkX Try.prog (tab libp3) Try.f113 [Blk.mk t Mode.ro (K.ints IntKind.u64 l)] ρ w ⟨V.w (W.agg [C.u b2_0, C.u b2_1, C.u b2_2, C.u b2_3]), [], []⟩) (s113st0 t n l t10 b2_0 b2_1 b2_2 b2_3) :=
  G.ends (tab_ok libp3_ok) mixed [(11, false)] 1000000 [(0, none)] (by kernel_rfl) (by kernel_rfl) (by kernel_rfl) (by kernel_rfl)
    (ocons (ndec h1) (ocons rfl onil))

noncomputable def s111k0 : List Item := kAt Try.prog (tab libp3) Try.f111 [] 0 [W.c (C.sl 0 0 1)] [Blk.mk 1 Mode.ro (K.ints IntKind.u64 [0])]
noncomputable def s111st0 (t : Nat) (n : Nat) (l : List Int) (t9 : Int) (b2_0 : Nat) (b2_1 : Nat) (b2_2 : Nat) (b2_3 : Nat) : Cfg := cfg s111k0 [2, 3, 7, 8, 9] [V.w (W.c (C.ptr 1 0)), V.w (W.c (C.ptr 2 0)), V.w (W.c (C.sl 0 0 n)), V.int IntKind.i64 (↑n : Int), V.int IntKind.i64 t9] [Blk.mk t Mode.ro (K.ints IntKind.u64 l), Blk.mk 106 Mode.rw (K.cs [C.u 0, C.u 0, C.u 0, C.u 0]), Blk.mk 106 Mode.rw (K.cs [C.u b2_0, C.u b2_1, C.u b2_2, C.u b2_3])]
theorem s111_1 {ρ : Env} {w : World} {r : Res} (t : Nat) (n : Nat) (l : List Int) (hg : G (mkX Try.prog (tab libp3) Try.f111 [Blk.mk t Mode.ro (K.ints IntKind.u64 l)] ρ w r) (s111st0 t (n) (l) (0) (1) (0) (0) (0))) : G (mkX Try.prog (tab libp3) Try.f111 [Blk.mk t Mode.ro (K.ints IntKind.u64 l)] ρ w r) (cfg [.code (Try.f111.body.getD .skip)] (List.range 1) ([W.c (C.sl 0 0 n)].map V.w) [Blk.mk t Mode.ro (K.ints IntKind.u64 l)]) :=
  G.seg (X := mkX Try.prog (tab libp3) Try.f111 [Blk.mk t Mode.ro (K.ints IntKind.u64 l)] ρ w r) ⟨tab_ok libp3_ok, mixed⟩ [] 1000000 0 [2, 3, 7, 8, 9] [(0, none), (1, none), (9, none)] (k := s111k0) (vs := [V.w (W.c (C.ptr 1 0)), V.w (W.c (C.ptr 2 0)), V.w (W.c (C.sl 0 0 n)), V.int IntKind.i64 (↑n : Int), V.int IntKind.i64 0]) (bs := [Blk.mk t Mode.ro (K.ints IntKind.u64 l), Blk.mk 106 Mode.rw (K.cs [C.u 0, C.u 0, C.u 0, C.u 0]), Blk.mk 106 Mode.rw (K.cs [C.u 1, C.u 0, C.u 0, C.u 0])]) (by kernel_rfl) (by kernel_rfl)
    (ocons rfl (ocons rfl onil)) hg
theorem s111_2 {ρ : Env} {w : World} {r : Res} (t : Nat) (n : Nat) (l : List Int) (t9 : Int) (b2_0 : Nat) (b2_1 : Nat) (b2_2 : Nat) (b2_3 : Nat) (h1 : t9 < (↑n : Int)) (h2 : 0 ≤ t9) (h3 : spot 0 (Int.toNat t9) 4 + 0 < List.length l) (h4 : spot 0 (Int.toNat t9) 4 + 1 < List.length l) (h5 : spot 0 (Int.toNat t9) 4 + 2 < List.length l) (h6 : spot 0 (Int.toNat t9) 4 + 3 < List.length l) (h7 : (decide (0 ≤ List.getD l (spot 0 (Int.toNat t9) 4 + 0) 0) && decide (List.getD l (spot 0 (Int.toNat t9) 4 + 0) 0 < 18446744073709551616)) = true) (h8 : (decide (0 ≤ List.getD l (spot 0 (Int.toNat t9) 4 + 1) 0) && decide (List.getD l (spot 0 (Int.toNat t9) 4 + 1) 0 < 18446744073709551616)) = true) (h9 : (decide (0 ≤ List.getD l (spot 0 (Int.toNat t9) 4 + 2) 0) && decide (List.getD l (spot 0 (Int.toNat t9) 4 + 2) 0 < 18446744073709551616)) = true) (h10 : (decide (0 ≤ List.getD l (spot 0 (Int.toNat t9) 4 + 3) 0) && decide (List.getD l (spot 0 (Int.toNat t9) 4 + 3) 0 < 18446744073709551616)) = true) (hg : G (mkX Try.prog (tab libp3) Try.f111 [Blk.mk t Mode.ro (K.ints IntKind.u64 l)] ρ w r) (s111st0 t (n) (l) (IntKind.wrap IntKind.i64 (t9 + 1)) (num4 (b2_0 % 18446744073709551616) (b2_1 % 18446744073709551616) (b2_2 % 18446744073709551616) (b2_3 % 18446744073709551616) * num4 (Int.toNat (List.getD l (spot 0 (Int.toNat t9) 4 + 0) 0)) (Int.toNat (List.getD l (spot 0 (Int.toNat t9) 4 + 1) 0)) (Int.toNat (List.getD l (spot 0 (Int.toNat t9) 4 + 2) 0)) (Int.toNat (List.getD l (spot 0 (Int.toNat t9) 4 + 3) 0)) % 57896044618658097711785492504343953926634992332820282019728792003956564819949) (num4 (b2_0 % 18446744073709551616) (b2_1 % 18446744073709551616) (b2_2 % 18446744073709551616) (b2_3 % 18446744073709551616) * num4 (Int.toNat (List.getD l (spot 0 (Int.toNat t9) 4 + 0) 0)) (Int.toNat (List.getD l (spot 0 (Int.toNat t9) 4 + 1) 0)) (Int.toNat (List.getD l (spot 0 (Int.toNat t9) 4 + 2) 0)) (Int.toNat (List.getD l (spot 0 (Int.toNat t9) 4 + 3) 0)) % 57896044618658097711785492504343953926634992332820282019728792003956564819949 / 18446744073709551616) (num4 (b2_0 % 18446744073709551616) (b2_1 % 18446744073709551616) (b2_2 % 18446744073709551616) (b2_3 % 18446744073709551616) * num4 (Int.toNat (List.getD l (spot 0 (Int.toNat t9) 4 + 0) 0)) (Int.toNat (List.getD l (spot 0 (Int.toNat t9) 4 + 1) 0)) (Int.toNat (List.getD l (spot 0 (Int.toNat t9) 4 + 2) 0)) (Int.toNat (List.getD l (spot 0 (Int.toNat t9) 4 + 3) 0)) % 57896044618658097711785492504343953926634992332820282019728792003956564819949 / 340282366920938463463374607431768211456) (num4 (b2_0 % 18446744073709551616) (b2_1 % 18446744073709551616) (b2_2 % 18446744073709551616) (b2_3 % 18446744073709551616) * num4 (Int.toNat (List.getD l (spot 0 (Int.toNat t9) 4 + 0) 0)) (Int.toNat (List.getD l (spot 0 (Int.toNat t9) 4 + 1) 0)) (Int.toNat (List.getD l (spot 0 (Int.toNat t9) 4 + 2) 0)) (Int.toNat (List.getD l (spot 0 (Int.toNat t9) 4 + 3) 0)) % 57896044618658097711785492504343953926634992332820282019728792003956564819949 / 6277101735386680763835789423207666416102355444464034512896))) : G (mkX Try.prog (tab libp3) Try.f111 [Blk.mk t Mode.ro (K.ints IntKind.u64 l)] ρ w r) (s111st0 t n l t9 b2_0 b2_1 b2_2 b2_3) :=
  G.seg (X := mkX Try.prog (tab libp3) Try.f111 [Blk.mk t Mode.ro (K.ints IntKind.u64 l)] ρ w r) ⟨tab_ok libp3_ok, mixed⟩ [(10, true)] 1000000 0 [2, 3, 7, 8, 9] [(0, none), (1, none), (2, none)] (k := s111k0) (vs := [V.w (W.c (C.ptr 1 0)), V.w (W.c (C.ptr 2 0)), V.w (W.c (C.sl 0 0 n)), V.int IntKind.i64 (↑n : Int), V.int IntKind.i64 (IntKind.wrap IntKind.i64 (t9 + 1))]) (bs := [Blk.mk t Mode.ro (K.ints IntKind.u64 l), Blk.mk 106 Mode.rw (K.cs [C.u 0, C.u 0, C.u 0, C.u 0]), Blk.mk 106 Mode.rw (K.cs [C.u (num4 (b2_0 % 18446744073709551616) (b2_1 % 18446744073709551616) (b2_2 % 18446744073709551616) (b2_3 % 18446744073709551616) * num4 (Int.toNat (List.getD l (spot 0 (Int.toNat t9) 4 + 0) 0)) (Int.toNat (List.getD l (spot 0 (Int.toNat t9) 4 + 1) 0)) (Int.toNat (List.getD l (spot 0 (Int.toNat t9) 4 + 2) 0)) (Int.toNat (List.getD l (spot 0 (Int.toNat t9) 4 + 3) 0)) % 57896044618658097711785492504343953926634992332820282019728792003956564819949), C.u (num4 (b2_0 % 18446744073709551616) (b2_1 % 18446744073709551616) (b2_2 % 18446744073709551616) (b2_3 % 18446744073709551616) * num4 (Int.toNat (List.getD l (spot 0 (Int.toNat t9) 4 + 0) 0)) (Int.toNat (List.getD l (spot 0 (Int.toNat t9) 4 + 1) 0)) (Int.toNat (List.getD l (spot 0 (Int.toNat t9) 4 + 2) 0)) (Int.toNat (List.getD l (spot 0 (Int.toNat t9) 4 + 3) 0)) % 57896044618658097711785492504343953926634992332820282019728792003956564819949 / 18446744073709551616), C.u (num4 (b2_0 % 18446744073709551616) (b2_1 % 18446744073709551616) (b2_2 % 18446744073709551616) (b2_3 % 18446744073709551616) * num4 (Int.toNat (List.getD l (spot 0 (Int.toNat t9) 4 + 0) 0)) (Int.toNat (List.getD l (spot 0 (Int.toNat t9) 4 + 1) 0)) (Int.toNat (List.getD l (spot 0 (Int.toNat t9) 4 + 2) 0)) (Int.toNat (List.getD l (spot 0 (Int.toNat t9) 4 + 3) 0)) % 57896044618658097711785492504343953926634992332820282019728792003956564819949 / 340282366920938463463374607431768211456), C.u (num4 (b2_0 % 18446744073709551616) (b2_1 % 18446744073709551616) (b2_2 % 18446744073709551616) (b2_3 % 18446744073709551616) * num4 (Int.toNat (List.getD l (spot 0 (Int.toNat t9) 4 + 0) 0)) (Int.toNat (List.getD l (spot 0 (Int.toNat t9) 4 + 1) 0)) (Int.toNat (List.getD l (spot 0 (Int.toNat t9) 4 + 2) 0)) (Int.toNat (List.getD l (spot 0 (Int.toNat t9) 4 + 3) 0)) % 57896044618658097711785492504343953926634992332820282019728792003956564819949 / 6277101735386680763835789423207666416102355444464034512896)])]) (by kernel_rfl) (by kernel_rfl)
    (ocons (decide_eq_true h1) (ocons (decide_eq_true h2) (ocons (decide_eq_true h1) (ocons (bltT h3) (ocons (bltT h4) (ocons (bltT h5) (ocons (bltT h6) (ocons rfl (ocons h7 (ocons h8 (ocons h9 (ocons h10 (ocons rfl onil))))))))))))) hg
theorem s111_3 {ρ : Env} {w : World} (t : Nat) (n : Nat) (l : List Int) (t9 : Int) (b2_0 : Nat) (b2_1 : Nat) (b2_2 : Nat) (b2_3 : Nat) (h1 : ¬t9 < (↑n : Int)) : G (mkX Try.prog (tab libp3) Try.f111 [Blk.mk t Mode.ro (K.ints IntKind.u64 l)] ρ w ⟨V.w (W.agg [C.u b2_0, C.u b2_1, C.u b2_2, C.u b2_3]), [], []⟩) (s111st0 t n l t9 b2_0 b2_1 b2_2 b2_3) :=
  G.ends (tab_ok libp3_ok) mixed [(10, false)] 1000000 [(0, none)] (by kernel_rfl) (by kernel_rfl) (by kernel_rfl) (by kernel_rfl)
    (ocons (ndec h1) (ocons rfl onil))


/-- numbers added, and multiplied, as prime does it. -/
def addS (a b : Nat) : Nat := nn (a + nn b) % 57896044618658097711785492504343953926634992332820282019728792003956564819949
def mulS (a b : Nat) : Nat := a * nn b % 57896044618658097711785492504343953926634992332820282019728792003956564819949
def addP (ns : List Nat) : Nat := ns.foldl addS 0
def mulP (ns : List Nat) : Nat := ns.foldl mulS 1
theorem fold_step {f : Nat → Nat → Nat} {ns : List Nat} {i z : Nat} (hi : i < ns.length) : f ((ns.take i).foldl f z) (ns.getD i 0) = (ns.take (i + 1)).foldl f z := by
  rw [List.take_add_one, List.foldl_append]
  simp [hi]
def e113 : Entry := listE fun ns => ⟨vN (addP ns), [], []⟩
theorem e113_ok : EntryOk Try.prog 113 e113 := listE_ok (fun _ => rfl) fun ns hl h256 => by
  refine spec_body (tab := tab libp3) Try.func113 (by kernel_rfl) (by kernel_rfl) (by kernel_rfl) fun ρ w => ?_
  refine s113_1 0 _ _ ?_
  have key : ∀ (f i : Nat), i + f = ns.length → ∀ c0 c1 c2 c3, d4 c0 c1 c2 c3 = (ns.take i).foldl addS 0 → (ns.take i).foldl addS 0 < 57896044618658097711785492504343953926634992332820282019728792003956564819949 → G (mkX Try.prog (tab libp3) Try.f113 [⟨0, .ro, .ints .u64 (rowN ns)⟩] ρ w ⟨vN (addP ns), [], []⟩) (s113st0 0 ns.length (rowN ns) (i : Int) c0 c1 c2 c3) := by
    intro f
    induction f with
    | zero =>
      intro i hi c0 c1 c2 c3 hc hlt
      rw [Nat.add_zero] at hi
      subst hi
      rw [List.take_length] at hc
      refine G.resv (r := ⟨.w (.agg [.u c0, .u c1, .u c2, .u c3]), [], []⟩) (fun ρ y h => ?_) (s113_3 0 _ _ _ c0 c1 c2 c3 (by omega))
      rw [show addP ns = _ from hc.symm]
      exact rw_d4 y h
    | succ f ih =>
      intro i hi c0 c1 c2 c3 hc hlt
      have hin : i < ns.length := by omega
      refine s113_2 0 _ _ _ c0 c1 c2 c3 (by omega) (by omega) (row_in hin 0 (by omega)) (row_in hin 1 (by omega)) (row_in hin 2 (by omega)) (row_in hin 3 (by omega)) (row_w hin 0 (by omega)) (row_w hin 1 (by omega)) (row_w hin 2 (by omega)) (row_w hin 3 (by omega)) ?_
      rw [row_el hin, show num4 (c0 % 18446744073709551616) (c1 % 18446744073709551616) (c2 % 18446744073709551616) (c3 % 18446744073709551616) = d4 c0 c1 c2 c3 from rfl, hc, show IntKind.wrap .i64 ((i : Int) + 1) = ((i + 1 : Nat) : Int) by rw [i64w] <;> omega]
      have hs := fold_step (f := addS) (z := 0) hin
      have hb : (ns.take (i + 1)).foldl addS 0 < 57896044618658097711785492504343953926634992332820282019728792003956564819949 := by
        rw [← hs]
        exact Nat.mod_lt _ (by decide)
      refine ih (i + 1) (by omega) _ _ _ _ ?_ hb
      rw [d4_num, ← hs]
      exact Nat.mod_eq_of_lt (Nat.lt_trans (show addS _ _ < 57896044618658097711785492504343953926634992332820282019728792003956564819949 from Nat.mod_lt _ (by decide)) (by decide))
  exact key ns.length 0 (by omega) 0 0 0 0 (show d4 0 0 0 0 = 0 by decide) (show 0 < 57896044618658097711785492504343953926634992332820282019728792003956564819949 by decide)
def e111 : Entry := listE fun ns => ⟨vN (mulP ns), [], []⟩
theorem e111_ok : EntryOk Try.prog 111 e111 := listE_ok (fun _ => rfl) fun ns hl h256 => by
  refine spec_body (tab := tab libp3) Try.func111 (by kernel_rfl) (by kernel_rfl) (by kernel_rfl) fun ρ w => ?_
  refine s111_1 0 _ _ ?_
  have key : ∀ (f i : Nat), i + f = ns.length → ∀ c0 c1 c2 c3, d4 c0 c1 c2 c3 = (ns.take i).foldl mulS 1 → (ns.take i).foldl mulS 1 < 57896044618658097711785492504343953926634992332820282019728792003956564819949 → G (mkX Try.prog (tab libp3) Try.f111 [⟨0, .ro, .ints .u64 (rowN ns)⟩] ρ w ⟨vN (mulP ns), [], []⟩) (s111st0 0 ns.length (rowN ns) (i : Int) c0 c1 c2 c3) := by
    intro f
    induction f with
    | zero =>
      intro i hi c0 c1 c2 c3 hc hlt
      rw [Nat.add_zero] at hi
      subst hi
      rw [List.take_length] at hc
      refine G.resv (r := ⟨.w (.agg [.u c0, .u c1, .u c2, .u c3]), [], []⟩) (fun ρ y h => ?_) (s111_3 0 _ _ _ c0 c1 c2 c3 (by omega))
      rw [show mulP ns = _ from hc.symm]
      exact rw_d4 y h
    | succ f ih =>
      intro i hi c0 c1 c2 c3 hc hlt
      have hin : i < ns.length := by omega
      refine s111_2 0 _ _ _ c0 c1 c2 c3 (by omega) (by omega) (row_in hin 0 (by omega)) (row_in hin 1 (by omega)) (row_in hin 2 (by omega)) (row_in hin 3 (by omega)) (row_w hin 0 (by omega)) (row_w hin 1 (by omega)) (row_w hin 2 (by omega)) (row_w hin 3 (by omega)) ?_
      rw [row_el hin, show num4 (c0 % 18446744073709551616) (c1 % 18446744073709551616) (c2 % 18446744073709551616) (c3 % 18446744073709551616) = d4 c0 c1 c2 c3 from rfl, hc, show IntKind.wrap .i64 ((i : Int) + 1) = ((i + 1 : Nat) : Int) by rw [i64w] <;> omega]
      have hs := fold_step (f := mulS) (z := 1) hin
      have hb : (ns.take (i + 1)).foldl mulS 1 < 57896044618658097711785492504343953926634992332820282019728792003956564819949 := by
        rw [← hs]
        exact Nat.mod_lt _ (by decide)
      refine ih (i + 1) (by omega) _ _ _ _ ?_ hb
      rw [d4_num, ← hs]
      exact Nat.mod_eq_of_lt (Nat.lt_trans (show mulS _ _ < 57896044618658097711785492504343953926634992332820282019728792003956564819949 from Nat.mod_lt _ (by decide)) (by decide))
  exact key ns.length 0 (by omega) 1 0 0 0 (show d4 1 0 0 0 = 1 by decide) (show 1 < 57896044618658097711785492504343953926634992332820282019728792003956564819949 by decide)
end Go.Proofs.Ytmjejlbmcefaoaa
