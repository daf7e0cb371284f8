/- wide.Add, Sub, Cmp, Len, Bit, IsZero, Small: their contracts over plain numbers. -/
import Derived.Test.YtmjejlbmcefaoaaWnC
namespace Go.Proofs.Ytmjejlbmcefaoaa
open Go Sx

def libd0 : List (Nat × Entry) := [(220, e220), (222, e222)]
theorem libd0_ok : AllOk Try.prog libd0 := .cons e220_ok (.cons e222_ok (.nil _))
theorem blt_f {a b : Nat} (h : ¬ a < b) : Nat.blt a b = false := by
  cases hh : Nat.blt a b with
  | false => rfl
  | true => exact absurd (by simpa using hh) h
theorem beq_f {a b : Nat} (h : ¬ a = b) : Nat.beq a b = false := by
  cases hh : Nat.beq a b with
  | false => rfl
  | true => exact absurd (Nat.beq_eq.mp hh) h
theorem rv_w {ρ : Env} {x x' : W} {y : Value} (h : RW ρ x y → RW ρ x' y) : RV ρ (.w x) y → RV ρ (.w x') y := h
theorem w64_wd (n i : Nat) : w64 (wd n i) = true := by
  have := wd_range n i
  simp [w64, this.1, this.2]
theorem v4_wd {n : Nat} (h : n < 115792089237316195423570985008687907853269984665640564039457584007913129639936) : v4 (wd n 0) (wd n 1) (wd n 2) (wd n 3) = (n : Int) := by
  rw [wd0, wd1, wd2, wd3]
  unfold v4
  omega
theorem wd_l (n : Nat) : wd n 0 = l0 (n : Int) ∧ wd n 1 = l1 (n : Int) ∧ wd n 2 = l2 (n : Int) ∧ wd n 3 = l3 (n : Int) := by
  rw [wd0, wd1, wd2, wd3]
  unfold l0 l1 l2 l3
  omega
theorem imps2 (a b : Nat) : Imps [.agg (numC a), .agg (numC b)] [.agg (numI a), .agg (numI b)] := .cons (fun _ _ => rw_numI.2) (.cons (fun _ _ => rw_numI.2) .nil)
/-- cells of numbers and a number's cells. -/
theorem rw_lC {ρ : Env} {x : Int} {n : Nat} (h0 : l0 x = wd n 0) (h1 : l1 x = wd n 1) (h2 : l2 x = wd n 2) (h3 : l3 x = wd n 3) (y : Value) (h : RW ρ (.agg [.v (.int .u64 (l0 x)), .v (.int .u64 (l1 x)), .v (.int .u64 (l2 x)), .v (.int .u64 (l3 x))]) y) : RW ρ (.agg (numC n)) y := by
  rw [h0, h1, h2, h3] at h
  exact rw_numI.1 h
theorem s84n {a b : Nat} (ha : a < P256) (hb : b < P256) : Sx.Spec Try.prog 84 [.agg (numC a), .agg (numC b)] [] (r84 [a, b]) := by
  refine Spec.imps (imps2 a b) ?_
  have h := s84_1 (wd a 0) (wd a 1) (wd a 2) (wd a 3) (wd b 0) (wd b 1) (wd b 2) (wd b 3) (w64_wd _ _) (w64_wd _ _) (w64_wd _ _) (w64_wd _ _) (w64_wd _ _) (w64_wd _ _) (w64_wd _ _) (w64_wd _ _)
  rw [v4_wd ha, v4_wd hb] at h
  refine Spec.resv (fun ρ y => rv_tup2 (fun y h => ?_) (fun y h => ?_)) h
  · have e := wd_l (a + b)
    rw [Int.natCast_add] at e
    exact rw_lC e.1.symm e.2.1.symm e.2.2.1.symm e.2.2.2.symm y h
  · refine (rc_word (ρ := ρ) (y := y) ?_).1 h
    unfold P256 at ha hb
    omega
theorem s87n {a b : Nat} (ha : a < P256) (hb : b < P256) : Sx.Spec Try.prog 87 [.agg (numC a), .agg (numC b)] [] (r87 [a, b]) := by
  refine Spec.imps (imps2 a b) ?_
  have h := s87_1 (wd a 0) (wd a 1) (wd a 2) (wd a 3) (wd b 0) (wd b 1) (wd b 2) (wd b 3) (w64_wd _ _) (w64_wd _ _) (w64_wd _ _) (w64_wd _ _) (w64_wd _ _) (w64_wd _ _) (w64_wd _ _) (w64_wd _ _)
  rw [v4_wd ha, v4_wd hb] at h
  unfold P256 at ha hb
  refine Spec.resv (fun ρ y => rv_tup2 (fun y h => ?_) (fun y h => ?_)) h
  · have e := wd_l (a + (115792089237316195423570985008687907853269984665640564039457584007913129639936 - b))
    have e0 : l0 ((a : Int) - b) = l0 ((a + (115792089237316195423570985008687907853269984665640564039457584007913129639936 - b) : Nat) : Int) := by unfold l0; omega
    have e1 : l1 ((a : Int) - b) = l1 ((a + (115792089237316195423570985008687907853269984665640564039457584007913129639936 - b) : Nat) : Int) := by unfold l1; omega
    have e2 : l2 ((a : Int) - b) = l2 ((a + (115792089237316195423570985008687907853269984665640564039457584007913129639936 - b) : Nat) : Int) := by unfold l2; omega
    have e3 : l3 ((a : Int) - b) = l3 ((a + (115792089237316195423570985008687907853269984665640564039457584007913129639936 - b) : Nat) : Int) := by unfold l3; omega
    exact rw_lC (e0.trans e.1.symm) (e1.trans e.2.1.symm) (e2.trans e.2.2.1.symm) (e3.trans e.2.2.2.symm) y h
  · refine (rc_word (ρ := ρ) (y := y) ?_).1 h
    unfold b2n
    by_cases hab : a < b
    · have : Nat.blt a b = true := by simpa using hab
      rw [this, if_pos (by omega)]; rfl
    · have : Nat.blt a b = false := blt_f hab
      rw [this, if_neg (by omega)]; rfl
theorem e84n_ok : EntryOk Try.prog 84 (numsE [1, 1] r84) := numsE_ok fun ns h hl => by
  obtain ⟨a, b, rfl⟩ := ns2 h
  exact s84n (hl a (by simp)) (hl b (by simp))
theorem e87n_ok : EntryOk Try.prog 87 (numsE [1, 1] r87) := numsE_ok fun ns h hl => by
  obtain ⟨a, b, rfl⟩ := ns2 h
  exact s87n (hl a (by simp)) (hl b (by simp))
theorem s94_1 (a : Nat) : Sx.Spec Try.prog 94 [W.agg [C.u a, C.u (a / 18446744073709551616), C.u (a / 340282366920938463463374607431768211456), C.u (a / 6277101735386680763835789423207666416102355444464034512896)]] [] ⟨V.bool (eqNs [nn a] [0]), [], []⟩ :=
  spec_of_whole (tab_ok libn_ok) mixed Try.func94 [] 1000000 [] (by kernel_rfl) (by kernel_rfl) (by kernel_rfl) (by kernel_rfl) (by kernel_rfl) (by kernel_rfl)
    onil


theorem e94n_ok : EntryOk Try.prog 94 (numsE [1] r94) := numsE_ok fun ns h hl => by
  obtain ⟨a, rfl⟩ := ns1 h
  refine spec_res (s94_1 a) ?_
  show (⟨V.bool (Nat.beq (nn a) 0), [], []⟩ : Res) = _
  rw [nn_id (hl a (by simp))]
  rfl
theorem s102_1 (x : Nat) : Sx.Spec Try.prog 102 [W.c (C.u x)] [] ⟨V.w (W.agg [C.u x, C.u 0, C.u 0, C.u 0]), [], []⟩ :=
  spec_of_whole (tab_ok libn_ok) mixed Try.func102 [] 1000000 [] (by kernel_rfl) (by kernel_rfl) (by kernel_rfl) (by kernel_rfl) (by kernel_rfl) (by kernel_rfl)
    (ocons rfl onil)


def e102n : Entry := fun args ms => match args, ms with
  | [.c c], [] => match wOf c with
    | some (x, o) => some (⟨.w (.agg (numC x)), [], []⟩, o)
    | none => none
  | _, _ => none
theorem e102n_ok : EntryOk Try.prog 102 e102n := by
  intro args ms r obs h ho
  unfold e102n at h
  split at h
  · rename_i c
    split at h
    · rename_i x o hw
      cases h
      obtain ⟨hx, hc⟩ := wOf_ok hw ho
      refine Spec.imps (bs := [.c (.u x)]) (.cons (fun ρ v hv => ?_) .nil) (Spec.resv (fun ρ y => ?_) (s102_1 x))
      · have := hc ρ v hv
        show v = _
        rw [this, Nat.mod_eq_of_lt hx]
      · refine rv_w fun h => rw4 (fun y h => h) (fun y h => ?_) (fun y h => ?_) (fun y h => ?_) h
        · show y = _
          rw [show y = _ from h]
          congr 2
          omega
        · show y = _
          rw [show y = _ from h]
          congr 2
          omega
        · show y = _
          rw [show y = _ from h]
          congr 2
          omega
    · cases h
  · cases h
noncomputable def s91k0 : List Item := kAt Try.prog (tab libd0) Try.f91 [] 0 [W.ints IntKind.u64 [0], W.ints IntKind.u64 [0]] []
noncomputable def s91st0 (l : List Int) (m : List Int) (t5 : Int) : Cfg := cfg s91k0 [2, 3, 5] [V.w (W.c (C.ptr 0 0)), V.w (W.c (C.ptr 1 0)), V.int IntKind.i64 t5] [Blk.mk 80 Mode.rw (K.ints IntKind.u64 l), Blk.mk 80 Mode.rw (K.ints IntKind.u64 m)]
theorem s91_1 {ρ : Env} {w : World} {r : Res} (l : List Int) (m : List Int) (hg : G (mkX Try.prog (tab libd0) Try.f91 [] ρ w r) (s91st0 (l) (m) (3))) : G (mkX Try.prog (tab libd0) Try.f91 [] ρ w r) (cfg [.code (Try.f91.body.getD .skip)] (List.range 2) ([W.ints IntKind.u64 l, W.ints IntKind.u64 m].map V.w) []) :=
  G.seg (X := mkX Try.prog (tab libd0) Try.f91 [] ρ w r) ⟨tab_ok libd0_ok, mixed⟩ [] 1000000 0 [2, 3, 5] [(0, none), (4, none)] (k := s91k0) (vs := [V.w (W.c (C.ptr 0 0)), V.w (W.c (C.ptr 1 0)), V.int IntKind.i64 3]) (bs := [Blk.mk 80 Mode.rw (K.ints IntKind.u64 l), Blk.mk 80 Mode.rw (K.ints IntKind.u64 m)]) (by kernel_rfl) (by kernel_rfl)
    onil hg
theorem s91_2 {ρ : Env} {w : World} (l : List Int) (m : List Int) (t5 : Int) (h1 : t5 ≥ 0) (h2 : 0 ≤ t5) (h3 : t5 < 4) (h4 : Int.toNat t5 < List.length l) (h5 : Int.toNat t5 < List.length m) (h6 : ¬List.getD l (Int.toNat t5) 0 = List.getD m (Int.toNat t5) 0) : G (mkX Try.prog (tab libd0) Try.f91 [] ρ w ⟨V.int IntKind.i64 (cmpI (List.getD l (Int.toNat t5) 0) (List.getD m (Int.toNat t5) 0)), [], []⟩) (s91st0 l m t5) :=
  G.ends (tab_ok libd0_ok) mixed [(7, true), (16, true)] 1000000 [] (by kernel_rfl) (by kernel_rfl) (by kernel_rfl) (by kernel_rfl)
    (ocons (decide_eq_true h1) (ocons (decide_eq_true h2) (ocons (decide_eq_true h3) (ocons (bltT h4) (ocons (decide_eq_true h2) (ocons (decide_eq_true h3) (ocons (bltT h5) (ocons (bneI h6) (ocons (decide_eq_true h2) (ocons (decide_eq_true h3) (ocons (bltT h4) (ocons (decide_eq_true h2) (ocons (decide_eq_true h3) (ocons (bltT h5) onil))))))))))))))
theorem s91_3 {ρ : Env} {w : World} {r : Res} (l : List Int) (m : List Int) (t5 : Int) (h1 : t5 ≥ 0) (h2 : 0 ≤ t5) (h3 : t5 < 4) (h4 : Int.toNat t5 < List.length l) (h5 : Int.toNat t5 < List.length m) (h6 : List.getD l (Int.toNat t5) 0 = List.getD m (Int.toNat t5) 0) (hg : G (mkX Try.prog (tab libd0) Try.f91 [] ρ w r) (s91st0 (l) (m) (IntKind.wrap IntKind.i64 (t5 - 1)))) : G (mkX Try.prog (tab libd0) Try.f91 [] ρ w r) (s91st0 l m t5) :=
  G.seg (X := mkX Try.prog (tab libd0) Try.f91 [] ρ w r) ⟨tab_ok libd0_ok, mixed⟩ [(7, true), (16, false)] 1000000 0 [2, 3, 5] [(0, none), (1, none)] (k := s91k0) (vs := [V.w (W.c (C.ptr 0 0)), V.w (W.c (C.ptr 1 0)), V.int IntKind.i64 (IntKind.wrap IntKind.i64 (t5 - 1))]) (bs := [Blk.mk 80 Mode.rw (K.ints IntKind.u64 l), Blk.mk 80 Mode.rw (K.ints IntKind.u64 m)]) (by kernel_rfl) (by kernel_rfl)
    (ocons (decide_eq_true h1) (ocons (decide_eq_true h2) (ocons (decide_eq_true h3) (ocons (bltT h4) (ocons (decide_eq_true h2) (ocons (decide_eq_true h3) (ocons (bltT h5) (ocons (nbneI h6) onil)))))))) hg
theorem s91_4 {ρ : Env} {w : World} (l : List Int) (m : List Int) (t5 : Int) (h1 : ¬t5 ≥ 0) : G (mkX Try.prog (tab libd0) Try.f91 [] ρ w ⟨V.int IntKind.i64 0, [], []⟩) (s91st0 l m t5) :=
  G.ends (tab_ok libd0_ok) mixed [(7, false)] 1000000 [] (by kernel_rfl) (by kernel_rfl) (by kernel_rfl) (by kernel_rfl)
    (ocons (ndec h1) onil)

noncomputable def s100k0 : List Item := kAt Try.prog (tab libd0) Try.f100 [] 0 [W.ints IntKind.u64 [0]] []
noncomputable def s100st0 (l : List Int) (t3 : Int) : Cfg := cfg s100k0 [1, 3] [V.w (W.c (C.ptr 0 0)), V.int IntKind.i64 t3] [Blk.mk 80 Mode.rw (K.ints IntKind.u64 l)]
theorem s100_1 {ρ : Env} {w : World} {r : Res} (l : List Int) (hg : G (mkX Try.prog (tab libd0) Try.f100 [] ρ w r) (s100st0 (l) (3))) : G (mkX Try.prog (tab libd0) Try.f100 [] ρ w r) (cfg [.code (Try.f100.body.getD .skip)] (List.range 1) ([W.ints IntKind.u64 l].map V.w) []) :=
  G.seg (X := mkX Try.prog (tab libd0) Try.f100 [] ρ w r) ⟨tab_ok libd0_ok, mixed⟩ [] 1000000 0 [1, 3] [(0, none)] (k := s100k0) (vs := [V.w (W.c (C.ptr 0 0)), V.int IntKind.i64 3]) (bs := [Blk.mk 80 Mode.rw (K.ints IntKind.u64 l)]) (by kernel_rfl) (by kernel_rfl)
    onil hg
theorem s100_2 {ρ : Env} {w : World} (l : List Int) (t3 : Int) (h1 : t3 ≥ 0) (h2 : 0 ≤ t3) (h3 : t3 < 4) (h4 : Int.toNat t3 < List.length l) (h5 : ¬List.getD l (Int.toNat t3) 0 = 0) (h6 : w64 (List.getD l (Int.toNat t3) 0) = true) : G (mkX Try.prog (tab libd0) Try.f100 [] ρ w ⟨V.int IntKind.i64 (IntKind.wrap IntKind.i64 (IntKind.wrap IntKind.i64 (64 * t3) + lenI (List.getD l (Int.toNat t3) 0))), [], []⟩) (s100st0 l t3) :=
  G.ends (tab_ok libd0_ok) mixed [(5, true), (11, true)] 1000000 [] (by kernel_rfl) (by kernel_rfl) (by kernel_rfl) (by kernel_rfl)
    (ocons (decide_eq_true h1) (ocons (decide_eq_true h2) (ocons (decide_eq_true h3) (ocons (bltT h4) (ocons (bneI h5) (ocons (decide_eq_true h2) (ocons (decide_eq_true h3) (ocons (bltT h4) (ocons h6 onil)))))))))
theorem s100_3 {ρ : Env} {w : World} {r : Res} (l : List Int) (t3 : Int) (h1 : t3 ≥ 0) (h2 : 0 ≤ t3) (h3 : t3 < 4) (h4 : Int.toNat t3 < List.length l) (h5 : List.getD l (Int.toNat t3) 0 = 0) (hg : G (mkX Try.prog (tab libd0) Try.f100 [] ρ w r) (s100st0 (l) (IntKind.wrap IntKind.i64 (t3 - 1)))) : G (mkX Try.prog (tab libd0) Try.f100 [] ρ w r) (s100st0 l t3) :=
  G.seg (X := mkX Try.prog (tab libd0) Try.f100 [] ρ w r) ⟨tab_ok libd0_ok, mixed⟩ [(5, true), (11, false)] 1000000 0 [1, 3] [(0, none)] (k := s100k0) (vs := [V.w (W.c (C.ptr 0 0)), V.int IntKind.i64 (IntKind.wrap IntKind.i64 (t3 - 1))]) (bs := [Blk.mk 80 Mode.rw (K.ints IntKind.u64 l)]) (by kernel_rfl) (by kernel_rfl)
    (ocons (decide_eq_true h1) (ocons (decide_eq_true h2) (ocons (decide_eq_true h3) (ocons (bltT h4) (ocons (nbneI h5) onil))))) hg
theorem s100_4 {ρ : Env} {w : World} (l : List Int) (t3 : Int) (h1 : ¬t3 ≥ 0) : G (mkX Try.prog (tab libd0) Try.f100 [] ρ w ⟨V.int IntKind.i64 0, [], []⟩) (s100st0 l t3) :=
  G.ends (tab_ok libd0_ok) mixed [(5, false)] 1000000 [] (by kernel_rfl) (by kernel_rfl) (by kernel_rfl) (by kernel_rfl)
    (ocons (ndec h1) onil)

theorem s101_1 (l : List Int) (i : Int) (h1 : i < 0) : Sx.Spec Try.prog 101 [W.ints IntKind.u64 l, W.int IntKind.i64 i] [] ⟨V.int IntKind.u64 0, [], []⟩ :=
  spec_of_whole (tab_ok libn_ok) mixed Try.func101 [(7, true)] 1000000 [] (by kernel_rfl) (by kernel_rfl) (by kernel_rfl) (by kernel_rfl) (by kernel_rfl) (by kernel_rfl)
    (ocons (decide_eq_true h1) onil)
theorem s101_2 (l : List Int) (i : Int) (h1 : ¬i < 0) (h2 : i > 255) : Sx.Spec Try.prog 101 [W.ints IntKind.u64 l, W.int IntKind.i64 i] [] ⟨V.int IntKind.u64 0, [], []⟩ :=
  spec_of_whole (tab_ok libn_ok) mixed Try.func101 [(7, false), (10, true)] 1000000 [] (by kernel_rfl) (by kernel_rfl) (by kernel_rfl) (by kernel_rfl) (by kernel_rfl) (by kernel_rfl)
    (ocons (ndec h1) (ocons (decide_eq_true h2) onil))
theorem s101_3 (l : List Int) (i : Int) (h1 : ¬i < 0) (h2 : ¬i > 255) (h3 : 0 ≤ IntKind.wrap IntKind.i64 (Int.tdiv i 64)) (h4 : IntKind.wrap IntKind.i64 (Int.tdiv i 64) < 4) (h5 : Int.toNat (IntKind.wrap IntKind.i64 (Int.tdiv i 64)) < List.length l) (h6 : 0 ≤ Int.tmod i 64) : Sx.Spec Try.prog 101 [W.ints IntKind.u64 l, W.int IntKind.i64 i] [] ⟨V.int IntKind.u64 (andI IntKind.u64 (Int.fdiv (List.getD l (Int.toNat (IntKind.wrap IntKind.i64 (Int.tdiv i 64))) 0) (2 ^ min (Int.toNat (Int.tmod i 64)) 64)) 1), [], []⟩ :=
  spec_of_whole (tab_ok libn_ok) mixed Try.func101 [(7, false), (10, false)] 1000000 [] (by kernel_rfl) (by kernel_rfl) (by kernel_rfl) (by kernel_rfl) (by kernel_rfl) (by kernel_rfl)
    (ocons (ndec h1) (ocons (ndec h2) (ocons rfl (ocons (decide_eq_true h3) (ocons (decide_eq_true h4) (ocons (bltT h5) (ocons rfl (ocons (decide_eq_true h6) onil))))))))


theorem imps2r (a b : Nat) : Imps [.agg (numC a), .agg (numC b)] [.ints .u64 (wrow a), .ints .u64 (wrow b)] := .cons (fun _ _ => rw_row) (.cons (fun _ _ => rw_row) .nil)
theorem cmpI_eq (x y : Int) : cmpI x y = if x < y then -1 else if y < x then 1 else 0 := by
  unfold cmpI
  by_cases h : x < y
  · simp [h]
  · by_cases h' : y < x <;> simp [h, h']
theorem cmpN_eq (a b : Nat) : cmpN a b = if a < b then -1 else if b < a then 1 else 0 := by
  unfold cmpN
  by_cases h : a < b
  · have : Nat.blt a b = true := by simpa using h
    simp [h, this]
  · have hb : Nat.blt a b = false := blt_f h
    by_cases h' : b < a
    · have : Nat.beq a b = false := by
        cases hh : Nat.beq a b with
        | false => rfl
        | true => have := Nat.beq_eq.mp hh; omega
      simp [h, h', hb, this]
    · have : a = b := by omega
      subst this
      simp [hb]
theorem row_get (a : Nat) : List.getD (wrow a) (Int.toNat 3) 0 = wd a 3 ∧ List.getD (wrow a) (Int.toNat 2) 0 = wd a 2 ∧ List.getD (wrow a) (Int.toNat 1) 0 = wd a 1 ∧ List.getD (wrow a) (Int.toNat 0) 0 = wd a 0 := ⟨rfl, rfl, rfl, rfl⟩
theorem s91n {a b : Nat} (ha : a < P256) (hb : b < P256) : Sx.Spec Try.prog 91 [.agg (numC a), .agg (numC b)] [] (r91 [a, b]) := by
  refine Spec.imps (imps2r a b) ?_
  refine spec_body (tab := tab libd0) Try.func91 (by kernel_rfl) (by kernel_rfl) (by kernel_rfl) fun ρ w => ?_
  have hl : ∀ n, (wrow n).length = 4 := fun n => rfl
  obtain ⟨a3, a2, a1, a0⟩ := row_get a
  obtain ⟨b3, b2, b1, b0⟩ := row_get b
  have fin : ∀ i : Nat, i < 4 → (∀ j, i < j → j < 4 → wd a j = wd b j) → wd a i ≠ wd b i → cmpI (wd a i) (wd b i) = cmpN a b := by
    intro i hi he hne
    rw [cmpI_eq, cmpN_eq]
    unfold P256 at ha hb
    match i, hi with
    | 0, _ =>
      have e1 := he 1 (by omega) (by omega)
      have e2 := he 2 (by omega) (by omega)
      have e3 := he 3 (by omega) (by omega)
      rw [wd0, wd0] at hne ⊢
      rw [wd1, wd1] at e1; rw [wd2, wd2] at e2; rw [wd3, wd3] at e3
      split <;> split <;> (try split) <;> (try split) <;> omega
    | 1, _ =>
      have e2 := he 2 (by omega) (by omega)
      have e3 := he 3 (by omega) (by omega)
      rw [wd1, wd1] at hne ⊢
      rw [wd2, wd2] at e2; rw [wd3, wd3] at e3
      split <;> split <;> (try split) <;> (try split) <;> omega
    | 2, _ =>
      have e3 := he 3 (by omega) (by omega)
      rw [wd2, wd2] at hne ⊢
      rw [wd3, wd3] at e3
      split <;> split <;> (try split) <;> (try split) <;> omega
    | 3, _ =>
      rw [wd3, wd3] at hne ⊢
      split <;> split <;> (try split) <;> (try split) <;> omega
  have res : ∀ {x y : Int} {c : Cfg}, x = y → G (mkX Try.prog (tab libd0) Try.f91 [] ρ w ⟨V.int .i64 x, [], []⟩) c → G (mkX Try.prog (tab libd0) Try.f91 [] ρ w ⟨V.int .i64 y, [], []⟩) c := fun e h => e ▸ h
  refine s91_1 _ _ ?_
  by_cases h3 : wd a 3 = wd b 3
  · refine s91_3 _ _ 3 (by decide) (by decide) (by decide) (by rw [hl]; decide) (by rw [hl]; decide) (by rw [a3, b3]; exact h3) ?_
    rw [show IntKind.wrap .i64 (3 - 1) = 2 from by decide]
    by_cases h2 : wd a 2 = wd b 2
    · refine s91_3 _ _ 2 (by decide) (by decide) (by decide) (by rw [hl]; decide) (by rw [hl]; decide) (by rw [a2, b2]; exact h2) ?_
      rw [show IntKind.wrap .i64 (2 - 1) = 1 from by decide]
      by_cases h1 : wd a 1 = wd b 1
      · refine s91_3 _ _ 1 (by decide) (by decide) (by decide) (by rw [hl]; decide) (by rw [hl]; decide) (by rw [a1, b1]; exact h1) ?_
        rw [show IntKind.wrap .i64 (1 - 1) = 0 from by decide]
        by_cases h0 : wd a 0 = wd b 0
        · refine s91_3 _ _ 0 (by decide) (by decide) (by decide) (by rw [hl]; decide) (by rw [hl]; decide) (by rw [a0, b0]; exact h0) ?_
          rw [show IntKind.wrap .i64 (0 - 1) = -1 from by decide]
          refine res ?_ (s91_4 _ _ (-1) (by decide))
          rw [cmpN_eq]
          unfold P256 at ha hb
          rw [wd0, wd0] at h0; rw [wd1, wd1] at h1; rw [wd2, wd2] at h2; rw [wd3, wd3] at h3
          split
          · omega
          · split <;> omega
        · refine res ?_ (s91_2 _ _ 0 (by decide) (by decide) (by decide) (by rw [hl]; decide) (by rw [hl]; decide) (by rw [a0, b0]; exact h0))
          rw [a0, b0]
          exact fin 0 (by omega) (fun j h h' => by match j, h, h' with | 1, _, _ => exact h1 | 2, _, _ => exact h2 | 3, _, _ => exact h3) h0
      · refine res ?_ (s91_2 _ _ 1 (by decide) (by decide) (by decide) (by rw [hl]; decide) (by rw [hl]; decide) (by rw [a1, b1]; exact h1))
        rw [a1, b1]
        exact fin 1 (by omega) (fun j h h' => by match j, h, h' with | 2, _, _ => exact h2 | 3, _, _ => exact h3) h1
    · refine res ?_ (s91_2 _ _ 2 (by decide) (by decide) (by decide) (by rw [hl]; decide) (by rw [hl]; decide) (by rw [a2, b2]; exact h2))
      rw [a2, b2]
      exact fin 2 (by omega) (fun j h h' => by match j, h, h' with | 3, _, _ => exact h3) h2
  · refine res ?_ (s91_2 _ _ 3 (by decide) (by decide) (by decide) (by rw [hl]; decide) (by rw [hl]; decide) (by rw [a3, b3]; exact h3))
    rw [a3, b3]
    exact fin 3 (by omega) (fun j h h' => by omega) h3
theorem e91n_ok : EntryOk Try.prog 91 (numsE [1, 1] r91) := numsE_ok fun ns h hl => by
  obtain ⟨a, b, rfl⟩ := ns2 h
  exact s91n (hl a (by simp)) (hl b (by simp))

def r100 : List Nat → Res := fun ns => match ns with | [a] => ⟨V.int .i64 (lenI (a : Nat)), [], []⟩ | _ => ⟨.tup [], [], []⟩
theorem len_top {a i : Nat} (hi : i < 4) (hz : a / 18446744073709551616 ^ (i + 1) = 0) (hn : wd a i ≠ 0) : IntKind.wrap .i64 (IntKind.wrap .i64 (64 * (i : Int)) + lenI (wd a i)) = lenI (a : Nat) := by
  have e : wd a i = ((a / 18446744073709551616 ^ i : Nat) : Int) := by
    unfold wd
    rw [Nat.pow_succ, ← Nat.div_div_eq_div_mul] at hz
    congr 1
    exact Nat.mod_eq_of_lt ((Nat.div_eq_zero_iff_lt (by decide)).1 hz)
  have hr := wd_range a i
  have hl := lenI_range hr.1 hr.2
  have ep : (18446744073709551616 : Nat) ^ i = 2 ^ (64 * i) := by rw [Nat.pow_mul]
  have hle : 2 ^ (64 * i) ≤ a := by
    rw [← ep]
    rcases Nat.lt_or_ge a (18446744073709551616 ^ i) with h | h
    · rw [e, Nat.div_eq_of_lt h] at hn
      exact absurd rfl hn
    · exact h
  have ec : ((2 : Int) ^ (64 * i)) = ((2 ^ (64 * i) : Nat) : Int) := by simp
  rw [lenI_shift (64 * i) (x := (a : Nat)) (by rw [ec]; omega)]
  have e2 : ((a : Nat) : Int).fdiv (2 ^ (64 * i)) = wd a i := by
    rw [e, ep, Int.fdiv_eq_ediv_of_nonneg _ (by exact_mod_cast Nat.zero_le _)]
    simp
  rw [e2, i64w (n := 64 * (i : Int)) (by omega) (by omega), i64w] <;> omega
theorem s100n {a : Nat} (ha : a < P256) : Sx.Spec Try.prog 100 [.agg (numC a)] [] (r100 [a]) := by
  refine Spec.imps (bs := [.ints .u64 (wrow a)]) (.cons (fun _ _ => rw_row) .nil) ?_
  refine spec_body (tab := tab libd0) Try.func100 (by kernel_rfl) (by kernel_rfl) (by kernel_rfl) fun ρ w => ?_
  have hl : (wrow a).length = 4 := rfl
  obtain ⟨a3, a2, a1, a0⟩ := row_get a
  have res : ∀ {x y : Int} {c : Cfg}, x = y → G (mkX Try.prog (tab libd0) Try.f100 [] ρ w ⟨V.int .i64 x, [], []⟩) c → G (mkX Try.prog (tab libd0) Try.f100 [] ρ w ⟨V.int .i64 y, [], []⟩) c := fun e h => e ▸ h
  unfold P256 at ha
  refine s100_1 _ ?_
  by_cases h3 : wd a 3 = 0
  · refine s100_3 _ 3 (by decide) (by decide) (by decide) (by rw [hl]; decide) (by rw [a3]; exact h3) ?_
    rw [show IntKind.wrap .i64 (3 - 1) = 2 from by decide]
    rw [wd3] at h3
    by_cases h2 : wd a 2 = 0
    · refine s100_3 _ 2 (by decide) (by decide) (by decide) (by rw [hl]; decide) (by rw [a2]; exact h2) ?_
      rw [show IntKind.wrap .i64 (2 - 1) = 1 from by decide]
      rw [wd2] at h2
      by_cases h1 : wd a 1 = 0
      · refine s100_3 _ 1 (by decide) (by decide) (by decide) (by rw [hl]; decide) (by rw [a1]; exact h1) ?_
        rw [show IntKind.wrap .i64 (1 - 1) = 0 from by decide]
        rw [wd1] at h1
        by_cases h0 : wd a 0 = 0
        · refine s100_3 _ 0 (by decide) (by decide) (by decide) (by rw [hl]; decide) (by rw [a0]; exact h0) ?_
          rw [show IntKind.wrap .i64 (0 - 1) = -1 from by decide]
          rw [wd0] at h0
          have : a = 0 := by omega
          subst this
          exact res rfl (s100_4 _ (-1) (by decide))
        · refine res ?_ (s100_2 _ 0 (by decide) (by decide) (by decide) (by rw [hl]; decide) (by rw [a0]; exact h0) (by rw [a0]; exact w64_wd _ _))
          rw [a0]
          exact len_top (i := 0) (by omega) (by show a / 18446744073709551616 ^ 1 = 0; omega) h0
      · refine res ?_ (s100_2 _ 1 (by decide) (by decide) (by decide) (by rw [hl]; decide) (by rw [a1]; exact h1) (by rw [a1]; exact w64_wd _ _))
        rw [a1]
        exact len_top (i := 1) (by omega) (by show a / 18446744073709551616 ^ 2 = 0; omega) h1
    · refine res ?_ (s100_2 _ 2 (by decide) (by decide) (by decide) (by rw [hl]; decide) (by rw [a2]; exact h2) (by rw [a2]; exact w64_wd _ _))
      rw [a2]
      exact len_top (i := 2) (by omega) (by show a / 18446744073709551616 ^ 3 = 0; omega) h2
  · refine res ?_ (s100_2 _ 3 (by decide) (by decide) (by decide) (by rw [hl]; decide) (by rw [a3]; exact h3) (by rw [a3]; exact w64_wd _ _))
    rw [a3]
    exact len_top (i := 3) (by omega) (by show a / 18446744073709551616 ^ 4 = 0; omega) h3
theorem e100n_ok : EntryOk Try.prog 100 (numsE [1] r100) := numsE_ok fun ns h hl => by
  obtain ⟨a, rfl⟩ := ns1 h
  exact s100n (hl a (by simp))
theorem bit_word (a q r : Nat) (hr : r < 64) : a / 18446744073709551616 ^ q % 18446744073709551616 / 2 ^ r % 2 = a / 2 ^ (64 * q + r) % 2 := by
  have e : (18446744073709551616 : Nat) = 2 ^ r * (2 * 2 ^ (63 - r)) := by
    rw [← Nat.mul_assoc, ← Nat.pow_succ, ← Nat.pow_add, show r.succ + (63 - r) = 64 by omega]
  have ep : (18446744073709551616 : Nat) ^ q = 2 ^ (64 * q) := by rw [Nat.pow_mul]
  rw [ep]
  generalize hb : a / 2 ^ (64 * q) = b
  rw [e, Nat.mod_mul_right_div_self, Nat.mod_mul_right_mod, Nat.pow_add, ← Nat.div_div_eq_div_mul, hb]
theorem s101n {a : Nat} (i : Int) : Sx.Spec Try.prog 101 [.agg (numC a), W.int .i64 i] [] ⟨.w (.c (.u (bitI a i))), [], []⟩ := by
  refine Spec.imps (bs := [.ints .u64 (wrow a), W.int .i64 i]) (.cons (fun _ _ => rw_row) (Imps.refl _)) ?_
  have zero : bitI a i = 0 → ∀ ρ y, RV ρ (V.int .u64 0) y → RV ρ (.w (.c (.u (bitI a i)))) y := by
    intro e ρ y h
    rw [e]
    exact h
  by_cases h1 : i < 0
  · exact Spec.resv (zero (by unfold bitI; rw [decide_eq_false (by omega)]; rfl)) (s101_1 _ i h1)
  · by_cases h2 : i > 255
    · refine Spec.resv (zero ?_) (s101_2 _ i h1 h2)
      unfold bitI
      rw [decide_eq_false (p := i < 256) (by omega), Bool.and_false]
      rfl
    · obtain ⟨n, rfl⟩ := nat_of (n := i) (by omega)
      have e1 : IntKind.wrap .i64 (Int.tdiv (n : Int) 64) = ((n / 64 : Nat) : Int) := by
        rw [Int.tdiv_eq_ediv_of_nonneg (by omega), i64w] <;> omega
      have e2 : Int.tmod (n : Int) 64 = ((n % 64 : Nat) : Int) := by
        rw [Int.tmod_eq_emod_of_nonneg (by omega)]; omega
      have hg : List.getD (wrow a) (n / 64) 0 = wd a (n / 64) := by
        have : n / 64 < 4 := by omega
        match n / 64, this with
        | 0, _ => rfl
        | 1, _ => rfl
        | 2, _ => rfl
        | 3, _ => rfl
      refine Spec.resv ?_ (s101_3 _ (n : Int) h1 h2 (by rw [e1]; omega) (by rw [e1]; omega) (by rw [e1]; show n / 64 < 4; omega) (by rw [e2]; omega))
      intro ρ y h
      show RC ρ (.u (bitI a (n : Int))) y
      refine (rc_word (ρ := ρ) (y := y) ?_).1 h
      rw [e1, e2, Int.toNat_natCast, Int.toNat_natCast, hg]
      have hm : min (n % 64) 64 = n % 64 := by omega
      rw [hm]
      have hw := Nat.mod_lt (a / 18446744073709551616 ^ (n / 64)) (show 0 < 18446744073709551616 by decide)
      have ef : (wd a (n / 64)).fdiv (2 ^ (n % 64)) = ((a / 18446744073709551616 ^ (n / 64) % 18446744073709551616 / 2 ^ (n % 64) : Nat) : Int) := by
        unfold wd
        rw [Int.fdiv_eq_ediv_of_nonneg _ (by exact_mod_cast Nat.zero_le _)]
        simp
      rw [ef]
      have hlt : a / 18446744073709551616 ^ (n / 64) % 18446744073709551616 / 2 ^ (n % 64) < 2 ^ 64 := Nat.lt_of_le_of_lt (Nat.div_le_self _ _) hw
      have := andI_nat un64 (a := a / 18446744073709551616 ^ (n / 64) % 18446744073709551616 / 2 ^ (n % 64)) (b := 1) hlt (by decide)
      rw [show (1 : Int) = ((1 : Nat) : Int) from rfl, this, Nat.and_one_is_mod, bit_word _ _ _ (by omega), show 64 * (n / 64) + n % 64 = n by omega]
      have : bitI a (n : Int) = a / 2 ^ n % 2 := by
        unfold bitI
        rw [decide_eq_true (p := (0 : Int) ≤ n) (by omega), decide_eq_true (p := (n : Int) < 256) (by omega)]
        rfl
      rw [this, Nat.mod_eq_of_lt (a := a / 2 ^ n % 2) (b := 18446744073709551616) (by have := Nat.mod_lt (a / 2 ^ n) (show 0 < 2 by decide); omega)]
theorem e101n_ok : EntryOk Try.prog 101 e101n := by
  intro args ms r obs h ho
  unfold e101n at h
  split at h
  · rename_i l i
    split at h
    · rename_i n r' o hn
      cases h
      obtain ⟨h1, h2, h3⟩ := nums_ok hn (otail ho)
      have hl : l.length = 4 := by simpa using ohead ho
      have : r' = [] := by
        cases r' with
        | nil => rfl
        | cons _ _ => simp only [List.length_cons] at h2; omega
      subst this
      refine Spec.imps (bs := [.agg (numC n), W.int .i64 i]) (.cons (fun ρ v hv => ?_) (Imps.refl _)) (s101n i)
      obtain ⟨cs, rfl, hcs⟩ := hv
      exact ⟨cs, rfl, h3 ρ cs hcs ρ⟩
    · cases h
  · cases h
end Go.Proofs.Ytmjejlbmcefaoaa
