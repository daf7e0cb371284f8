/- Law CurveMakes. -/
import Derived.Test.YtmjejlbmcefaoaaPkJ
namespace Go.Proofs.Ytmjejlbmcefaoaa
open Go Sx
theorem s22_10 (a : Nat) (b : Nat) (k : Int) (h1 : (!!((bif makeBS (nn (sealN (nn a % 57896044618658097711785492504343953926634992332820282019728792003956564819949))) (nn (sealN (nn b % 57896044618658097711785492504343953926634992332820282019728792003956564819949))) then (0 : Int) else 22) == 0) == isCS (nn (sealN (nn a % 57896044618658097711785492504343953926634992332820282019728792003956564819949))) (nn (sealN (nn b % 57896044618658097711785492504343953926634992332820282019728792003956564819949)))) = true) (h2 : ¬(bif makeBS (nn (sealN (nn a % 57896044618658097711785492504343953926634992332820282019728792003956564819949))) (nn (sealN (nn b % 57896044618658097711785492504343953926634992332820282019728792003956564819949))) then (0 : Int) else 22) = 0) (h3 : (bif makeBS (nn (sealN (nn a % 57896044618658097711785492504343953926634992332820282019728792003956564819949))) (nn (sealN (nn b % 57896044618658097711785492504343953926634992332820282019728792003956564819949))) then (0 : Int) else 22) = 22) (h4 : (!!sameS (Q4.mk (nn (Q4.x (makeQ (nn (sealN (nn a % 57896044618658097711785492504343953926634992332820282019728792003956564819949))) (nn (sealN (nn b % 57896044618658097711785492504343953926634992332820282019728792003956564819949)))))) (nn (Q4.y (makeQ (nn (sealN (nn a % 57896044618658097711785492504343953926634992332820282019728792003956564819949))) (nn (sealN (nn b % 57896044618658097711785492504343953926634992332820282019728792003956564819949)))))) (nn (Q4.z (makeQ (nn (sealN (nn a % 57896044618658097711785492504343953926634992332820282019728792003956564819949))) (nn (sealN (nn b % 57896044618658097711785492504343953926634992332820282019728792003956564819949)))))) (nn (Q4.t (makeQ (nn (sealN (nn a % 57896044618658097711785492504343953926634992332820282019728792003956564819949))) (nn (sealN (nn b % 57896044618658097711785492504343953926634992332820282019728792003956564819949))))))) (Q4.mk 0 1 1 0)) = true) (h5 : 0 ≤ k) (h6 : k < 4294967296) (h7 : isPQ (Q4.mk (nn (Q4.x (both4S (Int.toNat k)))) (nn (Q4.y (both4S (Int.toNat k)))) (nn (Q4.z (both4S (Int.toNat k)))) (nn (Q4.t (both4S (Int.toNat k))))) (Q3.mk (nn (Q3.x (both3S (Int.toNat k)))) (nn (Q3.y (both3S (Int.toNat k)))) (nn (Q3.z (both3S (Int.toNat k))))) = true) (h8 : isPQ (Q4.mk 15112221349535400772501151409588531511454012693041857206046113283949847762202 46316835694926478169428394003475163141307993866256225615783033603165251855960 1 46827403850823179245072216630277197565144205554125654976674165829533817101731) (Q3.mk 15112221349535400772501151409588531511454012693041857206046113283949847762202 46316835694926478169428394003475163141307993866256225615783033603165251855960 1) = true) (h9 : isPQ (Q4.mk 0 1 1 0) (Q3.mk 0 1 1) = true) (h10 : isPQ (Q4.mk 0 0 0 0) (Q3.mk 0 1 1) = true) : Sx.Spec Try.prog 22 [W.agg (numC a), W.agg (numC b), W.int IntKind.u32 k] [] ⟨V.bool true, [], []⟩ :=
  spec_of_whole (tab_ok lcv3_ok) mixed Try.func22 [(31, false), (34, true), (37, false), (45, false), (48, false), (65, true), (70, true), (75, true), (80, true)] 1000000 [] (by kernel_rfl) (by kernel_rfl) (by kernel_rfl) (by kernel_rfl) (by kernel_rfl) (by kernel_rfl)
    (ocons rfl (ocons rfl (ocons rfl (ocons h1 (ocons (bneI h2) (ocons (nbneI h3) (ocons h4 (ocons (neI h2) (ocons (decide_eq_true h5) (ocons (decide_eq_true h6) (ocons rfl (ocons rfl (ocons h7 (ocons h8 (ocons h9 (ocons h10 onil))))))))))))))))
theorem s22_16 (a : Nat) (b : Nat) (k : Int) (h1 : (!!((bif makeBS (nn (sealN (nn a % 57896044618658097711785492504343953926634992332820282019728792003956564819949))) (nn (sealN (nn b % 57896044618658097711785492504343953926634992332820282019728792003956564819949))) then (0 : Int) else 22) == 0) == isCS (nn (sealN (nn a % 57896044618658097711785492504343953926634992332820282019728792003956564819949))) (nn (sealN (nn b % 57896044618658097711785492504343953926634992332820282019728792003956564819949)))) = true) (h2 : (bif makeBS (nn (sealN (nn a % 57896044618658097711785492504343953926634992332820282019728792003956564819949))) (nn (sealN (nn b % 57896044618658097711785492504343953926634992332820282019728792003956564819949))) then (0 : Int) else 22) = 0) (h3 : (!!isPQ (Q4.mk (nn (Q4.x (makeQ (nn (sealN (nn a % 57896044618658097711785492504343953926634992332820282019728792003956564819949))) (nn (sealN (nn b % 57896044618658097711785492504343953926634992332820282019728792003956564819949)))))) (nn (Q4.y (makeQ (nn (sealN (nn a % 57896044618658097711785492504343953926634992332820282019728792003956564819949))) (nn (sealN (nn b % 57896044618658097711785492504343953926634992332820282019728792003956564819949)))))) (nn (Q4.z (makeQ (nn (sealN (nn a % 57896044618658097711785492504343953926634992332820282019728792003956564819949))) (nn (sealN (nn b % 57896044618658097711785492504343953926634992332820282019728792003956564819949)))))) (nn (Q4.t (makeQ (nn (sealN (nn a % 57896044618658097711785492504343953926634992332820282019728792003956564819949))) (nn (sealN (nn b % 57896044618658097711785492504343953926634992332820282019728792003956564819949))))))) (Q3.mk (nn (nn (sealN (nn a % 57896044618658097711785492504343953926634992332820282019728792003956564819949)))) (nn (nn (sealN (nn b % 57896044618658097711785492504343953926634992332820282019728792003956564819949)))) (nn 1))) = true) (h4 : 0 ≤ k) (h5 : k < 4294967296) (h6 : isPQ (Q4.mk (nn (Q4.x (both4S (Int.toNat k)))) (nn (Q4.y (both4S (Int.toNat k)))) (nn (Q4.z (both4S (Int.toNat k)))) (nn (Q4.t (both4S (Int.toNat k))))) (Q3.mk (nn (Q3.x (both3S (Int.toNat k)))) (nn (Q3.y (both3S (Int.toNat k)))) (nn (Q3.z (both3S (Int.toNat k))))) = true) (h7 : isPQ (Q4.mk 15112221349535400772501151409588531511454012693041857206046113283949847762202 46316835694926478169428394003475163141307993866256225615783033603165251855960 1 46827403850823179245072216630277197565144205554125654976674165829533817101731) (Q3.mk 15112221349535400772501151409588531511454012693041857206046113283949847762202 46316835694926478169428394003475163141307993866256225615783033603165251855960 1) = true) (h8 : isPQ (Q4.mk 0 1 1 0) (Q3.mk 0 1 1) = true) (h9 : isPQ (Q4.mk 0 0 0 0) (Q3.mk 0 1 1) = true) : Sx.Spec Try.prog 22 [W.agg (numC a), W.agg (numC b), W.int IntKind.u32 k] [] ⟨V.bool true, [], []⟩ :=
  spec_of_whole (tab_ok lcv3_ok) mixed Try.func22 [(31, false), (34, false), (48, true), (56, false), (65, true), (70, true), (75, true), (80, true)] 1000000 [] (by kernel_rfl) (by kernel_rfl) (by kernel_rfl) (by kernel_rfl) (by kernel_rfl) (by kernel_rfl)
    (ocons rfl (ocons rfl (ocons rfl (ocons h1 (ocons (nbneI h2) (ocons (eqI h2) (ocons h3 (ocons (decide_eq_true h4) (ocons (decide_eq_true h5) (ocons rfl (ocons rfl (ocons h6 (ocons h7 (ocons h8 (ocons h9 onil)))))))))))))))

theorem zeros_PQ : isPQ ⟨0, 0, 0, 0⟩ zero3 = true := by
  have a := xy_rep zero4_rep
  have b := xy_rep3 zero3_rep
  unfold isPQ xyX xyY xrX xrY
  rw [sealN_eq, sealN_eq, sealN_eq, sealN_eq, show whole4 ⟨0, 0, 0, 0⟩ = zero4 from rfl, a.1, a.2, b.1, b.2, Nat.beq_refl, Nat.beq_refl]
  rfl
theorem nn_one : nn 1 = 1 := by decide +kernel
theorem s22 {a b : Nat} (ha : a < P256) (hb : b < P256) {k : Int} (hk0 : 0 ≤ k) (hk : k < 4294967296) : Sx.Spec Try.prog 22 [.agg (numC a), .agg (numC b), .c (.v (.int .u32 k))] [] ⟨V.bool true, [], []⟩ := by
  have nk : k.toNat < P256 := by unfold P256; omega
  have hB := isPQ_t (rn (both4_rep nk)) (rn3 (both3_rep nk)) rfl
  have hb4 : isPQ base4 base3 = true := isPQ_t base4_rep base3_rep rfl
  have hz : isPQ zero4 zero3 = true := isPQ_t zero4_rep zero3_rep rfl
  have k10 := s22_10 a b k
  have k16 := s22_16 a b k
  simp only [sealN_eq, nn_id ha, nn_id hb, nnR, nn_one, makeBS_eq, isCS_eq] at k10 k16
  have ex : El (a % 57896044618658097711785492504343953926634992332820282019728792003956564819949) (toF (a % 57896044618658097711785492504343953926634992332820282019728792003956564819949)) := El.of (Nat.mod_lt _ (by decide))
  have ey : El (b % 57896044618658097711785492504343953926634992332820282019728792003956564819949) (toF (b % 57896044618658097711785492504343953926634992332820282019728792003956564819949)) := El.of (Nat.mod_lt _ (by decide))
  have i1 := makeB_iff ex ey
  have i2 := isC_iff ex ey
  generalize a % 57896044618658097711785492504343953926634992332820282019728792003956564819949 = x at *
  generalize b % 57896044618658097711785492504343953926634992332820282019728792003956564819949 = y at *
  have e : makeB x y = isC x y := by rw [Bool.eq_iff_iff, i1, i2]
  rw [← e] at k10 k16
  cases hm : makeB x y with
  | true =>
    have on := i1.1 hm
    have r := makeQ_rep (P := ⟨toF x, toF y, on⟩) ex ey
    rw [hm] at k16
    exact k16 rfl rfl (by rw [Bool.not_not]; exact isPQ_t (rn r) (at3_rep (P := ⟨toF x, toF y, on⟩) ex ey) rfl) hk0 hk hB hb4 hz zeros_PQ
  | false =>
    have r : Rep (makeQ x y) Pt.zero := by
      unfold makeQ
      rw [sQ_eq, hm, cond_false]
      exact zero4_rep
    rw [hm] at k10
    exact k10 rfl (by decide) rfl (by rw [Bool.not_not]; exact same_t (rn r) zero4_rep rfl) hk0 hk hB hb4 hz zeros_PQ

def ks22 : List Kind := [.arr 4 .u64, .arr 4 .u64, .int .u32]
theorem open22 : ∀ l, AllIs ks22 l → Sx.Spec Try.prog 22 (allW l 0) (allB l) ⟨V.bool true, [], []⟩ := by
  intro l h
  match l, h with
  | [.arr _ a, .arr _ b, .int _ c], h =>
    obtain ⟨⟨rfl, ha, hwa⟩, ⟨rfl, hb, hwb⟩, ⟨rfl, wc⟩, _⟩ := h
    obtain ⟨x, hx, ix⟩ := arr_num ha hwa
    obtain ⟨y, hy, iy⟩ := arr_num hb hwb
    have rc := rng32 wc
    exact Spec.imps (.cons ix (.cons iy (Imps.refl _))) (s22 hx hy rc.1 rc.2)
set_option maxRecDepth 100000 in
theorem lifted22 (os : Os) (started : os.Started) (H : Type) (enc : TypeId × Value → H) :
    ReturnsInHanded {} Try.checked os 22 .any (Rows.curveMakesSpec.pre6 enc Try.prog Try.f22 Rows.curveMakesRow.domain false) (Rows.curveMakesSpec.post enc Try.prog Try.f22 false true false false) := by
  refine returnsInHanded_of_change (C := Try.checked) (by kernel_rfl) started (by kernel_rfl) Try.func22
    (ChangeSpec.witness6 (enc := enc) (C := Try.checked) false ⟨#[], #[.agg #[.int .u64 0, .int .u64 0, .int .u64 0, .int .u64 0], .agg #[.int .u64 0, .int .u64 0, .int .u64 0, .int .u64 0], .int .u32 0], []⟩ 8 (by kernel_rfl) (by kernel_rfl) (by kernel_rfl) (by kernel_rfl)) ?_
  intro W base args ds gs before hval0 hW hcnd _
  exact law_step (ks := ks22) (tb := 4) laid (by kernel_rfl) (by kernel_rfl) rfl (by kernel_rfl) Try.underlying4 (fun ds hds => by
    match ds, hds with
    | [_, _, _], _ => rfl) open22 hval0 hW
theorem closed22 : joinedFacts Try.prog 22 Try.f22 Rows.curveMakesSpec Rows.curveMakesRow = true :=
  joined rfl rfl rfl rfl (by kernel_rfl) (by kernel_rfl) (by kernel_rfl) (by kernel_rfl) (by kernel_rfl) (by kernel_rfl) (by kernel_rfl) (by kernel_rfl) (by kernel_rfl) (by kernel_rfl) rfl (by kernel_rfl) (by kernel_rfl)
theorem named22 : Try.prog.funcNamed Rows.curveMakesRow.func = some 22 := by kernel_rfl
theorem over22 : Rows.curveMakesRow.holds Try.pinned (OpenSpec.ofChange Rows.curveMakesSpec) :=
  OpenClaim.holds_of_wide 22 Try.f22 rfl rfl rfl rfl rfl rfl rfl ⟨rfl, rfl, rfl, rfl, rfl⟩ rfl rfl rfl rfl rfl named22 Try.func22 closed22
    (of_decide_eq_true (by kernel_rfl)) (by unfold Func.isWrapper; first | (rw [if_pos (by decide +kernel)]; kernel_rfl) | (rw [if_neg (by decide +kernel)]; exact ⟨rfl, rfl⟩))
    (fun os started H enc _ => lifted22 os started H enc)
theorem curveMakes_proved : Rows.CurveMakesSaid :=
  over22
#print axioms curveMakes_proved
end Go.Proofs.Ytmjejlbmcefaoaa
