/- The law WideReckons: sums, differences, products, how they stand. -/
import Derived.Test.YtmjejlbmcefaoaaWnI
import Derived.Test.YtmjejlbmcefaoaaHead
namespace Go.Proofs.Ytmjejlbmcefaoaa
open Go Sx Go.ChangeShapes Go.WideShapes Go.ChangeAt Go.RowKit

theorem eq1 {a b : Nat} (h : a = b) : eqNs [a] [b] = true := by
  subst h
  exact Nat.beq_refl a
theorem eq1t {a b : Nat} (h : a = b) : (!!eqNs [a] [b]) = true := by rw [eq1 h]; rfl
theorem val16 {a : Nat} (h : a < P256) : valL (lim 16 a) = a := by
  rw [valL_lim]
  exact Nat.mod_eq_of_lt h
theorem s16_1 (a : Nat) (b : Nat) (h1 : List.length (lim 16 (nn a)) = 16) (h2 : List.length (lim 16 (nn b)) = 16) (h3 : limOk (lim 16 (nn a)) = true) (h4 : limOk (lim 16 (nn b)) = true) (h5 : List.length (lim 16 (nn a)) ≤ 1000000000) (h6 : List.length (lim 16 (nn b)) ≤ 1000000000) (h7 : List.length (lim 17 (valL (lim 16 (nn a)) + valL (lim 16 (nn b)))) = 17) (h8 : limOk (lim 17 (valL (lim 16 (nn a)) + valL (lim 16 (nn b)))) = true) (h9 : (!!eqNs [nn (nn a + nn b)] [nn (toN (lim 17 (valL (lim 16 (nn a)) + valL (lim 16 (nn b)))) 0)]) = true) (h10 : 16 < List.length (lim 17 (valL (lim 16 (nn a)) + valL (lim 16 (nn b))))) (h11 : (!bif decide (0 ≤ List.getD (lim 17 (valL (lim 16 (nn a)) + valL (lim 16 (nn b)))) 16 0) then !Nat.beq ((nn a + nn b) / 115792089237316195423570985008687907853269984665640564039457584007913129639936 % 18446744073709551616) (Int.toNat (List.getD (lim 17 (valL (lim 16 (nn a)) + valL (lim 16 (nn b)))) 16 0)) else true) = true) (h12 : (!!eqNs [nn (nn (nn a + (115792089237316195423570985008687907853269984665640564039457584007913129639936 - nn b)) + nn b)] [nn a]) = true) (h13 : (!!(bif true then Nat.beq (b2n (Nat.blt (nn a) (nn b)) % 18446744073709551616) 1 else false) == Nat.blt (valL (lim 16 (nn a))) (valL (lim 16 (nn b)))) = true) (h14 : (!bif true then Nat.blt 1 (b2n (Nat.blt (nn a) (nn b)) % 18446744073709551616) else true) = true) (h15 : valL (lim 16 (nn a)) < valL (lim 16 (nn b))) (h16 : List.length (lim 32 (valL (lim 16 (nn a)) * valL (lim 16 (nn b)))) = 32) (h17 : limOk (lim 32 (valL (lim 16 (nn a)) * valL (lim 16 (nn b)))) = true) (h18 : eqNs [nn (nn a * nn b)] [nn (toN (lim 32 (valL (lim 16 (nn a)) * valL (lim 16 (nn b)))) 0)] = true) (h19 : eqNs [nn (nn a * nn b / 115792089237316195423570985008687907853269984665640564039457584007913129639936)] [nn (toN (lim 32 (valL (lim 16 (nn a)) * valL (lim 16 (nn b)))) 16)] = true) (h20 : cmpN (nn a) (nn b) = -1) : Sx.Spec Try.prog 16 [W.agg [C.u a, C.u (a / 18446744073709551616), C.u (a / 340282366920938463463374607431768211456), C.u (a / 6277101735386680763835789423207666416102355444464034512896)], W.agg [C.u b, C.u (b / 18446744073709551616), C.u (b / 340282366920938463463374607431768211456), C.u (b / 6277101735386680763835789423207666416102355444464034512896)]] [] ⟨V.bool true, [], []⟩ :=
  spec_of_whole (tab_ok libW_ok) mixed Try.func16 [(39, false), (45, false), (61, false), (69, false), (72, false), (92, true), (98, true), (105, true), (84, true)] 1000000 [] (by kernel_rfl) (by kernel_rfl) (by kernel_rfl) (by kernel_rfl) (by kernel_rfl) (by kernel_rfl)
    (ocons rfl (ocons rfl (ocons rfl (ocons (beqT h1) (ocons (beqT h2) (ocons h3 (ocons h4 (ocons (bleT h5) (ocons (bleT h6) (ocons (beqT h7) (ocons h8 (ocons rfl (ocons rfl (ocons h9 (ocons rfl (ocons rfl (ocons (bltT h10) (ocons h11 (ocons rfl (ocons rfl (ocons h12 (ocons (beqT h1) (ocons (beqT h2) (ocons h3 (ocons h4 (ocons (bleT h5) (ocons (bleT h6) (ocons h13 (ocons h14 (ocons rfl (ocons rfl (ocons (beqT h1) (ocons (beqT h2) (ocons h3 (ocons h4 (ocons (bleT h5) (ocons (bleT h6) (ocons (beqT h1) (ocons (beqT h2) (ocons h3 (ocons h4 (ocons (bleT h5) (ocons (bleT h6) (ocons (bltT h15) (ocons (beqT h16) (ocons h17 (ocons rfl (ocons rfl (ocons h18 (ocons (beqT h16) (ocons h17 (ocons rfl (ocons rfl (ocons h19 (ocons (eqI h20) onil)))))))))))))))))))))))))))))))))))))))))))))))))))))))
theorem s16_2 (a : Nat) (b : Nat) (h1 : List.length (lim 16 (nn a)) = 16) (h2 : List.length (lim 16 (nn b)) = 16) (h3 : limOk (lim 16 (nn a)) = true) (h4 : limOk (lim 16 (nn b)) = true) (h5 : List.length (lim 16 (nn a)) ≤ 1000000000) (h6 : List.length (lim 16 (nn b)) ≤ 1000000000) (h7 : List.length (lim 17 (valL (lim 16 (nn a)) + valL (lim 16 (nn b)))) = 17) (h8 : limOk (lim 17 (valL (lim 16 (nn a)) + valL (lim 16 (nn b)))) = true) (h9 : (!!eqNs [nn (nn a + nn b)] [nn (toN (lim 17 (valL (lim 16 (nn a)) + valL (lim 16 (nn b)))) 0)]) = true) (h10 : 16 < List.length (lim 17 (valL (lim 16 (nn a)) + valL (lim 16 (nn b))))) (h11 : (!bif decide (0 ≤ List.getD (lim 17 (valL (lim 16 (nn a)) + valL (lim 16 (nn b)))) 16 0) then !Nat.beq ((nn a + nn b) / 115792089237316195423570985008687907853269984665640564039457584007913129639936 % 18446744073709551616) (Int.toNat (List.getD (lim 17 (valL (lim 16 (nn a)) + valL (lim 16 (nn b)))) 16 0)) else true) = true) (h12 : (!!eqNs [nn (nn (nn a + (115792089237316195423570985008687907853269984665640564039457584007913129639936 - nn b)) + nn b)] [nn a]) = true) (h13 : (!!(bif true then Nat.beq (b2n (Nat.blt (nn a) (nn b)) % 18446744073709551616) 1 else false) == Nat.blt (valL (lim 16 (nn a))) (valL (lim 16 (nn b)))) = true) (h14 : (!bif true then Nat.blt 1 (b2n (Nat.blt (nn a) (nn b)) % 18446744073709551616) else true) = true) (h15 : (!Nat.blt (valL (lim 16 (nn a))) (valL (lim 16 (nn b)))) = true) (h16 : valL (lim 16 (nn b)) < valL (lim 16 (nn a))) (h17 : List.length (lim 32 (valL (lim 16 (nn a)) * valL (lim 16 (nn b)))) = 32) (h18 : limOk (lim 32 (valL (lim 16 (nn a)) * valL (lim 16 (nn b)))) = true) (h19 : eqNs [nn (nn a * nn b)] [nn (toN (lim 32 (valL (lim 16 (nn a)) * valL (lim 16 (nn b)))) 0)] = true) (h20 : eqNs [nn (nn a * nn b / 115792089237316195423570985008687907853269984665640564039457584007913129639936)] [nn (toN (lim 32 (valL (lim 16 (nn a)) * valL (lim 16 (nn b)))) 16)] = true) (h21 : cmpN (nn a) (nn b) = 1) : Sx.Spec Try.prog 16 [W.agg [C.u a, C.u (a / 18446744073709551616), C.u (a / 340282366920938463463374607431768211456), C.u (a / 6277101735386680763835789423207666416102355444464034512896)], W.agg [C.u b, C.u (b / 18446744073709551616), C.u (b / 340282366920938463463374607431768211456), C.u (b / 6277101735386680763835789423207666416102355444464034512896)]] [] ⟨V.bool true, [], []⟩ :=
  spec_of_whole (tab_ok libW_ok) mixed Try.func16 [(39, false), (45, false), (61, false), (69, false), (72, false), (92, true), (98, true), (105, true), (84, false), (87, true)] 1000000 [] (by kernel_rfl) (by kernel_rfl) (by kernel_rfl) (by kernel_rfl) (by kernel_rfl) (by kernel_rfl)
    (ocons rfl (ocons rfl (ocons rfl (ocons (beqT h1) (ocons (beqT h2) (ocons h3 (ocons h4 (ocons (bleT h5) (ocons (bleT h6) (ocons (beqT h7) (ocons h8 (ocons rfl (ocons rfl (ocons h9 (ocons rfl (ocons rfl (ocons (bltT h10) (ocons h11 (ocons rfl (ocons rfl (ocons h12 (ocons (beqT h1) (ocons (beqT h2) (ocons h3 (ocons h4 (ocons (bleT h5) (ocons (bleT h6) (ocons h13 (ocons h14 (ocons rfl (ocons rfl (ocons (beqT h1) (ocons (beqT h2) (ocons h3 (ocons h4 (ocons (bleT h5) (ocons (bleT h6) (ocons (beqT h1) (ocons (beqT h2) (ocons h3 (ocons h4 (ocons (bleT h5) (ocons (bleT h6) (ocons h15 (ocons (beqT h2) (ocons (beqT h1) (ocons h4 (ocons h3 (ocons (bleT h6) (ocons (bleT h5) (ocons (bltT h16) (ocons (beqT h17) (ocons h18 (ocons rfl (ocons rfl (ocons h19 (ocons (beqT h17) (ocons h18 (ocons rfl (ocons rfl (ocons h20 (ocons (eqI h21) onil))))))))))))))))))))))))))))))))))))))))))))))))))))))))))))))
theorem s16_3 (a : Nat) (b : Nat) (h1 : List.length (lim 16 (nn a)) = 16) (h2 : List.length (lim 16 (nn b)) = 16) (h3 : limOk (lim 16 (nn a)) = true) (h4 : limOk (lim 16 (nn b)) = true) (h5 : List.length (lim 16 (nn a)) ≤ 1000000000) (h6 : List.length (lim 16 (nn b)) ≤ 1000000000) (h7 : List.length (lim 17 (valL (lim 16 (nn a)) + valL (lim 16 (nn b)))) = 17) (h8 : limOk (lim 17 (valL (lim 16 (nn a)) + valL (lim 16 (nn b)))) = true) (h9 : (!!eqNs [nn (nn a + nn b)] [nn (toN (lim 17 (valL (lim 16 (nn a)) + valL (lim 16 (nn b)))) 0)]) = true) (h10 : 16 < List.length (lim 17 (valL (lim 16 (nn a)) + valL (lim 16 (nn b))))) (h11 : (!bif decide (0 ≤ List.getD (lim 17 (valL (lim 16 (nn a)) + valL (lim 16 (nn b)))) 16 0) then !Nat.beq ((nn a + nn b) / 115792089237316195423570985008687907853269984665640564039457584007913129639936 % 18446744073709551616) (Int.toNat (List.getD (lim 17 (valL (lim 16 (nn a)) + valL (lim 16 (nn b)))) 16 0)) else true) = true) (h12 : (!!eqNs [nn (nn (nn a + (115792089237316195423570985008687907853269984665640564039457584007913129639936 - nn b)) + nn b)] [nn a]) = true) (h13 : (!!(bif true then Nat.beq (b2n (Nat.blt (nn a) (nn b)) % 18446744073709551616) 1 else false) == Nat.blt (valL (lim 16 (nn a))) (valL (lim 16 (nn b)))) = true) (h14 : (!bif true then Nat.blt 1 (b2n (Nat.blt (nn a) (nn b)) % 18446744073709551616) else true) = true) (h15 : (!Nat.blt (valL (lim 16 (nn a))) (valL (lim 16 (nn b)))) = true) (h16 : (!Nat.blt (valL (lim 16 (nn b))) (valL (lim 16 (nn a)))) = true) (h17 : List.length (lim 32 (valL (lim 16 (nn a)) * valL (lim 16 (nn b)))) = 32) (h18 : limOk (lim 32 (valL (lim 16 (nn a)) * valL (lim 16 (nn b)))) = true) (h19 : eqNs [nn (nn a * nn b)] [nn (toN (lim 32 (valL (lim 16 (nn a)) * valL (lim 16 (nn b)))) 0)] = true) (h20 : eqNs [nn (nn a * nn b / 115792089237316195423570985008687907853269984665640564039457584007913129639936)] [nn (toN (lim 32 (valL (lim 16 (nn a)) * valL (lim 16 (nn b)))) 16)] = true) (h21 : cmpN (nn a) (nn b) = 0) : Sx.Spec Try.prog 16 [W.agg [C.u a, C.u (a / 18446744073709551616), C.u (a / 340282366920938463463374607431768211456), C.u (a / 6277101735386680763835789423207666416102355444464034512896)], W.agg [C.u b, C.u (b / 18446744073709551616), C.u (b / 340282366920938463463374607431768211456), C.u (b / 6277101735386680763835789423207666416102355444464034512896)]] [] ⟨V.bool true, [], []⟩ :=
  spec_of_whole (tab_ok libW_ok) mixed Try.func16 [(39, false), (45, false), (61, false), (69, false), (72, false), (92, true), (98, true), (105, true), (84, false), (87, false)] 1000000 [] (by kernel_rfl) (by kernel_rfl) (by kernel_rfl) (by kernel_rfl) (by kernel_rfl) (by kernel_rfl)
    (ocons rfl (ocons rfl (ocons rfl (ocons (beqT h1) (ocons (beqT h2) (ocons h3 (ocons h4 (ocons (bleT h5) (ocons (bleT h6) (ocons (beqT h7) (ocons h8 (ocons rfl (ocons rfl (ocons h9 (ocons rfl (ocons rfl (ocons (bltT h10) (ocons h11 (ocons rfl (ocons rfl (ocons h12 (ocons (beqT h1) (ocons (beqT h2) (ocons h3 (ocons h4 (ocons (bleT h5) (ocons (bleT h6) (ocons h13 (ocons h14 (ocons rfl (ocons rfl (ocons (beqT h1) (ocons (beqT h2) (ocons h3 (ocons h4 (ocons (bleT h5) (ocons (bleT h6) (ocons (beqT h1) (ocons (beqT h2) (ocons h3 (ocons h4 (ocons (bleT h5) (ocons (bleT h6) (ocons h15 (ocons (beqT h2) (ocons (beqT h1) (ocons h4 (ocons h3 (ocons (bleT h6) (ocons (bleT h5) (ocons h16 (ocons (beqT h17) (ocons h18 (ocons rfl (ocons rfl (ocons h19 (ocons (beqT h17) (ocons h18 (ocons rfl (ocons rfl (ocons h20 (ocons (eqI h21) onil))))))))))))))))))))))))))))))))))))))))))))))))))))))))))))))

theorem s16 {a b : Nat} (ha : a < P256) (hb : b < P256) : Sx.Spec Try.prog 16 [.agg (numC a), .agg (numC b)] [] ⟨V.bool true, [], []⟩ := by
  have na := nn_id ha
  have nb := nn_id hb
  have va := val16 ha
  have vb := val16 hb
  have l16 : ∀ n, (lim 16 n).length = 16 := fun n => lim_length 16 n
  have e17 : ∀ n, n < 115792089237316195423570985008687907853269984665640564039457584007913129639936 * 2 → valL (lim 17 n) = n := fun n h => by
    rw [valL_lim]
    exact Nat.mod_eq_of_lt (Nat.lt_of_lt_of_le h (by decide))
  have e32 : ∀ n, n < 115792089237316195423570985008687907853269984665640564039457584007913129639936 * 115792089237316195423570985008687907853269984665640564039457584007913129639936 → valL (lim 32 n) = n := fun n h => by
    rw [valL_lim]
    exact Nat.mod_eq_of_lt (Nat.lt_of_lt_of_le h (by decide))
  have hab : a * b < 115792089237316195423570985008687907853269984665640564039457584007913129639936 * 115792089237316195423570985008687907853269984665640564039457584007913129639936 := Nat.mul_lt_mul'' ha hb
  unfold P256 at ha hb
  have h9 : nn (a + b) = nn (toN (lim 17 (a + b)) 0) := by
    unfold toN
    rw [e17 _ (by omega)]
    simp
  have g16 : List.getD (lim 17 (a + b)) 16 0 = (((a + b) / 115792089237316195423570985008687907853269984665640564039457584007913129639936 % 65536 : Nat) : Int) := by
    rw [valL_get (limOk_lim _ _), e17 _ (by omega)]
  have h11 : (!bif decide (0 ≤ List.getD (lim 17 (a + b)) 16 0) then !Nat.beq ((a + b) / 115792089237316195423570985008687907853269984665640564039457584007913129639936 % 18446744073709551616) (Int.toNat (List.getD (lim 17 (a + b)) 16 0)) else true) = true := by
    rw [g16, decide_eq_true (by omega), Int.toNat_natCast, show (a + b) / 115792089237316195423570985008687907853269984665640564039457584007913129639936 % 18446744073709551616 = (a + b) / 115792089237316195423570985008687907853269984665640564039457584007913129639936 % 65536 by omega]
    simp only [cond_true, Nat.beq_refl]
    rfl
  have h12 : nn (nn (a + (115792089237316195423570985008687907853269984665640564039457584007913129639936 - b)) + b) = nn a := by
    rw [nn_eq, nn_eq, nn_eq]
    omega
  rw [na] at h12
  have h13 : (!!(bif true then Nat.beq (b2n (Nat.blt a b) % 18446744073709551616) 1 else false) == Nat.blt a b) = true := by
    cases Nat.blt a b <;> rfl
  have h14 : (!bif true then Nat.blt 1 (b2n (Nat.blt a b) % 18446744073709551616) else true) = true := by
    cases Nat.blt a b <;> rfl
  have h18 : nn (a * b) = nn (toN (lim 32 (a * b)) 0) := by
    unfold toN
    rw [e32 _ hab]
    simp
  have h19 : nn (a * b / 115792089237316195423570985008687907853269984665640564039457584007913129639936) = nn (toN (lim 32 (a * b)) 16) := by
    unfold toN
    rw [e32 _ hab]
    rfl
  have c := cmpN_eq a b
  by_cases h1 : a < b
  · refine s16_1 a b ?_ ?_ ?_ ?_ ?_ ?_ ?_ ?_ ?_ ?_ ?_ ?_ ?_ ?_ ?_ ?_ ?_ ?_ ?_ ?_
    all_goals (try rw [na]); (try rw [nb]); (try rw [va]); (try rw [vb])
    all_goals first | exact limOk_lim _ _ | exact lim_length _ _ | (rw [lim_length]; decide) | exact h1 | exact eq1t h9 | exact h11 | exact eq1t h12 | exact h13 | exact h14 | exact eq1 h18 | exact eq1 h19 | (rw [c, if_pos h1])
  · have h1b : (!Nat.blt a b) = true := by rw [blt_f h1]; rfl
    rw [if_neg h1] at c
    by_cases h2 : b < a
    · refine s16_2 a b ?_ ?_ ?_ ?_ ?_ ?_ ?_ ?_ ?_ ?_ ?_ ?_ ?_ ?_ ?_ ?_ ?_ ?_ ?_ ?_ ?_
      all_goals (try rw [na]); (try rw [nb]); (try rw [va]); (try rw [vb])
      all_goals first | exact limOk_lim _ _ | exact lim_length _ _ | (rw [lim_length]; decide) | exact h2 | exact h1b | exact eq1t h9 | exact h11 | exact eq1t h12 | exact h13 | exact h14 | exact eq1 h18 | exact eq1 h19 | (rw [c, if_pos h2])
    · have h2b : (!Nat.blt b a) = true := by rw [blt_f h2]; rfl
      refine s16_3 a b ?_ ?_ ?_ ?_ ?_ ?_ ?_ ?_ ?_ ?_ ?_ ?_ ?_ ?_ ?_ ?_ ?_ ?_ ?_ ?_ ?_
      all_goals (try rw [na]); (try rw [nb]); (try rw [va]); (try rw [vb])
      all_goals first | exact limOk_lim _ _ | exact lim_length _ _ | (rw [lim_length]; decide) | exact h1b | exact h2b | exact eq1t h9 | exact h11 | exact eq1t h12 | exact h13 | exact h14 | exact eq1 h18 | exact eq1 h19 | (rw [c, if_neg h2])

def ks16 : List Kind := [.arr 4 .u64, .arr 4 .u64]
theorem open16 : ∀ l, AllIs ks16 l → Sx.Spec Try.prog 16 (allW l 0) (allB l) ⟨V.bool true, [], []⟩ := by
  intro l h
  match l, h with
  | [.arr _ a, .arr _ b], h =>
    obtain ⟨⟨rfl, ha, hwa⟩, ⟨rfl, hb, hwb⟩, _⟩ := h
    obtain ⟨x, hx, ix⟩ := arr_num ha hwa
    obtain ⟨y, hy, iy⟩ := arr_num hb hwb
    exact Spec.imps (.cons ix (.cons iy .nil)) (s16 hx hy)
set_option maxRecDepth 100000 in
theorem lifted16 (os : Os) (started : os.Started) (H : Type) (enc : TypeId × Value → H) :
    ReturnsInHanded {} Try.checked os 16 .any (Rows.wideReckonsSpec.pre6 enc Try.prog Try.f16 Rows.wideReckonsRow.domain false) (Rows.wideReckonsSpec.post enc Try.prog Try.f16 false true false false) := by
  refine returnsInHanded_of_change (C := Try.checked) (by kernel_rfl) started (by kernel_rfl) Try.func16
    (ChangeSpec.witness6 (enc := enc) (C := Try.checked) false ⟨#[], #[.agg #[.int .u64 0, .int .u64 0, .int .u64 0, .int .u64 0], .agg #[.int .u64 0, .int .u64 0, .int .u64 0, .int .u64 0]], []⟩ 8 (by kernel_rfl) (by kernel_rfl) (by kernel_rfl) (by kernel_rfl)) ?_
  intro W base args ds gs before hval0 hW hcnd _
  exact law_step (ks := ks16) (tb := 4) laid (by kernel_rfl) (by kernel_rfl) rfl (by kernel_rfl) Try.underlying4 (fun ds hds => by
    match ds, hds with
    | [_, _], _ => rfl) open16 hval0 hW
theorem closed16 : joinedFacts Try.prog 16 Try.f16 Rows.wideReckonsSpec Rows.wideReckonsRow = true :=
  joined rfl rfl rfl rfl (by kernel_rfl) (by kernel_rfl) (by kernel_rfl) (by kernel_rfl) (by kernel_rfl) (by kernel_rfl) (by kernel_rfl) (by kernel_rfl) (by kernel_rfl) (by kernel_rfl) rfl (by kernel_rfl) (by kernel_rfl)
theorem named16 : Try.prog.funcNamed Rows.wideReckonsRow.func = some 16 := by kernel_rfl
theorem over16 : Rows.wideReckonsRow.holds Try.pinned (OpenSpec.ofChange Rows.wideReckonsSpec) :=
  OpenClaim.holds_of_wide 16 Try.f16 rfl rfl rfl rfl rfl rfl rfl ⟨rfl, rfl, rfl, rfl, rfl⟩ rfl rfl rfl rfl rfl named16 Try.func16 closed16
    (of_decide_eq_true (by kernel_rfl)) (by unfold Func.isWrapper; first | (rw [if_pos (by decide +kernel)]; kernel_rfl) | (rw [if_neg (by decide +kernel)]; exact ⟨rfl, rfl⟩))
    (fun os started H enc _ => lifted16 os started H enc)
theorem wideReckons_proved : Rows.WideReckonsSaid :=
  over16
#print axioms wideReckons_proved
end Go.Proofs.Ytmjejlbmcefaoaa
