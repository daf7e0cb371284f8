/- The law WideRests: rests of any numbers. -/
import Derived.Test.YtmjejlbmcefaoaaWnK
import Derived.Test.YtmjejlbmcefaoaaHead
namespace Go.Proofs.Ytmjejlbmcefaoaa
open Go Sx Go.ChangeShapes Go.WideShapes Go.ChangeAt Go.RowKit
theorem s17a_1 (a : Nat) (b : Nat) (m : Nat) (h1 : nn m = 0) (h2 : nn (remN (nn a) (nn b) (nn m)) = 0) : Sx.Spec Try.prog 17 [W.agg [C.u a, C.u (a / 18446744073709551616), C.u (a / 340282366920938463463374607431768211456), C.u (a / 6277101735386680763835789423207666416102355444464034512896)], W.agg [C.u b, C.u (b / 18446744073709551616), C.u (b / 340282366920938463463374607431768211456), C.u (b / 6277101735386680763835789423207666416102355444464034512896)], W.agg [C.u m, C.u (m / 18446744073709551616), C.u (m / 340282366920938463463374607431768211456), C.u (m / 6277101735386680763835789423207666416102355444464034512896)]] [] ⟨V.bool true, [], []⟩ :=
  spec_of_whole (tab_ok libK_ok) mixed Try.func17 [(26, true), (29, true)] 1000000 [] (by kernel_rfl) (by kernel_rfl) (by kernel_rfl) (by kernel_rfl) (by kernel_rfl) (by kernel_rfl)
    (ocons rfl (ocons rfl (ocons rfl (ocons rfl (ocons (beqT h1) (ocons (beqT h2) onil))))))

theorem s17b_1 (a : Nat) (b : Nat) (m : Nat) (h1 : (!Nat.beq (nn m) 0) = true) (h2 : 16 ≤ List.length (lim 16 (nn b))) (h3 : List.length (lim 16 (nn a) ++ List.take 16 (List.drop 0 (lim 16 (nn b)))) = 32) (h4 : List.length (lim 16 (nn m)) = 16) (h5 : limOk (lim 16 (nn a) ++ List.take 16 (List.drop 0 (lim 16 (nn b)))) = true) (h6 : limOk (lim 16 (nn m)) = true) (h7 : List.length (lim 16 (nn a) ++ List.take 16 (List.drop 0 (lim 16 (nn b)))) ≤ 100000000) (h8 : List.length (lim 16 (nn m)) ≤ 100000000) (h9 : 0 < valL (lim 16 (nn m))) (h10 : List.length (lim 16 (valL (lim 16 (nn a) ++ List.take 16 (List.drop 0 (lim 16 (nn b)))) % valL (lim 16 (nn m)))) = 16) (h11 : limOk (lim 16 (valL (lim 16 (nn a) ++ List.take 16 (List.drop 0 (lim 16 (nn b)))) % valL (lim 16 (nn m)))) = true) (h12 : (!!eqNs [nn (remN (nn a) (nn b) (nn m))] [nn (toN (lim 16 (valL (lim 16 (nn a) ++ List.take 16 (List.drop 0 (lim 16 (nn b)))) % valL (lim 16 (nn m)))) 0)]) = true) (h13 : ¬cmpN (nn (remN (nn a) (nn b) (nn m))) (nn m) ≥ 0) (h14 : eqNs [nn (remN (nn (nn a * nn b)) (nn (nn a * nn b / 115792089237316195423570985008687907853269984665640564039457584007913129639936)) (nn m))] [nn (remN (nn (nn (remN (nn a) 0 (nn m)) * nn (remN (nn b) 0 (nn m)))) (nn (nn (remN (nn a) 0 (nn m)) * nn (remN (nn b) 0 (nn m)) / 115792089237316195423570985008687907853269984665640564039457584007913129639936)) (nn m))] = true) : Sx.Spec Try.prog 17 [W.agg [C.u a, C.u (a / 18446744073709551616), C.u (a / 340282366920938463463374607431768211456), C.u (a / 6277101735386680763835789423207666416102355444464034512896)], W.agg [C.u b, C.u (b / 18446744073709551616), C.u (b / 340282366920938463463374607431768211456), C.u (b / 6277101735386680763835789423207666416102355444464034512896)], W.agg [C.u m, C.u (m / 18446744073709551616), C.u (m / 340282366920938463463374607431768211456), C.u (m / 6277101735386680763835789423207666416102355444464034512896)]] [] ⟨V.bool true, [], []⟩ :=
  spec_of_whole (tab_ok libK_ok) mixed Try.func17 [(26, false), (44, false), (49, false), (79, true)] 1000000 [] (by kernel_rfl) (by kernel_rfl) (by kernel_rfl) (by kernel_rfl) (by kernel_rfl) (by kernel_rfl)
    (ocons rfl (ocons rfl (ocons rfl (ocons rfl (ocons h1 (ocons rfl (ocons rfl (ocons (bleT h2) (ocons (beqT h3) (ocons (beqT h4) (ocons h5 (ocons h6 (ocons (bleT h7) (ocons (bleT h8) (ocons (bltT h9) (ocons (beqT h10) (ocons h11 (ocons rfl (ocons rfl (ocons h12 (ocons (ndec h13) (ocons rfl (ocons rfl (ocons rfl (ocons rfl (ocons rfl (ocons rfl (ocons h14 onil))))))))))))))))))))))))))))

theorem eq1 {a b : Nat} (h : a = b) : eqNs [a] [b] = true := by
  subst h
  exact Nat.beq_refl a
theorem eq1t {a b : Nat} (h : a = b) : (!!eqNs [a] [b]) = true := by rw [eq1 h]; rfl
theorem val16 {a : Nat} (h : a < P256) : valL (lim 16 a) = a := by
  rw [valL_lim]
  exact Nat.mod_eq_of_lt h
theorem valL_app : ∀ (l m : List Int), valL (l ++ m) = valL l + 65536 ^ l.length * valL m
  | [], m => by simp [valL]
  | a :: l, m => by
    simp only [List.cons_append, valL, valL_app l m, List.length_cons, Nat.pow_succ]
    grind
theorem limOk_app {l m : List Int} (h1 : limOk l = true) (h2 : limOk m = true) : limOk (l ++ m) = true := by
  unfold limOk at *
  rw [List.all_append, h1, h2]; rfl
theorem remN_pos {a b m : Nat} (h : m ≠ 0) : remN a b m = (a + 115792089237316195423570985008687907853269984665640564039457584007913129639936 * b) % m := by
  unfold remN
  rw [beq_f h]; rfl
theorem s17 {a b m : Nat} (ha : a < P256) (hb : b < P256) (hm : m < P256) : Sx.Spec Try.prog 17 [.agg (numC a), .agg (numC b), .agg (numC m)] [] ⟨V.bool true, [], []⟩ := by
  have na := nn_id ha
  have nb := nn_id hb
  have nm := nn_id hm
  have va := val16 ha
  have vb := val16 hb
  have vm := val16 hm
  have l16 : ∀ n, (lim 16 n).length = 16 := fun n => lim_length 16 n
  by_cases h0 : m = 0
  · subst h0
    exact s17a_1 a b 0 rfl (by rw [show nn 0 = 0 from rfl, show remN (nn a) (nn b) 0 = 0 from rfl]; rfl)
  have hp : 0 < m := Nat.pos_of_ne_zero h0
  have hz : (!Nat.beq m 0) = true := by rw [beq_f h0]; rfl
  have et : List.take 16 (List.drop 0 (lim 16 b)) = lim 16 b := by
    rw [List.drop_zero, List.take_of_length_le (by rw [l16]; exact Nat.le_refl _)]
  have ev : valL (lim 16 a ++ lim 16 b) = a + 115792089237316195423570985008687907853269984665640564039457584007913129639936 * b := by
    rw [valL_app, va, vb, l16]
  have el : (lim 16 a ++ lim 16 b).length = 32 := by rw [List.length_append, l16, l16]
  have hr : ∀ x, x % m < P256 := fun x => Nat.lt_trans (Nat.mod_lt _ hp) hm
  have nr : ∀ x, nn (x % m) = x % m := fun x => nn_id (hr x)
  have c12 : nn (remN a b m) = nn (toN (lim 16 ((a + 115792089237316195423570985008687907853269984665640564039457584007913129639936 * b) % m)) 0) := by
    unfold toN
    rw [val16 (hr _), remN_pos h0]
    simp
  have c13 : ¬ cmpN (nn (remN a b m)) m ≥ 0 := by
    rw [remN_pos h0, nr, cmpN_eq, if_pos (Nat.mod_lt _ hp)]
    decide
  have hprod : ∀ x y, x < P256 → y < P256 → nn (x * y) + 115792089237316195423570985008687907853269984665640564039457584007913129639936 * nn (x * y / 115792089237316195423570985008687907853269984665640564039457584007913129639936) = x * y := by
    intro x y hx hy
    have hxy : x * y < 115792089237316195423570985008687907853269984665640564039457584007913129639936 * 115792089237316195423570985008687907853269984665640564039457584007913129639936 := Nat.mul_lt_mul'' hx hy
    rw [nn_eq, nn_eq]
    generalize x * y = p at *
    omega
  have c14 : nn (remN (nn (a * b)) (nn (a * b / 115792089237316195423570985008687907853269984665640564039457584007913129639936)) m) = nn (remN (nn (nn (remN a 0 m) * nn (remN b 0 m))) (nn (nn (remN a 0 m) * nn (remN b 0 m) / 115792089237316195423570985008687907853269984665640564039457584007913129639936)) m) := by
    rw [remN_pos h0, remN_pos h0, remN_pos h0, remN_pos h0, Nat.mul_zero, Nat.add_zero, Nat.add_zero]
    simp only [nr]
    rw [hprod a b ha hb, hprod _ _ (hr a) (hr b), ← Nat.mul_mod]
  have le16 : 16 ≤ (lim 16 b).length := by rw [l16]; decide
  have le32 : (lim 16 a ++ lim 16 b).length ≤ 100000000 := by rw [el]; decide
  have lem : (lim 16 m).length ≤ 100000000 := by rw [l16]; decide
  have key := s17b_1 a b m
  rw [na, nb, nm, et, ev, vm] at key
  exact key hz le16 el (l16 _) (limOk_app (limOk_lim _ _) (limOk_lim _ _)) (limOk_lim _ _) le32 lem hp (l16 _) (limOk_lim _ _) (eq1t c12) c13 (eq1 c14)

def ks17 : List Kind := [.arr 4 .u64, .arr 4 .u64, .arr 4 .u64]
theorem open17 : ∀ l, AllIs ks17 l → Sx.Spec Try.prog 17 (allW l 0) (allB l) ⟨V.bool true, [], []⟩ := by
  intro l h
  match l, h with
  | [.arr _ a, .arr _ b, .arr _ m], h =>
    obtain ⟨⟨rfl, ha, hwa⟩, ⟨rfl, hb, hwb⟩, ⟨rfl, hm, hwm⟩, _⟩ := h
    obtain ⟨x, hx, ix⟩ := arr_num ha hwa
    obtain ⟨y, hy, iy⟩ := arr_num hb hwb
    obtain ⟨z, hz, iz⟩ := arr_num hm hwm
    exact Spec.imps (.cons ix (.cons iy (.cons iz .nil))) (s17 hx hy hz)
set_option maxRecDepth 100000 in
theorem lifted17 (os : Os) (started : os.Started) (H : Type) (enc : TypeId × Value → H) :
    ReturnsInHanded {} Try.checked os 17 .any (Rows.wideRestsSpec.pre6 enc Try.prog Try.f17 Rows.wideRestsRow.domain false) (Rows.wideRestsSpec.post enc Try.prog Try.f17 false true false false) := by
  refine returnsInHanded_of_change (C := Try.checked) (by kernel_rfl) started (by kernel_rfl) Try.func17
    (ChangeSpec.witness6 (enc := enc) (C := Try.checked) false ⟨#[], #[.agg #[.int .u64 0, .int .u64 0, .int .u64 0, .int .u64 0], .agg #[.int .u64 0, .int .u64 0, .int .u64 0, .int .u64 0], .agg #[.int .u64 0, .int .u64 0, .int .u64 0, .int .u64 0]], []⟩ 8 (by kernel_rfl) (by kernel_rfl) (by kernel_rfl) (by kernel_rfl)) ?_
  intro W base args ds gs before hval0 hW hcnd _
  exact law_step (ks := ks17) (tb := 4) laid (by kernel_rfl) (by kernel_rfl) rfl (by kernel_rfl) Try.underlying4 (fun ds hds => by
    match ds, hds with
    | [_, _, _], _ => rfl) open17 hval0 hW
theorem closed17 : joinedFacts Try.prog 17 Try.f17 Rows.wideRestsSpec Rows.wideRestsRow = true :=
  joined rfl rfl rfl rfl (by kernel_rfl) (by kernel_rfl) (by kernel_rfl) (by kernel_rfl) (by kernel_rfl) (by kernel_rfl) (by kernel_rfl) (by kernel_rfl) (by kernel_rfl) (by kernel_rfl) rfl (by kernel_rfl) (by kernel_rfl)
theorem named17 : Try.prog.funcNamed Rows.wideRestsRow.func = some 17 := by kernel_rfl
theorem over17 : Rows.wideRestsRow.holds Try.pinned (OpenSpec.ofChange Rows.wideRestsSpec) :=
  OpenClaim.holds_of_wide 17 Try.f17 rfl rfl rfl rfl rfl rfl rfl ⟨rfl, rfl, rfl, rfl, rfl⟩ rfl rfl rfl rfl rfl named17 Try.func17 closed17
    (of_decide_eq_true (by kernel_rfl)) (by unfold Func.isWrapper; first | (rw [if_pos (by decide +kernel)]; kernel_rfl) | (rw [if_neg (by decide +kernel)]; exact ⟨rfl, rfl⟩))
    (fun os started H enc _ => lifted17 os started H enc)
theorem wideRests_proved : Rows.WideRestsSaid :=
  over17
#print axioms wideRests_proved
end Go.Proofs.Ytmjejlbmcefaoaa
