/- Law PrimeBytes. -/
import Derived.Test.YtmjejlbmcefaoaaPrI
import Derived.Test.YtmjejlbmcefaoaaHead
namespace Go.Proofs.Ytmjejlbmcefaoaa
open Go Sx
theorem s21_6 (a : Nat) (s : ByteArray) (h1 : (!!Nat.beq (nn (nn a % 57896044618658097711785492504343953926634992332820282019728792003956564819949)) (nn (nn a % 57896044618658097711785492504343953926634992332820282019728792003956564819949))) = true) (h2 : (!!Nat.beq (nn (nn a % 57896044618658097711785492504343953926634992332820282019728792003956564819949) % 2) 1 == (Int.tmod (↑(nn a % 57896044618658097711785492504343953926634992332820282019728792003956564819949 % 18446744073709551616) : Int) 2 == 1)) = true) (h3 : (!!eqNs [nn (pofN (bytesN (nn (nn a % 57896044618658097711785492504343953926634992332820282019728792003956564819949))))] [nn (nn a % 57896044618658097711785492504343953926634992332820282019728792003956564819949)]) = true) (h4 : pofE (bytesN (nn (nn a % 57896044618658097711785492504343953926634992332820282019728792003956564819949))) = 0) (h5 : ¬ofE s = 0) (h6 : pofE s = 1) (h7 : eqNs [nn (pofN s)] [0] = true) : Sx.Spec Try.prog 21 [W.agg [C.u a, C.u (a / 18446744073709551616), C.u (a / 340282366920938463463374607431768211456), C.u (a / 6277101735386680763835789423207666416102355444464034512896)], W.c (C.v (Value.string s))] [] ⟨V.bool true, [], []⟩ :=
  spec_of_whole (tab_ok libr2_ok) mixed Try.func21 [(32, false), (39, false), (48, false), (53, false), (57, false), (68, true), (71, true), (76, true)] 1000000 [] (by kernel_rfl) (by kernel_rfl) (by kernel_rfl) (by kernel_rfl) (by kernel_rfl) (by kernel_rfl)
    (ocons rfl (ocons rfl (ocons rfl (ocons rfl (ocons h1 (ocons (nnS (rfl : bytesN (nn (nn a % 57896044618658097711785492504343953926634992332820282019728792003956564819949)) = bytesN (nn (nn a % 57896044618658097711785492504343953926634992332820282019728792003956564819949)))) (ocons rfl (ocons rfl (ocons rfl (ocons h2 (ocons h3 (ocons (nbneI h4) (ocons rfl (ocons (bneI h5) (ocons (eqI h6) (ocons h7 onil))))))))))))))))
theorem s21_9 (a : Nat) (s : ByteArray) (h1 : (!!Nat.beq (nn (nn a % 57896044618658097711785492504343953926634992332820282019728792003956564819949)) (nn (nn a % 57896044618658097711785492504343953926634992332820282019728792003956564819949))) = true) (h2 : (!!Nat.beq (nn (nn a % 57896044618658097711785492504343953926634992332820282019728792003956564819949) % 2) 1 == (Int.tmod (↑(nn a % 57896044618658097711785492504343953926634992332820282019728792003956564819949 % 18446744073709551616) : Int) 2 == 1)) = true) (h3 : (!!eqNs [nn (pofN (bytesN (nn (nn a % 57896044618658097711785492504343953926634992332820282019728792003956564819949))))] [nn (nn a % 57896044618658097711785492504343953926634992332820282019728792003956564819949)]) = true) (h4 : pofE (bytesN (nn (nn a % 57896044618658097711785492504343953926634992332820282019728792003956564819949))) = 0) (h5 : ofE s = 0) (h6 : (!eqNs [nn (nn (ofN s) % 57896044618658097711785492504343953926634992332820282019728792003956564819949)] [nn (ofN s)]) = true) (h7 : pofE s = 2) (h8 : eqNs [nn (pofN s)] [0] = true) : Sx.Spec Try.prog 21 [W.agg [C.u a, C.u (a / 18446744073709551616), C.u (a / 340282366920938463463374607431768211456), C.u (a / 6277101735386680763835789423207666416102355444464034512896)], W.c (C.v (Value.string s))] [] ⟨V.bool true, [], []⟩ :=
  spec_of_whole (tab_ok libr2_ok) mixed Try.func21 [(32, false), (39, false), (48, false), (53, false), (57, false), (68, false), (82, true), (85, true), (90, true)] 1000000 [] (by kernel_rfl) (by kernel_rfl) (by kernel_rfl) (by kernel_rfl) (by kernel_rfl) (by kernel_rfl)
    (ocons rfl (ocons rfl (ocons rfl (ocons rfl (ocons h1 (ocons (nnS (rfl : bytesN (nn (nn a % 57896044618658097711785492504343953926634992332820282019728792003956564819949)) = bytesN (nn (nn a % 57896044618658097711785492504343953926634992332820282019728792003956564819949)))) (ocons rfl (ocons rfl (ocons rfl (ocons h2 (ocons h3 (ocons (nbneI h4) (ocons rfl (ocons (nbneI h5) (ocons h6 (ocons (eqI h7) (ocons h8 onil)))))))))))))))))
theorem s21_12 (a : Nat) (s : ByteArray) (h1 : (!!Nat.beq (nn (nn a % 57896044618658097711785492504343953926634992332820282019728792003956564819949)) (nn (nn a % 57896044618658097711785492504343953926634992332820282019728792003956564819949))) = true) (h2 : (!!Nat.beq (nn (nn a % 57896044618658097711785492504343953926634992332820282019728792003956564819949) % 2) 1 == (Int.tmod (↑(nn a % 57896044618658097711785492504343953926634992332820282019728792003956564819949 % 18446744073709551616) : Int) 2 == 1)) = true) (h3 : (!!eqNs [nn (pofN (bytesN (nn (nn a % 57896044618658097711785492504343953926634992332820282019728792003956564819949))))] [nn (nn a % 57896044618658097711785492504343953926634992332820282019728792003956564819949)]) = true) (h4 : pofE (bytesN (nn (nn a % 57896044618658097711785492504343953926634992332820282019728792003956564819949))) = 0) (h5 : ofE s = 0) (h6 : (!!eqNs [nn (nn (ofN s) % 57896044618658097711785492504343953926634992332820282019728792003956564819949)] [nn (ofN s)]) = true) (h7 : pofE s = 0) (h8 : eqNs [nn (nn (pofN s))] [nn (ofN s)] = true) : Sx.Spec Try.prog 21 [W.agg [C.u a, C.u (a / 18446744073709551616), C.u (a / 340282366920938463463374607431768211456), C.u (a / 6277101735386680763835789423207666416102355444464034512896)], W.c (C.v (Value.string s))] [] ⟨V.bool true, [], []⟩ :=
  spec_of_whole (tab_ok libr2_ok) mixed Try.func21 [(32, false), (39, false), (48, false), (53, false), (57, false), (68, false), (82, false), (95, true), (101, true)] 1000000 [] (by kernel_rfl) (by kernel_rfl) (by kernel_rfl) (by kernel_rfl) (by kernel_rfl) (by kernel_rfl)
    (ocons rfl (ocons rfl (ocons rfl (ocons rfl (ocons h1 (ocons (nnS (rfl : bytesN (nn (nn a % 57896044618658097711785492504343953926634992332820282019728792003956564819949)) = bytesN (nn (nn a % 57896044618658097711785492504343953926634992332820282019728792003956564819949)))) (ocons rfl (ocons rfl (ocons rfl (ocons h2 (ocons h3 (ocons (nbneI h4) (ocons rfl (ocons (nbneI h5) (ocons h6 (ocons (eqI h7) (ocons h8 onil)))))))))))))))))

theorem odd_same (x : Nat) : (!!Nat.beq (x % 2) 1 == (Int.tmod (((x % 18446744073709551616 : Nat)) : Int) 2 == 1)) = true := by
  have h : Int.tmod (((x % 18446744073709551616 : Nat)) : Int) 2 = ((x % 2 : Nat) : Int) := by
    rw [Int.tmod_eq_emod_of_nonneg (by omega)]
    omega
  rw [h]
  by_cases h1 : x % 2 = 1
  · rw [h1]; rfl
  · rw [show x % 2 = 0 by omega]; rfl
theorem eqNs_t {a b : Nat} (h : a = b) : eqNs [a] [b] = true := by rw [eqNs1, h, Nat.beq_refl]
theorem eqNs_f {a b : Nat} (h : ¬ a = b) : (!eqNs [a] [b]) = true := by rw [eqNs1, beq_f h]; rfl
theorem s21 {a : Nat} (ha : a < P256) (s : ByteArray) : Sx.Spec Try.prog 21 [.agg (numC a), .c (.v (.string s))] [] ⟨V.bool true, [], []⟩ := by
  have na := nn_id ha
  have nm : ∀ x, nn (x % 57896044618658097711785492504343953926634992332820282019728792003956564819949) = x % 57896044618658097711785492504343953926634992332820282019728792003956564819949 := fun x => nn_p (Nat.mod_lt _ (by decide))
  have hx : a % 57896044618658097711785492504343953926634992332820282019728792003956564819949 < 57896044618658097711785492504343953926634992332820282019728792003956564819949 := Nat.mod_lt _ (by decide)
  have hxP : a % 57896044618658097711785492504343953926634992332820282019728792003956564819949 < P256 := Nat.lt_trans hx (by decide)
  have k6 := s21_6 a s
  have k9 := s21_9 a s
  have k12 := s21_12 a s
  simp only [na, nm] at k6 k9 k12
  generalize a % 57896044618658097711785492504343953926634992332820282019728792003956564819949 = x at *
  have e2 : leN (bytesN x) = x := leN_bytesN hxP
  have b1 : Nat.beq (bytesN x).size 32 = true := by rw [bytesN_size]; rfl
  have b2 : pofN (bytesN x) = x := by
    unfold pofN
    rw [b1, e2, show Nat.blt x 57896044618658097711785492504343953926634992332820282019728792003956564819949 = true from Nat.blt_eq.mpr hx]
    rfl
  have b3 : pofE (bytesN x) = 0 := by
    unfold pofE
    rw [b1, e2, show Nat.blt x 57896044618658097711785492504343953926634992332820282019728792003956564819949 = true from Nat.blt_eq.mpr hx]
    rfl
  have nx := nn_p hx
  have c1 : (!!Nat.beq x x) = true := by rw [Nat.beq_refl]; rfl
  have c3 : (!!eqNs [nn (pofN (bytesN x))] [x]) = true := by rw [b2, nx, eqNs_t rfl]; rfl
  by_cases hs : s.size = 32
  · have o1 : ofN s = leN s := by unfold ofN; rw [hs]; rfl
    have hl : leN s < P256 := by rw [← o1]; exact ofN_lt s
    by_cases hp : leN s < 57896044618658097711785492504343953926634992332820282019728792003956564819949
    · have p1 : pofN s = leN s := by
        unfold pofN
        rw [hs, show Nat.blt (leN s) 57896044618658097711785492504343953926634992332820282019728792003956564819949 = true from Nat.blt_eq.mpr hp]
        rfl
      have p2 : pofE s = 0 := by
        unfold pofE
        rw [hs, show Nat.blt (leN s) 57896044618658097711785492504343953926634992332820282019728792003956564819949 = true from Nat.blt_eq.mpr hp]
        rfl
      refine k12 c1 (odd_same x) c3 b3 (ofE_32 hs) ?_ p2 ?_
      · rw [o1, nn_id hl, Nat.mod_eq_of_lt hp, eqNs_t rfl]; rfl
      · rw [p1, o1, nn_id (show nn (leN s) < P256 by rw [nn_id hl]; exact hl), eqNs_t rfl]
    · have p1 : pofN s = 0 := by
        unfold pofN
        rw [blt_f hp, Bool.and_false]
        rfl
      have p2 : pofE s = 2 := by
        unfold pofE
        rw [hs, blt_f hp]
        rfl
      refine k9 c1 (odd_same x) c3 b3 (ofE_32 hs) ?_ p2 ?_
      · rw [o1, nn_id hl]
        refine eqNs_f fun h => hp ?_
        rw [← h]
        exact Nat.mod_lt _ (by decide)
      · rw [p1]; rfl
  · have p0 : Nat.beq s.size 32 = false := beq_f hs
    have p1 : pofN s = 0 := by
      unfold pofN
      rw [p0, Bool.false_and]
      rfl
    have p2 : pofE s = 1 := by
      unfold pofE
      rw [p0]
      rfl
    refine k6 c1 (odd_same x) c3 b3 ?_ p2 ?_
    · rw [ofE_not hs]; decide
    · rw [p1]; rfl

def ks21 : List Kind := [.arr 4 .u64, .str]
theorem open21 : ∀ l, AllIs ks21 l → Sx.Spec Try.prog 21 (allW l 0) (allB l) ⟨V.bool true, [], []⟩ := by
  intro l h
  match l, h with
  | [.arr _ a, .str s], h =>
    obtain ⟨⟨rfl, ha, hwa⟩, hs, _⟩ := h
    obtain ⟨x, hx, ix⟩ := arr_num ha hwa
    exact Spec.imps (.cons ix (Imps.refl _)) (s21 hx s)
set_option maxRecDepth 100000 in
theorem lifted21 (os : Os) (started : os.Started) (H : Type) (enc : TypeId × Value → H) :
    ReturnsInHanded {} Try.checked os 21 .any (Rows.primeBytesSpec.pre6 enc Try.prog Try.f21 Rows.primeBytesRow.domain false) (Rows.primeBytesSpec.post enc Try.prog Try.f21 false true false false) := by
  refine returnsInHanded_of_change (C := Try.checked) (by kernel_rfl) started (by kernel_rfl) Try.func21
    (ChangeSpec.witness6 (enc := enc) (C := Try.checked) false ⟨#[], #[.agg #[.int .u64 0, .int .u64 0, .int .u64 0, .int .u64 0], .string ⟨#[]⟩], []⟩ 8 (by kernel_rfl) (by kernel_rfl) (by kernel_rfl) (by kernel_rfl)) ?_
  intro W base args ds gs before hval0 hW hcnd _
  exact law_step (ks := ks21) (tb := 4) laid (by kernel_rfl) (by kernel_rfl) rfl (by kernel_rfl) Try.underlying4 (fun ds hds => by
    match ds, hds with
    | [_, _], _ => rfl) open21 hval0 hW
theorem closed21 : joinedFacts Try.prog 21 Try.f21 Rows.primeBytesSpec Rows.primeBytesRow = true :=
  joined rfl rfl rfl rfl (by kernel_rfl) (by kernel_rfl) (by kernel_rfl) (by kernel_rfl) (by kernel_rfl) (by kernel_rfl) (by kernel_rfl) (by kernel_rfl) (by kernel_rfl) (by kernel_rfl) rfl (by kernel_rfl) (by kernel_rfl)
theorem named21 : Try.prog.funcNamed Rows.primeBytesRow.func = some 21 := by kernel_rfl
theorem over21 : Rows.primeBytesRow.holds Try.pinned (OpenSpec.ofChange Rows.primeBytesSpec) :=
  OpenClaim.holds_of_wide 21 Try.f21 rfl rfl rfl rfl rfl rfl rfl ⟨rfl, rfl, rfl, rfl, rfl⟩ rfl rfl rfl rfl rfl named21 Try.func21 closed21
    (of_decide_eq_true (by kernel_rfl)) (by unfold Func.isWrapper; first | (rw [if_pos (by decide +kernel)]; kernel_rfl) | (rw [if_neg (by decide +kernel)]; exact ⟨rfl, rfl⟩))
    (fun os started H enc _ => lifted21 os started H enc)
theorem primeBytes_proved : Rows.PrimeBytesSaid :=
  over21
#print axioms primeBytes_proved
end Go.Proofs.Ytmjejlbmcefaoaa
