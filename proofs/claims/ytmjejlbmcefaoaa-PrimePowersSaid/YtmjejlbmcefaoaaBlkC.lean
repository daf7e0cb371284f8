/- The law BlockPads: for any three numbers the law answers true. -/
import Derived.Test.YtmjejlbmcefaoaaBlkB
import Derived.Test.YtmjejlbmcefaoaaHead
namespace Go.Proofs.Ytmjejlbmcefaoaa
open Go Sx Go.ChangeShapes Go.WideShapes Go.ChangeAt Go.RowKit

def e55g : Entry := fun args ms => match args, ms with
  | [.c (.v (.int .i64 s))], [] => some (⟨.w (.c (.ptr 0 0)), [], [bufB 0 0 1, rowB s.toNat (List.replicate s.toNat 0)]⟩, [decide (1 ≤ s), decide (s ≤ 256)])
  | _, _ => none
theorem e55g_ok : EntryOk Try.prog 55 e55g := by
  intro args ms r obs h ho
  unfold e55g at h
  split at h
  · rename_i s
    cases h
    have h1 : 1 ≤ s := by simpa using ohead ho
    have h2 : s ≤ 256 := by simpa using ohead (otail ho)
    obtain ⟨s', rfl⟩ := Int.eq_ofNat_of_zero_le (show 0 ≤ s by omega)
    exact s55_good s' (by omega) (by omega)
  · cases h
def libl : List (Nat × Entry) := [(48, e48), (51, viewE 1 .strs e51v), (55, e55g)]
theorem libl_ok : AllOk Try.prog libl := .cons e48_ok (.cons (viewE_ok e51v_ok) (.cons e55g_ok (.nil _)))
theorem s50 : Sx.Spec Try.prog 50 [] [] ⟨V.bool true, [], []⟩ :=
  spec_of_whole (tab_ok libl_ok) mixed Try.func50 [] 1000000 [] (o := tt 15) (by kernel_rfl) (by kernel_rfl) (by kernel_rfl) (by kernel_rfl) (by kernel_rfl) (by kernel_rfl) (ott 15)
def e50 : Entry := fun args ms => match args, ms with
  | [], [] => some (⟨V.bool true, [], []⟩, [])
  | _, _ => none
theorem e50_ok : EntryOk Try.prog 50 e50 := by
  intro args ms r obs h ho
  unfold e50 at h
  split at h
  · cases h
    exact s50
  · cases h

def lib16 : List (Nat × Entry) := [(48, e48), (49, e49), (50, e50)]
theorem lib16_ok : AllOk Try.prog lib16 := .cons e48_ok (.cons e49_ok (.cons e50_ok (.nil _)))

/-- the lowest bytes of a number, the highest one first. -/
def beL : Nat → Int → List Int
  | 0, _ => []
  | f + 1, x => beL f (x / 256) ++ [x % 256]
theorem beL_len : ∀ f x, (beL f x).length = f
  | 0, _ => rfl
  | f + 1, x => by simp [beL, beL_len f]
theorem beL_zero : ∀ f, beL f 0 = List.replicate f 0
  | 0 => rfl
  | f + 1 => by simp only [beL]; rw [Int.zero_ediv, beL_zero f, List.replicate_succ']; rfl

theorem padLoop_eq : ∀ (f : Nat) (q tl : List Int) (left : Int), 0 ≤ left → left < 256 ^ f → q.length + f ≤ 1000000 → padLoop f (q ++ (List.replicate f 0 ++ tl)) ((q.length + f : Nat) - 1 : Int) left = q ++ (beL f left ++ tl)
  | 0, q, tl, left, _, _, _ => by simp [padLoop, beL]
  | f + 1, q, tl, left, h0, h1, hq => by
    by_cases hl : left > 0
    · simp only [padLoop, if_pos hl]
      have e1 : (((q.length + (f + 1) : Nat) : Int) - 1).toNat = q.length + f := by omega
      have e2 : i64 (((q.length + (f + 1) : Nat) : Int) - 1 - 1) = ((q.length + f : Nat) : Int) - 1 := by rw [i64_id] <;> omega
      have e3 : shr .i64 left 8 = left / 256 := shr8 left
      have e4 : (q ++ (List.replicate (f + 1) 0 ++ tl)).set (q.length + f) (IntKind.u8.wrap left) = q ++ (List.replicate f 0 ++ ((left % 256) :: tl)) := by
        rw [wrap_u8, List.set_append_right _ _ (by omega), Nat.add_sub_cancel_left, List.replicate_succ', List.append_assoc, List.set_append_right _ _ (by simp)]
        simp
      rw [e1, e2, e3, e4, padLoop_eq f q ((left % 256) :: tl) (left / 256) (by omega) (by rw [Int.pow_succ] at h1; exact Int.ediv_lt_of_lt_mul (by omega) h1) (by omega)]
      simp [beL]
    · have : left = 0 := by omega
      subst this
      simp only [padLoop, if_neg hl, beL_zero]

theorem pX_succ {x : Int} (h0 : 0 ≤ x) (h1 : x < 18446744073709551616) : ∀ j, 0 ≤ pX x j ∧ pX x j < 18446744073709551616 ∧ pX x (j + 1) = pX x j / 256
  | 0 => ⟨h0, h1, by simp only [pX]; rw [Int.tdiv_eq_ediv_of_nonneg h0, wrap_u64]; omega⟩
  | j + 1 => by
    obtain ⟨a, b, c⟩ := pX_succ h0 h1 j
    have a' : 0 ≤ pX x (j + 1) := by rw [c]; omega
    have b' : pX x (j + 1) < 18446744073709551616 := by rw [c]; omega
    refine ⟨a', b', ?_⟩
    simp only [pX] at a' b' ⊢
    rw [Int.tdiv_eq_ediv_of_nonneg a', wrap_u64, wrap_u64]
    rw [wrap_u64] at a' b'
    omega
theorem pB_eq {x : Int} (h0 : 0 ≤ x) (h1 : x < 18446744073709551616) (j : Nat) : pB x j = pX x j % 256 := by
  obtain ⟨a, b, _⟩ := pX_succ h0 h1 j
  unfold pB
  rw [wrap_u8, Int.tmod_eq_emod_of_nonneg a]
  omega
theorem put8_eq {x : Int} (h0 : 0 ≤ x) (h1 : x < 18446744073709551616) : put8 x = beL 8 x := by
  have hs := fun j => (pX_succ h0 h1 j).2.2
  simp only [put8, pB_eq h0 h1, beL, hs]
  simp [pX]
theorem put4_eq {x : Int} (h0 : 0 ≤ x) (h1 : x < 18446744073709551616) : put4 x = beL 4 x := by
  have hs := fun j => (pX_succ h0 h1 j).2.2
  simp only [put4, pB_eq h0 h1, beL, hs]
  simp [pX]

theorem beL_8_6 {x : Int} (h0 : 0 ≤ x) (h1 : x < 281474976710656) : beL 8 x = [0, 0] ++ beL 6 x := by
  have hz : x / 256 / 256 / 256 / 256 / 256 / 256 = 0 := by omega
  simp only [beL, hz]
  simp

theorem padList_eq {n s w : Int} (h : padGood n s w) : padList n s w = 128 :: (List.replicate (padZ n s w) 0 ++ (List.replicate (w - 8).toNat 0 ++ put8 (u64 (u64 n * 8)))) := by
  obtain ⟨h1, h2, h3, h4, h5, h6⟩ := h
  have hz := padZ_lt ⟨h1, h2, h3, h4, h5, h6⟩
  unfold padList
  generalize padZ n s w = z at hz
  have e1 : u64 (u64 n * 8) = 8 * n := by rw [wrap_u64, wrap_u64]; omega
  rw [e1, put8_eq (by omega) (by omega), beL_8_6 (by omega) (by omega)]
  simp only
  obtain ⟨W, rfl⟩ := Int.eq_ofNat_of_zero_le (show 0 ≤ w by omega)
  obtain ⟨v, rfl⟩ : ∃ v, W = 8 + v := ⟨W - 8, by omega⟩
  have e2 : (List.replicate (1 + ((8 + v : Nat) : Int).toNat + z) (0 : Int)).set 0 128 = (128 :: List.replicate (z + v + 2) 0) ++ (List.replicate 6 0 ++ []) := by
    rw [show 1 + ((8 + v : Nat) : Int).toNat + z = (z + v + 2 + 6) + 1 by omega, List.replicate_succ, List.set_cons_zero, List.append_nil, List.cons_append, List.replicate_append_replicate]
  have e3 : (((1 + ((8 + v : Nat) : Int).toNat + z : Nat) : Int) - 1) = (((128 :: List.replicate (z + v + 2) (0 : Int)).length + 6 : Nat) : Int) - 1 := by
    simp; omega
  rw [e2, e3, padLoop_eq 6 (128 :: List.replicate (z + v + 2) 0) [] (8 * n) (by omega) (by omega) (by simp; omega)]
  have e4 : (((8 + v : Nat) : Int) - 8).toNat = v := by omega
  rw [e4, List.append_nil, List.take_of_length_le (by simp [beL_len]; omega)]
  rw [show (z + v + 2) = z + (v + 2) by omega, ← List.replicate_append_replicate, ← List.replicate_append_replicate]
  simp

theorem rpad_eq {n s w : Int} : rpad n s w = strOf (128 :: (List.replicate (padZ n s w) 0 ++ (List.replicate (w - 8).toNat 0 ++ put8 (u64 (u64 n * 8))))) := by
  unfold rpad rpRest
  rw [rpTop_eq, rpEnd_eq, ← strOf_append, ← strOf_append]
  rfl
theorem pad_same (n s w : Int) : padM n s w = rpadM n s w := by
  unfold padM rpadM
  by_cases h : padGood n s w
  · rw [if_pos h, if_pos h, padList_eq h, rpad_eq]
  · rw [if_neg h, if_neg h]

theorem s5 (n s w : Int) : Sx.Spec Try.prog 5 [W.int .i64 n, W.int .i64 s, W.int .i64 w] [] ⟨V.bool true, [], []⟩ := by
  have go : ∀ (a : List (Nat × Bool)) (o : List Bool), whole Try.prog (tab lib16) Try.f5 a 1000000 [] [W.int .i64 n, W.int .i64 s, W.int .i64 w] [] = some (V.bool true, [], o) → (∀ b ∈ o, b = true) → Sx.Spec Try.prog 5 [W.int .i64 n, W.int .i64 s, W.int .i64 w] [] ⟨V.bool true, [], []⟩ :=
    fun a o h1 h2 => spec_of_whole (tab_ok lib16_ok) mixed Try.func5 a 1000000 [] (by kernel_rfl) (by kernel_rfl) (by kernel_rfl) h1 (by kernel_rfl) (by kernel_rfl) h2
  have hsame : (!(!((padM n s w).toList == (rpadM n s w).toList))) = true := by rw [pad_same]; simp
  by_cases h : padGood n s w
  · have hl : padM n s w = strOf (128 :: (List.replicate (padZ n s w) 0 ++ (List.replicate (w - 8).toNat 0 ++ put8 (u64 (u64 n * 8))))) := by
      unfold padM
      rw [if_pos h, padList_eq h]
    have hlen : (padM n s w).size = 1 + w.toNat + padZ n s w := by
      rw [hl, strOf_size]
      obtain ⟨_, _, _, _, h5, _⟩ := h
      simp [put8]
      omega
    have hz := padZ_lt h
    have hlast := padZ_last h
    have hne : (!((padM n s w).toList == ByteArray.empty.toList)) = true := by
      have : ((padM n s w).toList == ByteArray.empty.toList) = false := eqS_ne fun e => by
        have := congrArg ByteArray.size e
        rw [hlen] at this
        have h0 : ByteArray.empty.size = 0 := rfl
        omega
      rw [this]
      rfl
    have h128 : bt (padM n s w) 0 = 128 := by
      rw [bt_eq, bytesOf_bl, hl, bl_strOf]
      rfl
    obtain ⟨h1, h2, h3, h4, h5, h6⟩ := h
    refine go [(17, false), (19, false), (51, true), (55, true), (61, true), (69, true)] [!(!((padM n s w).toList == (rpadM n s w).toList)), !((padM n s w).toList == ByteArray.empty.toList), !(decide (s = 0)), (i64 (n + ((padM n s w).size : Nat))).tmod s == 0,
      true, decide ((0 : Int) < ((padM n s w).size : Nat)), bt (padM n s w) 0 == 128, decide ((((padM n s w).size : Nat) : Int) > w), decide ((((padM n s w).size : Nat) : Int) ≤ i64 (w + s))] (by kernel_rfl) ?_
    refine ocons hsame (ocons hne (ocons (by simp; omega) (ocons ?_ (ocons rfl (ocons (by rw [hlen]; simp; omega) (ocons (by rw [h128]; rfl) (ocons (by rw [hlen]; simp; omega) (ocons ?_ onil))))))))
    · rw [hlen, i64_id (by omega) (by omega), Int.tmod_eq_emod_of_nonneg (by omega)]
      rw [show n + ((1 + w.toNat + padZ n s w : Nat) : Int) = n + ((padZ n s w : Int) + 1) + w by omega, hlast]
      rfl
    · have hzs : (padZ n s w : Int) < s := by
        unfold padZ
        have a3 : 0 ≤ (s - (n + 1 + w) % s) % s := Int.emod_nonneg _ (by omega)
        have a4 : (s - (n + 1 + w) % s) % s < s := Int.emod_lt_of_pos _ (by omega)
        omega
      rw [hlen, i64_id (by omega) (by omega)]
      simp
      omega
  · have hemp : padM n s w = .empty := by unfold padM; rw [if_neg h]
    have he : ((padM n s w).toList == ByteArray.empty.toList) = true := by rw [hemp]; simp
    by_cases c1 : n < 0
    · exact go [(17, false), (19, true), (21, true)] [!(!((padM n s w).toList == (rpadM n s w).toList)), (padM n s w).toList == ByteArray.empty.toList, decide (n < 0)] (by kernel_rfl) (ocons hsame (ocons he (ocons (by simpa using c1) onil)))
    by_cases c2 : n > 1099511627776
    · exact go [(17, false), (19, true), (21, false), (24, true)] [!(!((padM n s w).toList == (rpadM n s w).toList)), (padM n s w).toList == ByteArray.empty.toList, !(decide (n < 0)), decide (n > 1099511627776)] (by kernel_rfl) (ocons hsame (ocons he (ocons (by simpa using c1) (ocons (by simpa using c2) onil))))
    by_cases c3 : s < 16
    · exact go [(17, false), (19, true), (21, false), (24, false), (28, true)] [!(!((padM n s w).toList == (rpadM n s w).toList)), (padM n s w).toList == ByteArray.empty.toList, !(decide (n < 0)), !(decide (n > 1099511627776)), decide (s < 16)] (by kernel_rfl) (ocons hsame (ocons he (ocons (by simpa using c1) (ocons (by simpa using c2) (ocons (by simpa using c3) onil)))))
    by_cases c4 : s > 256
    · exact go [(17, false), (19, true), (21, false), (24, false), (28, false), (32, true)] [!(!((padM n s w).toList == (rpadM n s w).toList)), (padM n s w).toList == ByteArray.empty.toList, !(decide (n < 0)), !(decide (n > 1099511627776)), !(decide (s < 16)), decide (s > 256)] (by kernel_rfl) (ocons hsame (ocons he (ocons (by simpa using c1) (ocons (by simpa using c2) (ocons (by simpa using c3) (ocons (by simpa using c4) onil))))))
    by_cases c5 : w < 8
    · exact go [(17, false), (19, true), (21, false), (24, false), (28, false), (32, false), (36, true)] [!(!((padM n s w).toList == (rpadM n s w).toList)), (padM n s w).toList == ByteArray.empty.toList, !(decide (n < 0)), !(decide (n > 1099511627776)), !(decide (s < 16)), !(decide (s > 256)), decide (w < 8)] (by kernel_rfl) (ocons hsame (ocons he (ocons (by simpa using c1) (ocons (by simpa using c2) (ocons (by simpa using c3) (ocons (by simpa using c4) (ocons (by simpa using c5) onil)))))))
    by_cases c6 : w > 16
    · exact go [(17, false), (19, true), (21, false), (24, false), (28, false), (32, false), (36, false), (40, true)] [!(!((padM n s w).toList == (rpadM n s w).toList)), (padM n s w).toList == ByteArray.empty.toList, !(decide (n < 0)), !(decide (n > 1099511627776)), !(decide (s < 16)), !(decide (s > 256)), !(decide (w < 8)), decide (w > 16)] (by kernel_rfl) (ocons hsame (ocons he (ocons (by simpa using c1) (ocons (by simpa using c2) (ocons (by simpa using c3) (ocons (by simpa using c4) (ocons (by simpa using c5) (ocons (by simpa using c6) onil))))))))
    exact absurd (by unfold padGood; omega) h

def ks5 : List Kind := [.int .i64, .int .i64, .int .i64]
theorem open5 : ∀ l, AllIs ks5 l → Sx.Spec Try.prog 5 (allW l 0) (allB l) ⟨V.bool true, [], []⟩ := by
  intro l h
  match l, h with
  | [.int .i64 n, .int .i64 s, .int .i64 w], _ => exact s5 n s w

set_option maxRecDepth 100000 in
theorem lifted5 (os : Os) (started : os.Started) (H : Type) (enc : TypeId × Value → H) :
    ReturnsInHanded {} Try.checked os 5 .any (Rows.blockPadsSpec.pre6 enc Try.prog Try.f5 Rows.blockPadsRow.domain false) (Rows.blockPadsSpec.post enc Try.prog Try.f5 false true false false) := by
  refine returnsInHanded_of_change (C := Try.checked) (by kernel_rfl) started (by kernel_rfl) Try.func5
    (ChangeSpec.witness6 (enc := enc) (C := Try.checked) false ⟨#[], #[.int .i64 0, .int .i64 0, .int .i64 0], []⟩ 8 (by kernel_rfl) (by kernel_rfl) (by kernel_rfl) (by kernel_rfl)) ?_
  intro W base args ds gs before hval0 hW hcnd _
  exact law_step (ks := ks5) (tb := 4) laid (by kernel_rfl) (by kernel_rfl) rfl (by kernel_rfl) Try.underlying4 (fun ds hds => by
    match ds, hds with
    | [_, _, _], _ => rfl) open5 hval0 hW
theorem closed5 : joinedFacts Try.prog 5 Try.f5 Rows.blockPadsSpec Rows.blockPadsRow = true :=
  joined rfl rfl rfl rfl (by kernel_rfl) (by kernel_rfl) (by kernel_rfl) (by kernel_rfl) (by kernel_rfl) (by kernel_rfl) (by kernel_rfl) (by kernel_rfl) (by kernel_rfl) (by kernel_rfl) rfl (by kernel_rfl) (by kernel_rfl)
theorem named5 : Try.prog.funcNamed Rows.blockPadsRow.func = some 5 := by kernel_rfl
theorem over5 : Rows.blockPadsRow.holds Try.pinned (OpenSpec.ofChange Rows.blockPadsSpec) :=
  OpenClaim.holds_of_wide 5 Try.f5 rfl rfl rfl rfl rfl rfl rfl ⟨rfl, rfl, rfl, rfl, rfl⟩ rfl rfl rfl rfl rfl named5 Try.func5 closed5
    (of_decide_eq_true (by kernel_rfl)) (by unfold Func.isWrapper; first | (rw [if_pos (by decide +kernel)]; kernel_rfl) | (rw [if_neg (by decide +kernel)]; exact ⟨rfl, rfl⟩))
    (fun os started H enc _ => lifted5 os started H enc)
theorem blockPads_proved : Rows.BlockPadsSaid :=
  over5
#print axioms blockPads_proved
end Go.Proofs.Ytmjejlbmcefaoaa
