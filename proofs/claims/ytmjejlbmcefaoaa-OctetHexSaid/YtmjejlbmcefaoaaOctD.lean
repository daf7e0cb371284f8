/- The law OctetHex: digits of any bytes, and back, are the reference's. -/
import Derived.Test.YtmjejlbmcefaoaaOctC
import Derived.Test.YtmjejlbmcefaoaaHead
namespace Go.Proofs.Ytmjejlbmcefaoaa
open Go Sx Go.ChangeShapes Go.WideShapes Go.ChangeAt Go.RowKit

def libh : List (Nat × Entry) := [(57, e57), (58, e58), (59, e59), (60, e60), (61, e61)]
theorem libh_ok : AllOk Try.prog libh := .cons e57_ok (.cons e58_ok (.cons e59_ok (.cons e60_ok (.cons e61_ok (.nil _)))))
theorem s7_1 (s : ByteArray) (x : ByteArray) (h1 : (↑(ByteArray.size s) : Int) > 300) : Sx.Spec Try.prog 7 [W.c (C.v (Value.string s)), W.c (C.v (Value.string x))] [] ⟨V.bool true, [], []⟩ :=
  spec_of_whole (tab_ok libh_ok) mixed Try.func7 [(14, true)] 1000000 [] (by kernel_rfl) (by kernel_rfl) (by kernel_rfl) (by kernel_rfl) (by kernel_rfl) (by kernel_rfl)
    (ocons (decide_eq_true h1) onil)
theorem s7_2 (s : ByteArray) (x : ByteArray) (h1 : ¬(↑(ByteArray.size s) : Int) > 300) (h2 : (↑(ByteArray.size x) : Int) > 300) : Sx.Spec Try.prog 7 [W.c (C.v (Value.string s)), W.c (C.v (Value.string x))] [] ⟨V.bool true, [], []⟩ :=
  spec_of_whole (tab_ok libh_ok) mixed Try.func7 [(14, false), (18, true)] 1000000 [] (by kernel_rfl) (by kernel_rfl) (by kernel_rfl) (by kernel_rfl) (by kernel_rfl) (by kernel_rfl)
    (ocons (ndec h1) (ocons (decide_eq_true h2) onil))
theorem s7_3 (s : ByteArray) (x : ByteArray) (h1 : ¬(↑(ByteArray.size s) : Int) > 300) (h2 : ¬(↑(ByteArray.size x) : Int) > 300) (h3 : ByteArray.size x ≤ 1000000000) (h4 : ByteArray.size s ≤ 1000000000) (h5 : ByteArray.size (strOf (hexI (bytesOf s))) ≤ 1000000000) (h6 : Prod.fst (unhexR (strOf (hexI (bytesOf s)))) = s) (h7 : Prod.snd (unhexR (strOf (hexI (bytesOf s)))) = 0) : Sx.Spec Try.prog 7 [W.c (C.v (Value.string s)), W.c (C.v (Value.string x))] [] ⟨V.bool true, [], []⟩ :=
  spec_of_whole (tab_ok libh_ok) mixed Try.func7 [(14, false), (18, false), (41, true), (46, true), (51, true), (56, true), (60, true)] 1000000 [] (by kernel_rfl) (by kernel_rfl) (by kernel_rfl) (by kernel_rfl) (by kernel_rfl) (by kernel_rfl)
    (ocons (ndec h1) (ocons (ndec h2) (ocons (bleT h3) (ocons (bleT h3) (ocons (bleT h4) (ocons (bleT h5) (ocons (bleT h4) (ocons (bleT h4) (ocons (eqS_of (rfl : strOf (hexI (bytesOf s)) = strOf (hexI (bytesOf s)))) (ocons (eqS_of (rfl : Prod.fst (unhexR x) = Prod.fst (unhexR x))) (ocons (eqI (rfl : Prod.snd (unhexR x) = Prod.snd (unhexR x))) (ocons (eqS_of h6) (ocons (eqI h7) onil)))))))))))))
theorem s7_4 (s : ByteArray) (x : ByteArray) (h1 : ¬(↑(ByteArray.size s) : Int) > 300) (h2 : ¬(↑(ByteArray.size x) : Int) > 300) (h3 : ByteArray.size x ≤ 1000000000) (h4 : ByteArray.size s ≤ 1000000000) (h5 : ByteArray.size (strOf (hexI (bytesOf s))) ≤ 1000000000) (h6 : Prod.fst (unhexR (strOf (hexI (bytesOf s)))) = s) (h7 : ¬Prod.snd (unhexR (strOf (hexI (bytesOf s)))) = 0) : Sx.Spec Try.prog 7 [W.c (C.v (Value.string s)), W.c (C.v (Value.string x))] [] ⟨V.bool false, [], []⟩ :=
  spec_of_whole (tab_ok libh_ok) mixed Try.func7 [(14, false), (18, false), (41, true), (46, true), (51, true), (56, true), (60, false)] 1000000 [] (by kernel_rfl) (by kernel_rfl) (by kernel_rfl) (by kernel_rfl) (by kernel_rfl) (by kernel_rfl)
    (ocons (ndec h1) (ocons (ndec h2) (ocons (bleT h3) (ocons (bleT h3) (ocons (bleT h4) (ocons (bleT h5) (ocons (bleT h4) (ocons (bleT h4) (ocons (eqS_of (rfl : strOf (hexI (bytesOf s)) = strOf (hexI (bytesOf s)))) (ocons (eqS_of (rfl : Prod.fst (unhexR x) = Prod.fst (unhexR x))) (ocons (eqI (rfl : Prod.snd (unhexR x) = Prod.snd (unhexR x))) (ocons (eqS_of h6) (ocons (neI h7) onil)))))))))))))
theorem s7_5 (s : ByteArray) (x : ByteArray) (h1 : ¬(↑(ByteArray.size s) : Int) > 300) (h2 : ¬(↑(ByteArray.size x) : Int) > 300) (h3 : ByteArray.size x ≤ 1000000000) (h4 : ByteArray.size s ≤ 1000000000) (h5 : ByteArray.size (strOf (hexI (bytesOf s))) ≤ 1000000000) (h6 : ¬Prod.fst (unhexR (strOf (hexI (bytesOf s)))) = s) : Sx.Spec Try.prog 7 [W.c (C.v (Value.string s)), W.c (C.v (Value.string x))] [] ⟨V.bool false, [], []⟩ :=
  spec_of_whole (tab_ok libh_ok) mixed Try.func7 [(14, false), (18, false), (41, true), (46, true), (51, true), (56, false)] 1000000 [] (by kernel_rfl) (by kernel_rfl) (by kernel_rfl) (by kernel_rfl) (by kernel_rfl) (by kernel_rfl)
    (ocons (ndec h1) (ocons (ndec h2) (ocons (bleT h3) (ocons (bleT h3) (ocons (bleT h4) (ocons (bleT h5) (ocons (bleT h4) (ocons (bleT h4) (ocons (eqS_of (rfl : strOf (hexI (bytesOf s)) = strOf (hexI (bytesOf s)))) (ocons (eqS_of (rfl : Prod.fst (unhexR x) = Prod.fst (unhexR x))) (ocons (eqI (rfl : Prod.snd (unhexR x) = Prod.snd (unhexR x))) (ocons (neS h6) onil))))))))))))
theorem s7_6 (s : ByteArray) (x : ByteArray) (h1 : ¬(↑(ByteArray.size s) : Int) > 300) (h2 : ¬(↑(ByteArray.size x) : Int) > 300) (h3 : ByteArray.size x ≤ 1000000000) (h4 : ByteArray.size s ≤ 1000000000) (h5 : ByteArray.size (strOf (hexI (bytesOf s))) ≤ 1000000000) (h6 : ¬Prod.snd (unhexR x) = Prod.snd (unhexR x)) : Sx.Spec Try.prog 7 [W.c (C.v (Value.string s)), W.c (C.v (Value.string x))] [] ⟨V.bool false, [], []⟩ :=
  spec_of_whole (tab_ok libh_ok) mixed Try.func7 [(14, false), (18, false), (41, true), (46, true), (51, false)] 1000000 [] (by kernel_rfl) (by kernel_rfl) (by kernel_rfl) (by kernel_rfl) (by kernel_rfl) (by kernel_rfl)
    (ocons (ndec h1) (ocons (ndec h2) (ocons (bleT h3) (ocons (bleT h3) (ocons (bleT h4) (ocons (bleT h5) (ocons (bleT h4) (ocons (bleT h4) (ocons (eqS_of (rfl : strOf (hexI (bytesOf s)) = strOf (hexI (bytesOf s)))) (ocons (eqS_of (rfl : Prod.fst (unhexR x) = Prod.fst (unhexR x))) (ocons (neI h6) onil)))))))))))
theorem s7_7 (s : ByteArray) (x : ByteArray) (h1 : ¬(↑(ByteArray.size s) : Int) > 300) (h2 : ¬(↑(ByteArray.size x) : Int) > 300) (h3 : ByteArray.size x ≤ 1000000000) (h4 : ByteArray.size s ≤ 1000000000) (h5 : ByteArray.size (strOf (hexI (bytesOf s))) ≤ 1000000000) (h6 : ¬Prod.fst (unhexR x) = Prod.fst (unhexR x)) : Sx.Spec Try.prog 7 [W.c (C.v (Value.string s)), W.c (C.v (Value.string x))] [] ⟨V.bool false, [], []⟩ :=
  spec_of_whole (tab_ok libh_ok) mixed Try.func7 [(14, false), (18, false), (41, true), (46, false)] 1000000 [] (by kernel_rfl) (by kernel_rfl) (by kernel_rfl) (by kernel_rfl) (by kernel_rfl) (by kernel_rfl)
    (ocons (ndec h1) (ocons (ndec h2) (ocons (bleT h3) (ocons (bleT h3) (ocons (bleT h4) (ocons (bleT h5) (ocons (bleT h4) (ocons (bleT h4) (ocons (eqS_of (rfl : strOf (hexI (bytesOf s)) = strOf (hexI (bytesOf s)))) (ocons (neS h6) onil))))))))))
theorem s7_8 (s : ByteArray) (x : ByteArray) (h1 : ¬(↑(ByteArray.size s) : Int) > 300) (h2 : ¬(↑(ByteArray.size x) : Int) > 300) (h3 : ByteArray.size x ≤ 1000000000) (h4 : ByteArray.size s ≤ 1000000000) (h5 : ByteArray.size (strOf (hexI (bytesOf s))) ≤ 1000000000) (h6 : ¬strOf (hexI (bytesOf s)) = strOf (hexI (bytesOf s))) : Sx.Spec Try.prog 7 [W.c (C.v (Value.string s)), W.c (C.v (Value.string x))] [] ⟨V.bool false, [], []⟩ :=
  spec_of_whole (tab_ok libh_ok) mixed Try.func7 [(14, false), (18, false), (41, false)] 1000000 [] (by kernel_rfl) (by kernel_rfl) (by kernel_rfl) (by kernel_rfl) (by kernel_rfl) (by kernel_rfl)
    (ocons (ndec h1) (ocons (ndec h2) (ocons (bleT h3) (ocons (bleT h3) (ocons (bleT h4) (ocons (bleT h5) (ocons (bleT h4) (ocons (bleT h4) (ocons (neS h6) onil)))))))))

theorem vlu_dig {n : Int} (h : 0 ≤ n) (h' : n < 16) : vlu (dig n) = n := by
  have := dig_range ⟨h, h'⟩
  have hd := dgv_dig h h'
  have := dig_dgv (n := dig n) (by omega) (by omega) (by omega)
  rw [this.2.1, hd]
theorem hex_back : ∀ l, bytesOk l → pr (hexI l) = l
  | [], _ => rfl
  | a :: l, h => by
    have ha := h a (by simp)
    have ih := hex_back l (fun n hn => h n (by simp [hn]))
    have e : hexI (a :: l) = dig (a / 16) :: dig (a % 16) :: hexI l := rfl
    rw [e, pr, ih, vlu_dig (by omega) (by omega), vlu_dig (by omega) (by omega)]
    congr 1
    omega
theorem unhex_hex (s : ByteArray) : unhexR (strOf (hexI (bytesOf s))) = (s, 0) := by
  have hb : bytesOf (strOf (hexI (bytesOf s))) = hexI (bytesOf s) := bytesOf_strOf (hexI_range (bytesOf_range s))
  unfold unhexR
  rw [hb, hex_back _ (bytesOf_range s), if_pos rfl, bytes_back]
theorem s7 (s x : ByteArray) : Sx.Spec Try.prog 7 [.c (.v (.string s)), .c (.v (.string x))] [] ⟨V.bool true, [], []⟩ := by
  by_cases c1 : (s.size : Int) > 300
  · exact s7_1 s x c1
  by_cases c2 : (x.size : Int) > 300
  · exact s7_2 s x c1 c2
  have hu := unhex_hex s
  have hsz : (strOf (hexI (bytesOf s))).size ≤ 1000000000 := by rw [strOf_size, hexI_length, bytesOf_length]; omega
  exact s7_3 s x c1 c2 (by omega) (by omega) hsz (by rw [hu]) (by rw [hu])

def ks7 : List Kind := [.str, .str]
theorem open7 : ∀ l, AllIs ks7 l → Sx.Spec Try.prog 7 (allW l 0) (allB l) ⟨V.bool true, [], []⟩ := by
  intro l h
  match l, h with
  | [.str s, .str x], _ => exact s7 s x

set_option maxRecDepth 100000 in
theorem lifted7 (os : Os) (started : os.Started) (H : Type) (enc : TypeId × Value → H) :
    ReturnsInHanded {} Try.checked os 7 .any (Rows.octetHexSpec.pre6 enc Try.prog Try.f7 Rows.octetHexRow.domain false) (Rows.octetHexSpec.post enc Try.prog Try.f7 false true false false) := by
  refine returnsInHanded_of_change (C := Try.checked) (by kernel_rfl) started (by kernel_rfl) Try.func7
    (ChangeSpec.witness6 (enc := enc) (C := Try.checked) false ⟨#[], #[.string ⟨#[]⟩, .string ⟨#[]⟩], []⟩ 8 (by kernel_rfl) (by kernel_rfl) (by kernel_rfl) (by kernel_rfl)) ?_
  intro W base args ds gs before hval0 hW hcnd _
  exact law_step (ks := ks7) (tb := 4) laid (by kernel_rfl) (by kernel_rfl) rfl (by kernel_rfl) Try.underlying4 (fun ds hds => by
    match ds, hds with
    | [_, _], _ => rfl) open7 hval0 hW
theorem closed7 : joinedFacts Try.prog 7 Try.f7 Rows.octetHexSpec Rows.octetHexRow = true :=
  joined rfl rfl rfl rfl (by kernel_rfl) (by kernel_rfl) (by kernel_rfl) (by kernel_rfl) (by kernel_rfl) (by kernel_rfl) (by kernel_rfl) (by kernel_rfl) (by kernel_rfl) (by kernel_rfl) rfl (by kernel_rfl) (by kernel_rfl)
theorem named7 : Try.prog.funcNamed Rows.octetHexRow.func = some 7 := by kernel_rfl
theorem over7 : Rows.octetHexRow.holds Try.pinned (OpenSpec.ofChange Rows.octetHexSpec) :=
  OpenClaim.holds_of_wide 7 Try.f7 rfl rfl rfl rfl rfl rfl rfl ⟨rfl, rfl, rfl, rfl, rfl⟩ rfl rfl rfl rfl rfl named7 Try.func7 closed7
    (of_decide_eq_true (by kernel_rfl)) (by unfold Func.isWrapper; first | (rw [if_pos (by decide +kernel)]; kernel_rfl) | (rw [if_neg (by decide +kernel)]; exact ⟨rfl, rfl⟩))
    (fun os started H enc _ => lifted7 os started H enc)
theorem octetHex_proved : Rows.OctetHexSaid :=
  over7
#print axioms octetHex_proved
end Go.Proofs.Ytmjejlbmcefaoaa
