/- Digits and bytes: what the inner functions of octet and its reference compute. -/
import Derived.Test.YtmjejlbmcefaoaaHexW
namespace Go.Proofs.Ytmjejlbmcefaoaa
open Go Sx

def dgv (n : Int) : Int := if 48 ≤ n ∧ n ≤ 57 then n - 48 else if 97 ≤ n ∧ n ≤ 102 then n - 87 else 16
def vlu (n : Int) : Int := if 97 ≤ n ∧ n ≤ 102 then n - 87 else n % 16
def e196 : Entry := fun args ms => match args, ms with
  | [.c (.v (.int .u8 n))], [] => some (⟨V.int .u8 (dig n), [], []⟩, [decide (0 ≤ n), decide (n < 16)])
  | _, _ => none
def e192 : Entry := fun args ms => match args, ms with
  | [.c (.v (.int .u8 n))], [] => some (⟨V.int .u8 (dgv n), [], []⟩, [decide (0 ≤ n), decide (n < 256)])
  | _, _ => none
def e193 : Entry := fun args ms => match args, ms with
  | [.c (.v (.int .u8 n))], [] => some (⟨V.int .u8 (vlu n), [], []⟩, [decide (0 ≤ n), decide (n < 256)])
  | _, _ => none
def e61 : Entry := fun args ms => match args, ms with
  | [.c (.v (.string x))], [] => some (⟨V.str (strOf (hexI (bytesOf x))), [], []⟩, [Nat.ble x.size 1000000000])
  | _, _ => none
def libn : List (Nat × Entry) := []
theorem libn_ok : AllOk Try.prog libn := .nil _
def liba : List (Nat × Entry) := [(192, e192), (193, e193), (196, e196)]
def libb : List (Nat × Entry) := (61, e61) :: liba
theorem s196_1 (n : Int) (h1 : n < 10) : Sx.Spec Try.prog 196 [W.int IntKind.u8 n] [] ⟨V.int IntKind.u8 (IntKind.wrap IntKind.u8 (48 + n)), [], []⟩ :=
  spec_of_whole (tab_ok libn_ok) mixed Try.func196 [(4, true)] 1000000 [] (by kernel_rfl) (by kernel_rfl) (by kernel_rfl) (by kernel_rfl) (by kernel_rfl) (by kernel_rfl)
    (ocons (decide_eq_true h1) onil)
theorem s196_2 (n : Int) (h1 : ¬n < 10) : Sx.Spec Try.prog 196 [W.int IntKind.u8 n] [] ⟨V.int IntKind.u8 (IntKind.wrap IntKind.u8 (IntKind.wrap IntKind.u8 (97 + n) - 10)), [], []⟩ :=
  spec_of_whole (tab_ok libn_ok) mixed Try.func196 [(4, false)] 1000000 [] (by kernel_rfl) (by kernel_rfl) (by kernel_rfl) (by kernel_rfl) (by kernel_rfl) (by kernel_rfl)
    (ocons (ndec h1) onil)
theorem s192_1 (n : Int) (h1 : n ≥ 48) (h2 : n ≤ 57) : Sx.Spec Try.prog 192 [W.int IntKind.u8 n] [] ⟨V.int IntKind.u8 (IntKind.wrap IntKind.u8 (n - 48)), [], []⟩ :=
  spec_of_whole (tab_ok libn_ok) mixed Try.func192 [(6, true), (3, true)] 1000000 [] (by kernel_rfl) (by kernel_rfl) (by kernel_rfl) (by kernel_rfl) (by kernel_rfl) (by kernel_rfl)
    (ocons (decide_eq_true h1) (ocons (decide_eq_true h2) onil))
theorem s192_2 (n : Int) (h1 : n ≥ 48) (h2 : ¬n ≤ 57) (h3 : n ≥ 97) (h4 : n ≤ 102) : Sx.Spec Try.prog 192 [W.int IntKind.u8 n] [] ⟨V.int IntKind.u8 (IntKind.wrap IntKind.u8 (IntKind.wrap IntKind.u8 (n - 97) + 10)), [], []⟩ :=
  spec_of_whole (tab_ok libn_ok) mixed Try.func192 [(6, true), (3, false), (15, true), (12, true)] 1000000 [] (by kernel_rfl) (by kernel_rfl) (by kernel_rfl) (by kernel_rfl) (by kernel_rfl) (by kernel_rfl)
    (ocons (decide_eq_true h1) (ocons (ndec h2) (ocons (decide_eq_true h3) (ocons (decide_eq_true h4) onil))))
theorem s192_3 (n : Int) (h1 : n ≥ 48) (h2 : ¬n ≤ 57) (h3 : n ≥ 97) (h4 : ¬n ≤ 102) : Sx.Spec Try.prog 192 [W.int IntKind.u8 n] [] ⟨V.int IntKind.u8 16, [], []⟩ :=
  spec_of_whole (tab_ok libn_ok) mixed Try.func192 [(6, true), (3, false), (15, true), (12, false)] 1000000 [] (by kernel_rfl) (by kernel_rfl) (by kernel_rfl) (by kernel_rfl) (by kernel_rfl) (by kernel_rfl)
    (ocons (decide_eq_true h1) (ocons (ndec h2) (ocons (decide_eq_true h3) (ocons (ndec h4) onil))))
theorem s192_4 (n : Int) (h1 : n ≥ 48) (h2 : ¬n ≤ 57) (h3 : ¬n ≥ 97) : Sx.Spec Try.prog 192 [W.int IntKind.u8 n] [] ⟨V.int IntKind.u8 16, [], []⟩ :=
  spec_of_whole (tab_ok libn_ok) mixed Try.func192 [(6, true), (3, false), (15, false)] 1000000 [] (by kernel_rfl) (by kernel_rfl) (by kernel_rfl) (by kernel_rfl) (by kernel_rfl) (by kernel_rfl)
    (ocons (decide_eq_true h1) (ocons (ndec h2) (ocons (ndec h3) onil)))
theorem s192_5 (n : Int) (h1 : ¬n ≥ 48) (h2 : n ≥ 97) (h3 : n ≤ 102) : Sx.Spec Try.prog 192 [W.int IntKind.u8 n] [] ⟨V.int IntKind.u8 (IntKind.wrap IntKind.u8 (IntKind.wrap IntKind.u8 (n - 97) + 10)), [], []⟩ :=
  spec_of_whole (tab_ok libn_ok) mixed Try.func192 [(6, false), (15, true), (12, true)] 1000000 [] (by kernel_rfl) (by kernel_rfl) (by kernel_rfl) (by kernel_rfl) (by kernel_rfl) (by kernel_rfl)
    (ocons (ndec h1) (ocons (decide_eq_true h2) (ocons (decide_eq_true h3) onil)))
theorem s192_6 (n : Int) (h1 : ¬n ≥ 48) (h2 : n ≥ 97) (h3 : ¬n ≤ 102) : Sx.Spec Try.prog 192 [W.int IntKind.u8 n] [] ⟨V.int IntKind.u8 16, [], []⟩ :=
  spec_of_whole (tab_ok libn_ok) mixed Try.func192 [(6, false), (15, true), (12, false)] 1000000 [] (by kernel_rfl) (by kernel_rfl) (by kernel_rfl) (by kernel_rfl) (by kernel_rfl) (by kernel_rfl)
    (ocons (ndec h1) (ocons (decide_eq_true h2) (ocons (ndec h3) onil)))
theorem s192_7 (n : Int) (h1 : ¬n ≥ 48) (h2 : ¬n ≥ 97) : Sx.Spec Try.prog 192 [W.int IntKind.u8 n] [] ⟨V.int IntKind.u8 16, [], []⟩ :=
  spec_of_whole (tab_ok libn_ok) mixed Try.func192 [(6, false), (15, false)] 1000000 [] (by kernel_rfl) (by kernel_rfl) (by kernel_rfl) (by kernel_rfl) (by kernel_rfl) (by kernel_rfl)
    (ocons (ndec h1) (ocons (ndec h2) onil))
theorem s193_1 (n : Int) (h1 : n ≥ 97) (h2 : n ≤ 102) : Sx.Spec Try.prog 193 [W.int IntKind.u8 n] [] ⟨V.int IntKind.u8 (IntKind.wrap IntKind.u8 (IntKind.wrap IntKind.u8 (n - 97) + 10)), [], []⟩ :=
  spec_of_whole (tab_ok libn_ok) mixed Try.func193 [(5, true), (8, true)] 1000000 [] (by kernel_rfl) (by kernel_rfl) (by kernel_rfl) (by kernel_rfl) (by kernel_rfl) (by kernel_rfl)
    (ocons (decide_eq_true h1) (ocons (decide_eq_true h2) onil))
theorem s193_2 (n : Int) (h1 : n ≥ 97) (h2 : ¬n ≤ 102) : Sx.Spec Try.prog 193 [W.int IntKind.u8 n] [] ⟨V.int IntKind.u8 (Int.tmod n 16), [], []⟩ :=
  spec_of_whole (tab_ok libn_ok) mixed Try.func193 [(5, true), (8, false)] 1000000 [] (by kernel_rfl) (by kernel_rfl) (by kernel_rfl) (by kernel_rfl) (by kernel_rfl) (by kernel_rfl)
    (ocons (decide_eq_true h1) (ocons (ndec h2) (ocons rfl onil)))
theorem s193_3 (n : Int) (h1 : ¬n ≥ 97) : Sx.Spec Try.prog 193 [W.int IntKind.u8 n] [] ⟨V.int IntKind.u8 (Int.tmod n 16), [], []⟩ :=
  spec_of_whole (tab_ok libn_ok) mixed Try.func193 [(5, false)] 1000000 [] (by kernel_rfl) (by kernel_rfl) (by kernel_rfl) (by kernel_rfl) (by kernel_rfl) (by kernel_rfl)
    (ocons (ndec h1) (ocons rfl onil))

theorem tmod_pos {a b : Int} (h : 0 ≤ a) : a.tmod b = a % b := Int.tmod_eq_emod_of_nonneg h
theorem tdiv_pos {a b : Int} (h : 0 ≤ a) : a.tdiv b = a / b := Int.tdiv_eq_ediv_of_nonneg h
theorem w8_id {n : Int} (h0 : 0 ≤ n) (h1 : n < 256) : IntKind.wrap .u8 n = n := by rw [wrap_u8]; omega
theorem i64w {n : Int} (h0 : -9223372036854775808 ≤ n) (h1 : n ≤ 9223372036854775807) : IntKind.wrap .i64 n = n := i64_id h0 h1
theorem i64s (j : Nat) (h : j ≤ 1000000000000) : IntKind.wrap .i64 ((j : Int) + 1) = ((j + 1 : Nat) : Int) := by rw [i64w] <;> omega
theorem i64t (j : Nat) (h : j ≤ 1000000000000) : IntKind.wrap .i64 ((j : Int) + 2) = ((j + 2 : Nat) : Int) := by rw [i64w] <;> omega
theorem bt_range (x : ByteArray) (i : Int) : 0 ≤ bt x i ∧ bt x i < 256 := by
  rw [bt_eq]
  rcases Nat.lt_or_ge i.toNat (bytesOf x).length with h | h
  · rw [List.getD_eq_getElem?_getD, List.getElem?_eq_getElem h]
    exact bytesOf_range x _ (List.getElem_mem h)
  · rw [List.getD_eq_getElem?_getD, List.getElem?_eq_none h]
    exact ⟨Int.le_refl 0, by decide⟩
theorem take_bt (x : ByteArray) (j : Nat) (h : j < x.size) : (bytesOf x).take (j + 1) = (bytesOf x).take j ++ [bt x (j : Int)] := by
  rw [List.take_add_one, bt_eq, Int.toNat_natCast, List.getD_eq_getElem?_getD]
  rw [List.getElem?_eq_getElem (by rw [bytesOf_length]; exact h)]
  rfl
theorem take_all (x : ByteArray) : (bytesOf x).take x.size = bytesOf x := List.take_of_length_le (by rw [bytesOf_length]; exact Nat.le_refl _)

theorem s196 (n : Int) (h0 : 0 ≤ n) (h : n < 16) : Sx.Spec Try.prog 196 [W.int .u8 n] [] ⟨V.int .u8 (dig n), [], []⟩ := by
  by_cases c : n < 10
  · refine spec_res (s196_1 n c) ?_
    rw [w8_id (by omega) (by omega)]; simp [dig, c]
  · refine spec_res (s196_2 n c) ?_
    rw [w8_id (n := 97 + n) (by omega) (by omega), w8_id (by omega) (by omega)]
    have : 97 + n - 10 = 87 + n := by omega
    simp [dig, c, this]
theorem e196_ok : EntryOk Try.prog 196 e196 := by
  intro args ms r obs h ho
  unfold e196 at h
  split at h
  · cases h; exact s196 _ (by simpa using ohead ho) (by simpa using ohead (otail ho))
  · cases h
theorem s192 (n : Int) (h0 : 0 ≤ n) (h : n < 256) : Sx.Spec Try.prog 192 [W.int .u8 n] [] ⟨V.int .u8 (dgv n), [], []⟩ := by
  by_cases c1 : n ≥ 48
  · by_cases c2 : n ≤ 57
    · refine spec_res (s192_1 n c1 c2) ?_
      rw [w8_id (by omega) (by omega)]; simp [dgv, c1, c2]
    · by_cases c3 : n ≥ 97
      · by_cases c4 : n ≤ 102
        · refine spec_res (s192_2 n c1 c2 c3 c4) ?_
          rw [w8_id (n := n - 97) (by omega) (by omega), w8_id (by omega) (by omega)]
          have : n - 97 + 10 = n - 87 := by omega
          simp [dgv, c2, c3, c4, this]
        · refine spec_res (s192_3 n c1 c2 c3 c4) ?_
          simp [dgv, c2, c4]
      · refine spec_res (s192_4 n c1 c2 c3) ?_
        simp [dgv, c2]; omega
  · have c3 : ¬n ≥ 97 := by omega
    refine spec_res (s192_7 n c1 c3) ?_
    simp [dgv]; omega
theorem e192_ok : EntryOk Try.prog 192 e192 := by
  intro args ms r obs h ho
  unfold e192 at h
  split at h
  · cases h; exact s192 _ (by simpa using ohead ho) (by simpa using ohead (otail ho))
  · cases h
theorem s193 (n : Int) (h0 : 0 ≤ n) (h : n < 256) : Sx.Spec Try.prog 193 [W.int .u8 n] [] ⟨V.int .u8 (vlu n), [], []⟩ := by
  by_cases c3 : n ≥ 97
  · by_cases c4 : n ≤ 102
    · refine spec_res (s193_1 n c3 c4) ?_
      rw [w8_id (n := n - 97) (by omega) (by omega), w8_id (by omega) (by omega)]
      have : n - 97 + 10 = n - 87 := by omega
      simp [vlu, c3, c4, this]
    · refine spec_res (s193_2 n c3 c4) ?_
      rw [tmod_pos h0]; simp [vlu, c4]
  · refine spec_res (s193_3 n c3) ?_
    rw [tmod_pos h0]; simp [vlu]; omega
theorem e193_ok : EntryOk Try.prog 193 e193 := by
  intro args ms r obs h ho
  unfold e193 at h
  split at h
  · cases h; exact s193 _ (by simpa using ohead ho) (by simpa using ohead (otail ho))
  · cases h
theorem liba_ok : AllOk Try.prog liba := .cons e192_ok (.cons e193_ok (.cons e196_ok (.nil _)))

/-! Hex -/
noncomputable def s61k0 : List Item := kAt Try.prog (tab liba) Try.f61 [] 0 [W.c (C.v (Value.string ByteArray.empty))] []
noncomputable def s61st0 (x : ByteArray) (t4 : Int) (b0_0 : Nat) (b0_1 : List Int) : Cfg := cfg s61k0 [0, 3, 4] [V.str x, V.w (W.c (C.own 0)), V.int IntKind.i64 t4] [Blk.mk 5 (Mode.own b0_0) (K.ints IntKind.u8 b0_1)]
theorem s61_1 {ρ : Env} {w : World} {r : Res} (x : ByteArray) (hg : G (mkX Try.prog (tab liba) Try.f61 [] ρ w r) (s61st0 (x) (0) (0) ([]))) : G (mkX Try.prog (tab liba) Try.f61 [] ρ w r) (cfg [.code (Try.f61.body.getD .skip)] (List.range 1) ([W.c (C.v (Value.string x))].map V.w) []) :=
  G.seg (X := mkX Try.prog (tab liba) Try.f61 [] ρ w r) ⟨tab_ok liba_ok, mixed⟩ [] 1000000 0 [0, 3, 4] [] (k := s61k0) (vs := [V.str x, V.w (W.c (C.v (Value.slice none 0 0))), V.int IntKind.i64 0]) (bs := []) (by kernel_rfl) (by kernel_rfl)
    onil (G.nilOwn 1 5 (K.ints IntKind.u8 []) rfl rfl rfl (Nat.le_of_ble_eq_true rfl) hg)
theorem s61_2 {ρ : Env} {w : World} {r : Res} (x : ByteArray) (t4 : Int) (b0_0 : Nat) (b0_1 : List Int) (h1 : t4 < (↑(ByteArray.size x) : Int)) (h2 : 0 ≤ t4) (h3 : IntKind.wrap IntKind.u8 (Int.tdiv (bt x t4) 16) < 16) (h4 : Int.tmod (bt x t4) 16 < 16) (h5 : (b0_0 + 2) * 1 ≤ 1099511627776) (h6 : b0_0 + 2 ≤ 1099511627776) (hg : G (mkX Try.prog (tab liba) Try.f61 [] ρ w r) (s61st0 (x) (IntKind.wrap IntKind.i64 (t4 + 1)) (b0_0 + 2) (b0_1 ++ [dig (IntKind.wrap IntKind.u8 (Int.tdiv (bt x t4) 16)), dig (Int.tmod (bt x t4) 16)]))) : G (mkX Try.prog (tab liba) Try.f61 [] ρ w r) (s61st0 x t4 b0_0 b0_1) :=
  G.seg (X := mkX Try.prog (tab liba) Try.f61 [] ρ w r) ⟨tab_ok liba_ok, mixed⟩ [(8, true)] 1000000 0 [0, 3, 4] [(65, none)] (k := s61k0) (vs := [V.str x, V.w (W.c (C.own 0)), V.int IntKind.i64 (IntKind.wrap IntKind.i64 (t4 + 1))]) (bs := [Blk.mk 5 (Mode.own (b0_0 + 2)) (K.ints IntKind.u8 (b0_1 ++ [dig (IntKind.wrap IntKind.u8 (Int.tdiv (bt x t4) 16)), dig (Int.tmod (bt x t4) 16)]))]) (by kernel_rfl) (by kernel_rfl)
    (ocons (decide_eq_true h1) (ocons (decide_eq_true h2) (ocons (decide_eq_true h1) (ocons rfl (ocons rfl (ocons (decide_eq_true h3) (ocons (decide_eq_true h2) (ocons (decide_eq_true h1) (ocons rfl (ocons rfl (ocons (decide_eq_true h4) (ocons (bleT h5) (ocons (bleT h6) (ocons rfl onil)))))))))))))) hg
theorem s61_3 {ρ : Env} {w : World} (x : ByteArray) (t4 : Int) (b0_0 : Nat) (b0_1 : List Int) (h1 : ¬t4 < (↑(ByteArray.size x) : Int)) (h2 : 0 + b0_0 ≤ List.length b0_1) : G (mkX Try.prog (tab liba) Try.f61 [] ρ w ⟨V.str (strOf (List.take b0_0 b0_1)), [], []⟩) (s61st0 x t4 b0_0 b0_1) :=
  G.ends (tab_ok liba_ok) mixed [(8, false)] 1000000 [] (by kernel_rfl) (by kernel_rfl) (by kernel_rfl) (by kernel_rfl)
    (ocons (ndec h1) (ocons (bleT h2) onil))

theorem s61 (x : ByteArray) (h : x.size ≤ 1000000000) : Sx.Spec Try.prog 61 [.c (.v (.string x))] [] ⟨V.str (strOf (hexI (bytesOf x))), [], []⟩ := by
  refine spec_body (tab := tab liba) Try.func61 (by kernel_rfl) (by kernel_rfl) (by kernel_rfl) fun ρ w => ?_
  refine s61_1 x ?_
  refine G.loop (fun j => s61st0 x (j : Int) (2 * j) (hexI ((bytesOf x).take j))) x.size (fun j hj hg => ?_) ?_
  · have hb := bt_range x (j : Int)
    refine s61_2 x (j : Int) (2 * j) _ (by omega) (by omega) ?_ ?_ (by omega) (by omega) ?_
    · rw [tdiv_pos hb.1, w8_id (by omega) (by omega)]; omega
    · rw [tmod_pos hb.1]; omega
    · rw [i64s j (by omega), tdiv_pos hb.1, w8_id (by omega) (by omega), tmod_pos hb.1]
      rw [take_bt x j hj, hexI_append] at hg
      exact hg
  · have := s61_3 (ρ := ρ) (w := w) x (x.size : Int) (2 * x.size) (hexI (bytesOf x)) (by omega) (by rw [hexI_length, bytesOf_length]; omega)
    rw [List.take_of_length_le (by rw [hexI_length, bytesOf_length]; exact Nat.le_refl _)] at this
    show G _ (s61st0 x (x.size : Int) (2 * x.size) (hexI ((bytesOf x).take x.size)))
    rw [take_all]
    exact this
theorem e61_ok : EntryOk Try.prog 61 e61 := by
  intro args ms r obs h ho
  unfold e61 at h
  split at h
  · cases h; exact s61 _ (by simpa using ohead ho)
  · cases h
theorem libb_ok : AllOk Try.prog libb := .cons e61_ok liba_ok

/-! Unhex -/
def pr : List Int → List Int
  | a :: b :: l => (16 * vlu a + vlu b) % 256 :: pr l
  | _ => []
def bytesOk (l : List Int) : Prop := ∀ n ∈ l, 0 ≤ n ∧ n < 256
theorem dig_dgv {n : Int} (h : 0 ≤ n) (h' : n < 256) (hd : dgv n ≤ 15) : dig (dgv n) = n ∧ vlu n = dgv n ∧ 0 ≤ dgv n := by
  unfold dgv at hd
  split at hd
  · rename_i c
    have e : dgv n = n - 48 := by unfold dgv; rw [if_pos c]
    rw [e]
    refine ⟨?_, ?_, by omega⟩
    · unfold dig; rw [if_pos (by omega)]; omega
    · unfold vlu; rw [if_neg (by omega)]; omega
  · rename_i c
    split at hd
    · rename_i c2
      have e : dgv n = n - 87 := by unfold dgv; rw [if_neg c, if_pos c2]
      rw [e]
      refine ⟨?_, ?_, by omega⟩
      · unfold dig; rw [if_neg (by omega)]; omega
      · unfold vlu; rw [if_pos (by omega)]
    · omega
theorem dgv_dig {n : Int} (h : 0 ≤ n) (h' : n < 16) : dgv (dig n) = n := by
  unfold dig
  split
  · unfold dgv; rw [if_pos (by omega)]; omega
  · unfold dgv; rw [if_neg (by omega), if_pos (by omega)]; omega
theorem vlu_range {n : Int} (h : 0 ≤ n) : 0 ≤ vlu n ∧ vlu n < 16 := by unfold vlu; split <;> omega
theorem pr_range : ∀ l, bytesOk (pr l)
  | [] => by intro n hn; simp [pr] at hn
  | [_] => by intro n hn; simp [pr] at hn
  | a :: b :: l => by
    intro n hn
    simp only [pr, List.mem_cons] at hn
    rcases hn with rfl | hn
    · omega
    · exact pr_range l n hn
theorem pr_hex : ∀ l, bytesOk l → (hexI (pr l) = l ↔ l.length % 2 = 0 ∧ ∀ a ∈ l, dgv a ≤ 15)
  | [], _ => by simp [pr, hexI]
  | [a], _ => by simp [pr, hexI]
  | a :: b :: l, h => by
    have ih := pr_hex l (fun n hn => h n (by simp [hn]))
    have ha := h a (by simp)
    have hb := h b (by simp)
    have va := vlu_range ha.1
    have vb := vlu_range hb.1
    have e1 : (16 * vlu a + vlu b) % 256 / 16 = vlu a := by omega
    have e2 : (16 * vlu a + vlu b) % 256 % 16 = vlu b := by omega
    have e : hexI (pr (a :: b :: l)) = dig (vlu a) :: dig (vlu b) :: hexI (pr l) := by
      show [dig ((16 * vlu a + vlu b) % 256 / 16), dig ((16 * vlu a + vlu b) % 256 % 16)] ++ hexI (pr l) = _
      rw [e1, e2]; rfl
    rw [e]
    simp only [List.cons.injEq, List.length_cons, List.mem_cons, forall_eq_or_imp]
    constructor
    · rintro ⟨h1, h2, h3⟩
      have := ih.1 h3
      refine ⟨by omega, ?_, ?_, this.2⟩
      · rw [← h1, dgv_dig va.1 va.2]; omega
      · rw [← h2, dgv_dig vb.1 vb.2]; omega
    · rintro ⟨h1, h2, h3, h4⟩
      refine ⟨?_, ?_, ih.2 ⟨by omega, h4⟩⟩
      · have := dig_dgv ha.1 ha.2 h2; rw [this.2.1, this.1]
      · have := dig_dgv hb.1 hb.2 h3; rw [this.2.1, this.1]
theorem pr_append : ∀ (l : List Int) (a b : Int), l.length % 2 = 0 → pr (l ++ [a, b]) = pr l ++ [(16 * vlu a + vlu b) % 256]
  | [], a, b, _ => rfl
  | [_], _, _, h => by simp at h
  | c :: d :: l, a, b, h => by
    have := pr_append l a b (by simp at h; omega)
    simp only [List.cons_append, pr, this]
theorem pr_length : ∀ l : List Int, (pr l).length = l.length / 2
  | [] => rfl
  | [_] => by simp [pr]
  | a :: b :: l => by simp only [pr, List.length_cons, pr_length l]; omega
theorem pr_odd : ∀ (l : List Int) (a : Int), l.length % 2 = 0 → pr (l ++ [a]) = pr l
  | [], a, _ => rfl
  | [_], _, h => by simp at h
  | c :: d :: l, a, h => by
    have := pr_odd l a (by simp at h; omega)
    simp only [List.cons_append, pr, this]

def unhexR (x : ByteArray) : ByteArray × Int := if hexI (pr (bytesOf x)) = bytesOf x then (strOf (pr (bytesOf x)), 0) else (.empty, 6)
theorem take_bt2 (x : ByteArray) (j : Nat) (h : j + 1 < x.size) : (bytesOf x).take (j + 2) = (bytesOf x).take j ++ [bt x (j : Int), bt x ((j + 1 : Nat) : Int)] := by
  rw [take_bt x (j + 1) h, take_bt x j (by omega), List.append_assoc]; rfl
theorem mem_bt (x : ByteArray) (j : Nat) (h : j < x.size) : bt x (j : Int) ∈ bytesOf x := by
  have : bt x (j : Int) ∈ (bytesOf x).take (j + 1) := by rw [take_bt x j h]; simp
  exact List.mem_of_mem_take this
def unhexRes (q : ByteArray × Int) : Res := ⟨.tup [.c (.v (.string q.1)), W.int .i64 q.2], [], []⟩
noncomputable def s58k0 : List Item := kAt Try.prog (tab liba) Try.f58 [(11, false)] 0 [W.c (C.v (Value.string ByteArray.empty))] []
noncomputable def s58st0 (x : ByteArray) (t5 : Int) (b0_0 : Nat) (b0_1 : List Int) : Cfg := cfg s58k0 [0, 4, 5] [V.str x, V.w (W.c (C.own 0)), V.int IntKind.i64 t5] [Blk.mk 5 (Mode.own b0_0) (K.ints IntKind.u8 b0_1)]
theorem s58_1 (x : ByteArray) (h1 : ¬Int.tmod (↑(ByteArray.size x) : Int) 2 = 0) : Sx.Spec Try.prog 58 [W.c (C.v (Value.string x))] [] ⟨V.tup [W.c (C.v (Value.string (ByteArray.mk #[]))), W.int IntKind.i64 6], [], []⟩ :=
  spec_of_whole (tab_ok liba_ok) mixed Try.func58 [(11, true)] 1000000 [] (by kernel_rfl) (by kernel_rfl) (by kernel_rfl) (by kernel_rfl) (by kernel_rfl) (by kernel_rfl)
    (ocons rfl (ocons (bneI h1) onil))
theorem s58_2 {ρ : Env} {w : World} {r : Res} (x : ByteArray) (h1 : Int.tmod (↑(ByteArray.size x) : Int) 2 = 0) (h2 : 0 ≤ IntKind.wrap IntKind.i64 (Int.tdiv (↑(ByteArray.size x) : Int) 2)) (h3 : IntKind.wrap IntKind.i64 (Int.tdiv (↑(ByteArray.size x) : Int) 2) ≤ 1099511627776) (hg : G (mkX Try.prog (tab liba) Try.f58 [] ρ w r) (s58st0 (x) (0) (0) ([]))) : G (mkX Try.prog (tab liba) Try.f58 [] ρ w r) (cfg [.code (Try.f58.body.getD .skip)] (List.range 1) ([W.c (C.v (Value.string x))].map V.w) []) :=
  G.seg (X := mkX Try.prog (tab liba) Try.f58 [] ρ w r) ⟨tab_ok liba_ok, mixed⟩ [(11, false)] 1000000 0 [0, 4, 5] [(36, none)] (k := s58k0) (vs := [V.str x, V.w (W.c (C.own 0)), V.int IntKind.i64 0]) (bs := [Blk.mk 5 (Mode.own 0) (K.ints IntKind.u8 [])]) (by kernel_rfl) (by kernel_rfl)
    (ocons rfl (ocons (nbneI h1) (ocons rfl (ocons rfl (ocons (decide_eq_true h2) (ocons (decide_eq_true h3) onil)))))) hg
theorem s58_3 {ρ : Env} {w : World} (x : ByteArray) (t5 : Int) (b0_0 : Nat) (b0_1 : List Int) (h1 : t5 < (↑(ByteArray.size x) : Int)) (h2 : 0 ≤ t5) (h3 : bt x t5 < 256) (h4 : 0 ≤ IntKind.wrap IntKind.i64 (t5 + 1)) (h5 : IntKind.wrap IntKind.i64 (t5 + 1) < (↑(ByteArray.size x) : Int)) (h6 : bt x (IntKind.wrap IntKind.i64 (t5 + 1)) < 256) (h7 : dgv (bt x t5) > 15) : G (mkX Try.prog (tab liba) Try.f58 [] ρ w ⟨V.tup [W.c (C.v (Value.string (ByteArray.mk #[]))), W.int IntKind.i64 6], [], []⟩) (s58st0 x t5 b0_0 b0_1) :=
  G.ends (tab_ok liba_ok) mixed [(19, true), (33, true)] 1000000 [] (by kernel_rfl) (by kernel_rfl) (by kernel_rfl) (by kernel_rfl)
    (ocons (decide_eq_true h1) (ocons (decide_eq_true h2) (ocons (decide_eq_true h1) (ocons rfl (ocons (decide_eq_true h3) (ocons (decide_eq_true h4) (ocons (decide_eq_true h5) (ocons rfl (ocons (decide_eq_true h6) (ocons (decide_eq_true h7) onil))))))))))
theorem s58_4 {ρ : Env} {w : World} (x : ByteArray) (t5 : Int) (b0_0 : Nat) (b0_1 : List Int) (h1 : t5 < (↑(ByteArray.size x) : Int)) (h2 : 0 ≤ t5) (h3 : bt x t5 < 256) (h4 : 0 ≤ IntKind.wrap IntKind.i64 (t5 + 1)) (h5 : IntKind.wrap IntKind.i64 (t5 + 1) < (↑(ByteArray.size x) : Int)) (h6 : bt x (IntKind.wrap IntKind.i64 (t5 + 1)) < 256) (h7 : ¬dgv (bt x t5) > 15) (h8 : dgv (bt x (IntKind.wrap IntKind.i64 (t5 + 1))) > 15) : G (mkX Try.prog (tab liba) Try.f58 [] ρ w ⟨V.tup [W.c (C.v (Value.string (ByteArray.mk #[]))), W.int IntKind.i64 6], [], []⟩) (s58st0 x t5 b0_0 b0_1) :=
  G.ends (tab_ok liba_ok) mixed [(19, true), (33, false), (36, true)] 1000000 [] (by kernel_rfl) (by kernel_rfl) (by kernel_rfl) (by kernel_rfl)
    (ocons (decide_eq_true h1) (ocons (decide_eq_true h2) (ocons (decide_eq_true h1) (ocons rfl (ocons (decide_eq_true h3) (ocons (decide_eq_true h4) (ocons (decide_eq_true h5) (ocons rfl (ocons (decide_eq_true h6) (ocons (ndec h7) (ocons (decide_eq_true h8) onil)))))))))))
theorem s58_5 {ρ : Env} {w : World} {r : Res} (x : ByteArray) (t5 : Int) (b0_0 : Nat) (b0_1 : List Int) (h1 : t5 < (↑(ByteArray.size x) : Int)) (h2 : 0 ≤ t5) (h3 : bt x t5 < 256) (h4 : 0 ≤ IntKind.wrap IntKind.i64 (t5 + 1)) (h5 : IntKind.wrap IntKind.i64 (t5 + 1) < (↑(ByteArray.size x) : Int)) (h6 : bt x (IntKind.wrap IntKind.i64 (t5 + 1)) < 256) (h7 : ¬dgv (bt x t5) > 15) (h8 : ¬dgv (bt x (IntKind.wrap IntKind.i64 (t5 + 1))) > 15) (h9 : (b0_0 + 1) * 1 ≤ 1099511627776) (h10 : b0_0 + 1 ≤ 1099511627776) (hg : G (mkX Try.prog (tab liba) Try.f58 [] ρ w r) (s58st0 (x) (IntKind.wrap IntKind.i64 (t5 + 2)) (b0_0 + 1) (b0_1 ++ [orI IntKind.u8 (IntKind.wrap IntKind.u8 (dgv (bt x t5) * 16)) (dgv (bt x (IntKind.wrap IntKind.i64 (t5 + 1))))]))) : G (mkX Try.prog (tab liba) Try.f58 [] ρ w r) (s58st0 x t5 b0_0 b0_1) :=
  G.seg (X := mkX Try.prog (tab liba) Try.f58 [] ρ w r) ⟨tab_ok liba_ok, mixed⟩ [(19, true), (33, false), (36, false)] 1000000 0 [0, 4, 5] [(109, none)] (k := s58k0) (vs := [V.str x, V.w (W.c (C.own 0)), V.int IntKind.i64 (IntKind.wrap IntKind.i64 (t5 + 2))]) (bs := [Blk.mk 5 (Mode.own (b0_0 + 1)) (K.ints IntKind.u8 (b0_1 ++ [orI IntKind.u8 (IntKind.wrap IntKind.u8 (dgv (bt x t5) * 16)) (dgv (bt x (IntKind.wrap IntKind.i64 (t5 + 1))))]))]) (by kernel_rfl) (by kernel_rfl)
    (ocons (decide_eq_true h1) (ocons (decide_eq_true h2) (ocons (decide_eq_true h1) (ocons rfl (ocons (decide_eq_true h3) (ocons (decide_eq_true h4) (ocons (decide_eq_true h5) (ocons rfl (ocons (decide_eq_true h6) (ocons (ndec h7) (ocons (ndec h8) (ocons rfl (ocons (bleT h9) (ocons (bleT h10) (ocons rfl onil))))))))))))))) hg
theorem s58_6 {ρ : Env} {w : World} (x : ByteArray) (t5 : Int) (b0_0 : Nat) (b0_1 : List Int) (h1 : ¬t5 < (↑(ByteArray.size x) : Int)) (h2 : 0 + b0_0 ≤ List.length b0_1) : G (mkX Try.prog (tab liba) Try.f58 [] ρ w ⟨V.tup [W.c (C.v (Value.string (strOf (List.take b0_0 b0_1)))), W.int IntKind.i64 0], [], []⟩) (s58st0 x t5 b0_0 b0_1) :=
  G.ends (tab_ok liba_ok) mixed [(19, false)] 1000000 [] (by kernel_rfl) (by kernel_rfl) (by kernel_rfl) (by kernel_rfl)
    (ocons (ndec h1) (ocons (bleT h2) onil))

theorem or_dig {a b : Int} (h0 : 0 ≤ a) (h1 : a < 16) (h2 : 0 ≤ b) (h3 : b < 16) : orI IntKind.u8 (IntKind.wrap IntKind.u8 (a * 16)) b = 16 * a + b := by
  obtain ⟨n, rfl⟩ := Int.eq_ofNat_of_zero_le h0
  obtain ⟨m, rfl⟩ := Int.eq_ofNat_of_zero_le h2
  have hn : n < 16 := by omega
  have hm : m < 16 := by omega
  have key : ∀ (n m : Fin 16), orI IntKind.u8 (IntKind.wrap IntKind.u8 ((n.val : Int) * 16)) (m.val : Int) = 16 * (n.val : Int) + (m.val : Int) := by decide +kernel
  exact key ⟨n, hn⟩ ⟨m, hm⟩
theorem s58 (x : ByteArray) (h : x.size ≤ 1000000000) : Sx.Spec Try.prog 58 [.c (.v (.string x))] [] (unhexRes (unhexR x)) := by
  have hok : bytesOk (bytesOf x) := bytesOf_range x
  have hiff := pr_hex (bytesOf x) hok
  rw [bytesOf_length] at hiff
  by_cases c : x.size % 2 = 0
  · refine spec_body (tab := tab liba) Try.func58 (by kernel_rfl) (by kernel_rfl) (by kernel_rfl) fun ρ w => ?_
    have h2 : Int.tdiv (x.size : Int) 2 = (x.size : Int) / 2 := tdiv_pos (by omega)
    have h3 : IntKind.wrap .i64 ((x.size : Int) / 2) = (x.size : Int) / 2 := by rw [i64w] <;> omega
    refine s58_2 x (by rw [tmod_pos (by omega)]; omega) (by rw [h2, h3]; omega) (by rw [h2, h3]; omega) ?_
    have bad : (∃ a ∈ bytesOf x, dgv a > 15) → unhexR x = (.empty, 6) := by
      rintro ⟨a, ha, hd⟩
      unfold unhexR
      rw [if_neg]
      intro e
      have := (hiff.1 e).2 a ha
      omega
    have go : ∀ m j, j + m = x.size / 2 → (∀ a ∈ (bytesOf x).take (2 * j), dgv a ≤ 15) → G (mkX Try.prog (tab liba) Try.f58 [] ρ w (unhexRes (unhexR x))) (s58st0 x ((2 * j : Nat) : Int) j (pr ((bytesOf x).take (2 * j)))) := by
      intro m
      induction m with
      | zero =>
        intro j hj hv
        have hj2 : 2 * j = x.size := by omega
        have ht : (bytesOf x).take (2 * j) = bytesOf x := by rw [hj2]; exact take_all x
        rw [ht] at hv ⊢
        have hl : (pr (bytesOf x)).length = j := by rw [pr_length, bytesOf_length]; omega
        have := s58_6 (ρ := ρ) (w := w) x ((2 * j : Nat) : Int) j (pr (bytesOf x)) (by omega) (by omega)
        rw [List.take_of_length_le (by omega)] at this
        have e : unhexR x = (strOf (pr (bytesOf x)), 0) := by unfold unhexR; rw [if_pos (hiff.2 ⟨c, hv⟩)]
        rw [e]
        exact this
      | succ m ih =>
        intro j hj hv
        have hb0 := bt_range x ((2 * j : Nat) : Int)
        have hb1 := bt_range x ((2 * j + 1 : Nat) : Int)
        have e1 := i64s (2 * j) (by omega)
        have e2 := i64t (2 * j) (by omega)
        have hm0 := mem_bt x (2 * j) (by omega)
        have hm1 := mem_bt x (2 * j + 1) (by omega)
        by_cases d0 : dgv (bt x ((2 * j : Nat) : Int)) > 15
        · rw [bad ⟨_, hm0, d0⟩]
          exact s58_3 x ((2 * j : Nat) : Int) j (pr ((bytesOf x).take (2 * j))) (by omega) (by omega) hb0.2 (by rw [e1]; omega) (by rw [e1]; omega) (by rw [e1]; exact hb1.2) d0
        by_cases d1 : dgv (bt x ((2 * j + 1 : Nat) : Int)) > 15
        · rw [bad ⟨_, hm1, d1⟩]
          exact s58_4 x ((2 * j : Nat) : Int) j (pr ((bytesOf x).take (2 * j))) (by omega) (by omega) hb0.2 (by rw [e1]; omega) (by rw [e1]; omega) (by rw [e1]; exact hb1.2) d0 (by rw [e1]; exact d1)
        · refine s58_5 x ((2 * j : Nat) : Int) j (pr ((bytesOf x).take (2 * j))) (by omega) (by omega) hb0.2 (by rw [e1]; omega) (by rw [e1]; omega) (by rw [e1]; exact hb1.2) d0 (by rw [e1]; exact d1) (by omega) (by omega) ?_
          have g0 := dig_dgv hb0.1 hb0.2 (by omega)
          have g1 := dig_dgv hb1.1 hb1.2 (by omega)
          rw [e1, e2, or_dig g0.2.2 (by omega) g1.2.2 (by omega)]
          have ht := take_bt2 x (2 * j) (by omega)
          have := ih (j + 1) (by omega) (by
            intro a ha
            rw [show 2 * (j + 1) = 2 * j + 2 by omega, ht] at ha
            rcases List.mem_append.1 ha with ha | ha
            · exact hv a ha
            · simp at ha
              rcases ha with rfl | rfl
              · exact Int.not_lt.1 d0
              · have := Int.not_lt.1 d1
                simpa using this)
          rw [show 2 * (j + 1) = 2 * j + 2 by omega, ht, pr_append _ _ _ (by rw [List.length_take, bytesOf_length]; omega), g0.2.1, g1.2.1, Int.emod_eq_of_lt (by omega) (by omega)] at this
          exact this
    have := go (x.size / 2) 0 (by omega) (by simp)
    simpa [pr] using this
  · have e : unhexR x = (.empty, 6) := by
      unfold unhexR
      rw [if_neg]
      intro e
      exact c (hiff.1 e).1
    rw [e]
    exact s58_1 x (by rw [tmod_pos (by omega)]; omega)
noncomputable def s59k0 : List Item := kAt Try.prog (tab libb) Try.f59 [] 0 [W.c (C.v (Value.string ByteArray.empty))] []
noncomputable def s59st0 (x : ByteArray) (t5 : Int) (b0_0 : Nat) (b0_1 : List Int) : Cfg := cfg s59k0 [0, 4, 5] [V.str x, V.w (W.c (C.own 0)), V.int IntKind.i64 t5] [Blk.mk 5 (Mode.own b0_0) (K.ints IntKind.u8 b0_1)]
theorem s59_1 {ρ : Env} {w : World} {r : Res} (x : ByteArray) (hg : G (mkX Try.prog (tab libb) Try.f59 [] ρ w r) (s59st0 (x) (0) (0) ([]))) : G (mkX Try.prog (tab libb) Try.f59 [] ρ w r) (cfg [.code (Try.f59.body.getD .skip)] (List.range 1) ([W.c (C.v (Value.string x))].map V.w) []) :=
  G.seg (X := mkX Try.prog (tab libb) Try.f59 [] ρ w r) ⟨tab_ok libb_ok, mixed⟩ [] 1000000 0 [0, 4, 5] [] (k := s59k0) (vs := [V.str x, V.w (W.c (C.v (Value.slice none 0 0))), V.int IntKind.i64 0]) (bs := []) (by kernel_rfl) (by kernel_rfl)
    onil (G.nilOwn 1 5 (K.ints IntKind.u8 []) rfl rfl rfl (Nat.le_of_ble_eq_true rfl) hg)
theorem s59_2 {ρ : Env} {w : World} {r : Res} (x : ByteArray) (t5 : Int) (b0_0 : Nat) (b0_1 : List Int) (h1 : IntKind.wrap IntKind.i64 (t5 + 1) < (↑(ByteArray.size x) : Int)) (h2 : 0 ≤ t5) (h3 : t5 < (↑(ByteArray.size x) : Int)) (h4 : bt x t5 < 256) (h5 : 0 ≤ IntKind.wrap IntKind.i64 (t5 + 1)) (h6 : bt x (IntKind.wrap IntKind.i64 (t5 + 1)) < 256) (h7 : (b0_0 + 1) * 1 ≤ 1099511627776) (h8 : b0_0 + 1 ≤ 1099511627776) (hg : G (mkX Try.prog (tab libb) Try.f59 [] ρ w r) (s59st0 (x) (IntKind.wrap IntKind.i64 (t5 + 2)) (b0_0 + 1) (b0_1 ++ [IntKind.wrap IntKind.u8 (IntKind.wrap IntKind.u8 (16 * vlu (bt x t5)) + vlu (bt x (IntKind.wrap IntKind.i64 (t5 + 1))))]))) : G (mkX Try.prog (tab libb) Try.f59 [] ρ w r) (s59st0 x t5 b0_0 b0_1) :=
  G.seg (X := mkX Try.prog (tab libb) Try.f59 [] ρ w r) ⟨tab_ok libb_ok, mixed⟩ [(10, true)] 1000000 0 [0, 4, 5] [(73, none)] (k := s59k0) (vs := [V.str x, V.w (W.c (C.own 0)), V.int IntKind.i64 (IntKind.wrap IntKind.i64 (t5 + 2))]) (bs := [Blk.mk 5 (Mode.own (b0_0 + 1)) (K.ints IntKind.u8 (b0_1 ++ [IntKind.wrap IntKind.u8 (IntKind.wrap IntKind.u8 (16 * vlu (bt x t5)) + vlu (bt x (IntKind.wrap IntKind.i64 (t5 + 1))))]))]) (by kernel_rfl) (by kernel_rfl)
    (ocons (decide_eq_true h1) (ocons (decide_eq_true h2) (ocons (decide_eq_true h3) (ocons rfl (ocons (decide_eq_true h4) (ocons (decide_eq_true h5) (ocons (decide_eq_true h1) (ocons rfl (ocons (decide_eq_true h6) (ocons (bleT h7) (ocons (bleT h8) (ocons rfl onil)))))))))))) hg
theorem s59_3 {ρ : Env} {w : World} (x : ByteArray) (t5 : Int) (b0_0 : Nat) (b0_1 : List Int) (h1 : ¬IntKind.wrap IntKind.i64 (t5 + 1) < (↑(ByteArray.size x) : Int)) (h2 : 0 + b0_0 ≤ List.length b0_1) (h3 : ByteArray.size (strOf (List.take b0_0 b0_1)) ≤ 1000000000) (h4 : ¬strOf (hexI (bytesOf (strOf (List.take b0_0 b0_1)))) = x) : G (mkX Try.prog (tab libb) Try.f59 [] ρ w ⟨V.tup [W.c (C.v (Value.string (ByteArray.mk #[]))), W.int IntKind.i64 6], [], []⟩) (s59st0 x t5 b0_0 b0_1) :=
  G.ends (tab_ok libb_ok) mixed [(10, false), (31, true)] 1000000 [] (by kernel_rfl) (by kernel_rfl) (by kernel_rfl) (by kernel_rfl)
    (ocons (ndec h1) (ocons (bleT h2) (ocons (bleT h3) (ocons (neS h4) onil))))
theorem s59_4 {ρ : Env} {w : World} (x : ByteArray) (t5 : Int) (b0_0 : Nat) (b0_1 : List Int) (h1 : ¬IntKind.wrap IntKind.i64 (t5 + 1) < (↑(ByteArray.size x) : Int)) (h2 : 0 + b0_0 ≤ List.length b0_1) (h3 : ByteArray.size (strOf (List.take b0_0 b0_1)) ≤ 1000000000) (h4 : strOf (hexI (bytesOf (strOf (List.take b0_0 b0_1)))) = x) : G (mkX Try.prog (tab libb) Try.f59 [] ρ w ⟨V.tup [W.c (C.v (Value.string (strOf (List.take b0_0 b0_1)))), W.int IntKind.i64 0], [], []⟩) (s59st0 x t5 b0_0 b0_1) :=
  G.ends (tab_ok libb_ok) mixed [(10, false), (31, false)] 1000000 [] (by kernel_rfl) (by kernel_rfl) (by kernel_rfl) (by kernel_rfl)
    (ocons (ndec h1) (ocons (bleT h2) (ocons (bleT h3) (ocons (nnS h4) (ocons (bleT h2) onil)))))

theorem s59 (x : ByteArray) (h : x.size ≤ 1000000000) : Sx.Spec Try.prog 59 [.c (.v (.string x))] [] (unhexRes (unhexR x)) := by
  refine spec_body (tab := tab libb) Try.func59 (by kernel_rfl) (by kernel_rfl) (by kernel_rfl) fun ρ w => ?_
  refine s59_1 x ?_
  refine G.loop (fun j => s59st0 x ((2 * j : Nat) : Int) j (pr ((bytesOf x).take (2 * j)))) (x.size / 2) (fun j hj hg => ?_) ?_
  · have hb0 := bt_range x ((2 * j : Nat) : Int)
    have hb1 := bt_range x ((2 * j + 1 : Nat) : Int)
    have e1 := i64s (2 * j) (by omega)
    have e2 := i64t (2 * j) (by omega)
    refine s59_2 x ((2 * j : Nat) : Int) j (pr ((bytesOf x).take (2 * j))) (by rw [e1]; omega) (by omega) (by omega) hb0.2 (by rw [e1]; omega) (by rw [e1]; exact hb1.2) (by omega) (by omega) ?_
    have v0 := vlu_range hb0.1
    have v1 := vlu_range hb1.1
    rw [e1, e2, w8_id (n := 16 * _) (by omega) (by omega), wrap_u8]
    have ht := take_bt2 x (2 * j) (by omega)
    rw [show 2 * (j + 1) = 2 * j + 2 by omega, ht, pr_append _ _ _ (by rw [List.length_take, bytesOf_length]; omega)] at hg
    exact hg
  · have hp : pr ((bytesOf x).take (2 * (x.size / 2))) = pr (bytesOf x) := by
      by_cases c : x.size % 2 = 0
      · rw [show 2 * (x.size / 2) = x.size by omega, take_all]
      · have := take_bt x (2 * (x.size / 2)) (by omega)
        rw [show 2 * (x.size / 2) + 1 = x.size by omega, take_all] at this
        exact (pr_odd _ _ (by rw [List.length_take, bytesOf_length]; omega)).symm.trans (congrArg pr this.symm)
    show G _ (s59st0 x ((2 * (x.size / 2) : Nat) : Int) (x.size / 2) (pr ((bytesOf x).take (2 * (x.size / 2)))))
    rw [hp]
    have hl : (pr (bytesOf x)).length = x.size / 2 := by rw [pr_length, bytesOf_length]
    have ht : List.take (x.size / 2) (pr (bytesOf x)) = pr (bytesOf x) := List.take_of_length_le (by omega)
    have e1 := i64s (2 * (x.size / 2)) (by omega)
    have hbk : bytesOf (strOf (pr (bytesOf x))) = pr (bytesOf x) := bytesOf_strOf (pr_range _)
    have hsz : (strOf (pr (bytesOf x))).size ≤ 1000000000 := by rw [strOf_size]; omega
    by_cases c : strOf (hexI (pr (bytesOf x))) = x
    · have := s59_4 (ρ := ρ) (w := w) x ((2 * (x.size / 2) : Nat) : Int) (x.size / 2) (pr (bytesOf x)) (by rw [e1]; omega) (by omega) (by rw [ht]; exact hsz) (by rw [ht, hbk]; exact c)
      rw [ht] at this
      have e : unhexR x = (strOf (pr (bytesOf x)), 0) := by
        unfold unhexR
        rw [if_pos]
        have := congrArg bytesOf c
        rwa [bytesOf_strOf (hexI_range (pr_range _))] at this
      rw [e]
      exact this
    · have := s59_3 (ρ := ρ) (w := w) x ((2 * (x.size / 2) : Nat) : Int) (x.size / 2) (pr (bytesOf x)) (by rw [e1]; omega) (by omega) (by rw [ht]; exact hsz) (by rw [ht, hbk]; exact c)
      have e : unhexR x = (.empty, 6) := by
        unfold unhexR
        rw [if_neg]
        intro e
        apply c
        rw [e, bytes_back]
      rw [e]
      exact this
end Go.Proofs.Ytmjejlbmcefaoaa
