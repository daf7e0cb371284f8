/- Bytes as words: what octet.Get32, Get64 and Low compute. -/
import Derived.Test.YtmjejlbmcefaoaaOctC
namespace Go.Proofs.Ytmjejlbmcefaoaa
open Go Sx

theorem pow256 (m : Nat) : (256 : Nat) ^ m = 2 ^ (8 * m) := by rw [Nat.pow_mul]
theorem or_place {k : IntKind} (hk : uns k) (A b m : Nat) (hb : b < 256) (h : (A * 256 + b) * 256 ^ m < 2 ^ k.bits) : orI k ((A * 256 ^ (m + 1) : Nat) : Int) (shl k (b : Int) ((8 * m : Nat) : Int)) = (((A * 256 + b) * 256 ^ m : Nat) : Int) := by
  have h1 : b * 256 ^ m < 2 ^ k.bits := Nat.lt_of_le_of_lt (by rw [Nat.add_mul]; omega) h
  have e : A * 256 ^ (m + 1) = A * 256 * 256 ^ m := by rw [Nat.pow_succ', ← Nat.mul_assoc]
  have h2 : A * 256 ^ (m + 1) < 2 ^ k.bits := Nat.lt_of_le_of_lt (by rw [Nat.add_mul, e]; omega) h
  rw [shl_nat hk, Nat.shiftLeft_eq, ← pow256, Nat.mod_eq_of_lt h1, orI_nat hk h2 h1]
  congr 1
  have h3 : b * 256 ^ m < 2 ^ (8 * (m + 1)) := by
    rw [← pow256, Nat.pow_succ']
    exact Nat.mul_lt_mul_of_pos_right hb (Nat.pow_pos (by omega))
  have := Nat.two_pow_add_eq_or_of_lt h3 A
  rw [← pow256, Nat.mul_comm (256 ^ (m + 1)) A] at this
  rw [← this, e, Nat.add_mul]
theorem or_low {k : IntKind} (hk : uns k) (a b m : Nat) (ha : a < 256 ^ m) (h : a + b * 256 ^ m < 2 ^ k.bits) : orI k (a : Int) (shl k (b : Int) ((8 * m : Nat) : Int)) = ((a + b * 256 ^ m : Nat) : Int) := by
  have h1 : b * 256 ^ m < 2 ^ k.bits := by omega
  rw [shl_nat hk, Nat.shiftLeft_eq, ← pow256, Nat.mod_eq_of_lt h1, orI_nat hk (by omega) h1]
  congr 1
  rw [pow256] at ha
  have := Nat.two_pow_add_eq_or_of_lt ha b
  rw [← pow256, Nat.mul_comm (256 ^ m) b] at this
  rw [Nat.or_comm, ← this, Nat.add_comm]

/-- the number of bytes, the lowest one first. -/
def leV : List Int → Int
  | [] => 0
  | b :: l => b + 256 * leV l
theorem leV_append : ∀ (l : List Int) (b : Int), leV (l ++ [b]) = leV l + b * 256 ^ l.length
  | [], b => by simp [leV]
  | a :: l, b => by
    have ih := leV_append l b
    simp only [List.cons_append, leV, ih, List.length_cons, Int.pow_succ]
    grind
theorem leV_range : ∀ (l : List Int), (∀ b ∈ l, 0 ≤ b ∧ b < 256) → 0 ≤ leV l ∧ leV l < 256 ^ l.length
  | [], _ => by simp [leV]
  | a :: l, h => by
    have ih := leV_range l (fun b hb => h b (by simp [hb]))
    have ha := h a (by simp)
    simp only [leV, List.length_cons, Int.pow_succ]
    generalize (256 : Int) ^ l.length = p at *
    omega
theorem rev_leV : ∀ l : List Int, beV l.reverse = leV l
  | [] => rfl
  | b :: m => by rw [List.reverse_cons, beV_append, rev_leV m]; simp only [leV]; omega
theorem w32_id {n : Int} (h0 : 0 ≤ n) (h1 : n < 4294967296) : IntKind.wrap .u32 n = n := (wrap_u32 n).trans (by omega)
theorem w64_id {n : Int} (h0 : 0 ≤ n) (h1 : n < 18446744073709551616) : IntKind.wrap .u64 n = n := (wrap_u64 n).trans (by omega)

def chunk (w : Nat) (l : List Int) (i : Nat) : List Int := (l.drop (w * i)).take w
def wordsH (w : Nat) (l : List Int) (n : Nat) : List Int := (List.range n).map fun i => beV (chunk w l i)
def wordsL (w : Nat) (l : List Int) (n : Nat) : List Int := (List.range n).map fun i => leV (chunk w l i)
theorem wordsH_length (w : Nat) (l : List Int) (n : Nat) : (wordsH w l n).length = n := by simp [wordsH]
theorem wordsL_length (w : Nat) (l : List Int) (n : Nat) : (wordsL w l n).length = n := by simp [wordsL]
theorem wordsH_succ (w : Nat) (l : List Int) (n : Nat) : wordsH w l (n + 1) = wordsH w l n ++ [beV (chunk w l n)] := by simp [wordsH, List.range_succ]
theorem wordsL_succ (w : Nat) (l : List Int) (n : Nat) : wordsL w l (n + 1) = wordsL w l n ++ [leV (chunk w l n)] := by simp [wordsL, List.range_succ]
theorem drop_bt (x : ByteArray) (o k : Nat) (h : o + k < x.size) : ((bytesOf x).drop o).take (k + 1) = ((bytesOf x).drop o).take k ++ [bt x ((o + k : Nat) : Int)] := by
  rw [List.take_add_one, List.getElem?_drop, bt_eq, Int.toNat_natCast, List.getD_eq_getElem?_getD]
  rw [List.getElem?_eq_getElem (by rw [bytesOf_length]; exact h)]
  rfl
theorem piece_range (x : ByteArray) (o k : Nat) : ∀ b ∈ ((bytesOf x).drop o).take k, 0 ≤ b ∧ b < 256 := fun b hb => bytesOf_range x b (List.mem_of_mem_drop (List.mem_of_mem_take hb))
theorem piece_length (x : ByteArray) (o k : Nat) (h : o + k ≤ x.size) : (((bytesOf x).drop o).take k).length = k := by rw [List.length_take, List.length_drop, bytesOf_length]; omega
theorem nat_of {n : Int} (h : 0 ≤ n) : ∃ m : Nat, n = m := Int.eq_ofNat_of_zero_le h

/-- a byte more, the highest one first. -/
theorem hi_step {k : IntKind} (hk : uns k) (w : Nat) (hw : 8 * w = k.bits) (x : ByteArray) (o j : Nat) (hj : j < w) (h : o + w ≤ x.size) :
    orI k (beV (((bytesOf x).drop o).take j) * 256 ^ (w - j)) (shl k (bt x ((o + j : Nat) : Int)) ((8 * (w - 1 - j) : Nat) : Int)) = beV (((bytesOf x).drop o).take (j + 1)) * 256 ^ (w - (j + 1)) := by
  have hb := bt_range x ((o + j : Nat) : Int)
  have hr := beV_range j _ (piece_length x o j (by omega)) (piece_range x o j)
  have hr2 := beV_range (j + 1) _ (piece_length x o (j + 1) (by omega)) (piece_range x o (j + 1))
  rw [drop_bt x o j (by omega), beV_append] at hr2 ⊢
  generalize beV (((bytesOf x).drop o).take j) = A at *
  generalize bt x ((o + j : Nat) : Int) = b at *
  obtain ⟨A, rfl⟩ := nat_of hr.1
  obtain ⟨b, rfl⟩ := nat_of hb.1
  have e1 : w - j = (w - 1 - j) + 1 := by omega
  have e2 : w - (j + 1) = w - 1 - j := by omega
  have hlt : (A * 256 + b) * 256 ^ (w - 1 - j) < 2 ^ k.bits := by
    have h3 : A * 256 + b < 256 ^ (j + 1) := Int.ofNat_lt.1 (by simp only [Int.natCast_add, Int.natCast_mul, Int.natCast_pow]; exact hr2.2)
    have h4 : (256 : Nat) ^ (j + 1) * 256 ^ (w - 1 - j) = 2 ^ k.bits := by rw [← Nat.pow_add, ← hw, ← pow256]; congr 1; omega
    rw [← h4]
    exact Nat.mul_lt_mul_of_pos_right h3 (Nat.pow_pos (by omega))
  have := or_place hk A b (w - 1 - j) (by omega) hlt
  rw [e1, e2]
  simp only [Int.natCast_mul, Int.natCast_pow, Int.natCast_add] at this
  exact this
theorem lo_step {k : IntKind} (hk : uns k) (w : Nat) (hw : 8 * w = k.bits) (x : ByteArray) (o j : Nat) (hj : j < w) (h : o + w ≤ x.size) :
    orI k (leV (((bytesOf x).drop o).take j)) (shl k (bt x ((o + j : Nat) : Int)) ((8 * j : Nat) : Int)) = leV (((bytesOf x).drop o).take (j + 1)) := by
  have hb := bt_range x ((o + j : Nat) : Int)
  have hl := piece_length x o j (by omega)
  have hr := leV_range _ (piece_range x o j)
  have hr2 := leV_range _ (piece_range x o (j + 1))
  rw [piece_length x o (j + 1) (by omega)] at hr2
  rw [drop_bt x o j (by omega), leV_append, hl] at hr2 ⊢
  rw [hl] at hr
  generalize leV (((bytesOf x).drop o).take j) = A at *
  generalize bt x ((o + j : Nat) : Int) = b at *
  obtain ⟨A, rfl⟩ := nat_of hr.1
  obtain ⟨b, rfl⟩ := nat_of hb.1
  have ha : A < 256 ^ j := Int.ofNat_lt.1 (by simp only [Int.natCast_pow]; exact hr.2)
  have hlt : A + b * 256 ^ j < 2 ^ k.bits := by
    have h3 : A + b * 256 ^ j < 256 ^ (j + 1) := Int.ofNat_lt.1 (by simp only [Int.natCast_add, Int.natCast_mul, Int.natCast_pow]; exact hr2.2)
    have h4 : (256 : Nat) ^ (j + 1) ≤ 2 ^ k.bits := by rw [← hw, ← pow256]; exact Nat.pow_le_pow_right (by omega) (by omega)
    omega
  have := or_low hk A b j ha hlt
  simp only [Int.natCast_mul, Int.natCast_pow, Int.natCast_add] at this
  exact this
noncomputable def s207k0 : List Item := kAt Try.prog (tab libc) Try.f207 [] 0 [W.c (C.v (Value.string ByteArray.empty)), W.int IntKind.i64 4, W.c (C.fn 254 [(0, 0)])] [Blk.mk 3 Mode.rw (K.cs [C.v (Value.int IntKind.i64 4)])]
noncomputable def s207st0 (x : ByteArray) (t8h0 : Int) (b1_0h0 : Nat) (b1_1h0 : List Int) : Cfg := cfg s207k0 [0, 1, 2, 7, 8] [V.str x, V.int IntKind.i64 4, V.w (W.c (C.fn 254 [(0, 0)])), V.w (W.c (C.own 1)), V.int IntKind.i64 t8h0] [Blk.mk 3 Mode.rw (K.cs [C.v (Value.int IntKind.i64 4)]), Blk.mk 25 (Mode.own b1_0h0) (K.ints IntKind.u32 b1_1h0)]
noncomputable def s207k1 : List Item := kAt Try.prog (tab libc) Try.f207 [(16, true)] 1 [W.c (C.v (Value.string ByteArray.empty)), W.int IntKind.i64 4, W.c (C.fn 254 [(0, 0)])] [Blk.mk 3 Mode.rw (K.cs [C.v (Value.int IntKind.i64 4)])]
noncomputable def s207st1 (x : ByteArray) (t9h1 : Int) (t21h1 : Int) (t8h0 : Int) (b1_0h0 : Nat) (b1_1h0 : List Int) : Cfg := cfg s207k1 [0, 1, 2, 7, 8, 9, 20, 21] [V.str x, V.int IntKind.i64 4, V.w (W.c (C.fn 254 [(0, 0)])), V.w (W.c (C.own 1)), V.int IntKind.i64 t8h0, V.int IntKind.u32 t9h1, V.int IntKind.i64 4, V.int IntKind.i64 t21h1] [Blk.mk 3 Mode.rw (K.cs [C.v (Value.int IntKind.i64 4)]), Blk.mk 25 (Mode.own b1_0h0) (K.ints IntKind.u32 b1_1h0)]
theorem s207_1 {ρ : Env} {w : World} {r : Res} (x : ByteArray) (hg : G (mkX Try.prog (tab libc) Try.f207 [Blk.mk 3 Mode.rw (K.cs [C.v (Value.int IntKind.i64 4)])] ρ w r) (s207st0 (x) (0) (0) ([]))) : G (mkX Try.prog (tab libc) Try.f207 [Blk.mk 3 Mode.rw (K.cs [C.v (Value.int IntKind.i64 4)])] ρ w r) (cfg [.code (Try.f207.body.getD .skip)] (List.range 3) ([W.c (C.v (Value.string x)), W.int IntKind.i64 4, W.c (C.fn 254 [(0, 0)])].map V.w) [Blk.mk 3 Mode.rw (K.cs [C.v (Value.int IntKind.i64 4)])]) :=
  G.seg (X := mkX Try.prog (tab libc) Try.f207 [Blk.mk 3 Mode.rw (K.cs [C.v (Value.int IntKind.i64 4)])] ρ w r) ⟨tab_ok libc_ok, mixed⟩ [] 1000000 0 [0, 1, 2, 7, 8] [(0, none)] (k := s207k0) (vs := [V.str x, V.int IntKind.i64 4, V.w (W.c (C.fn 254 [(0, 0)])), V.w (W.c (C.v (Value.slice none 0 0))), V.int IntKind.i64 0]) (bs := [Blk.mk 3 Mode.rw (K.cs [C.v (Value.int IntKind.i64 4)])]) (by kernel_rfl) (by kernel_rfl)
    onil (G.nilOwn 3 25 (K.ints IntKind.u32 []) rfl rfl rfl (Nat.le_of_ble_eq_true rfl) hg)
theorem s207_2 {ρ : Env} {w : World} {r : Res} (x : ByteArray) (t8h0 : Int) (b1_0h0 : Nat) (b1_1h0 : List Int) (h1 : IntKind.wrap IntKind.i64 (t8h0 + 4) ≤ (↑(ByteArray.size x) : Int)) (hg : G (mkX Try.prog (tab libc) Try.f207 [Blk.mk 3 Mode.rw (K.cs [C.v (Value.int IntKind.i64 4)])] ρ w r) (s207st1 (x) (0) (0) (t8h0) (b1_0h0) (b1_1h0))) : G (mkX Try.prog (tab libc) Try.f207 [Blk.mk 3 Mode.rw (K.cs [C.v (Value.int IntKind.i64 4)])] ρ w r) (s207st0 x t8h0 b1_0h0 b1_1h0) :=
  G.seg (X := mkX Try.prog (tab libc) Try.f207 [Blk.mk 3 Mode.rw (K.cs [C.v (Value.int IntKind.i64 4)])] ρ w r) ⟨tab_ok libc_ok, mixed⟩ [(16, true)] 1000000 0 [0, 1, 2, 7, 8, 9, 20, 21] [(0, none), (1, none)] (k := s207k1) (vs := [V.str x, V.int IntKind.i64 4, V.w (W.c (C.fn 254 [(0, 0)])), V.w (W.c (C.own 1)), V.int IntKind.i64 t8h0, V.int IntKind.u32 0, V.int IntKind.i64 4, V.int IntKind.i64 0]) (bs := [Blk.mk 3 Mode.rw (K.cs [C.v (Value.int IntKind.i64 4)]), Blk.mk 25 (Mode.own b1_0h0) (K.ints IntKind.u32 b1_1h0)]) (by kernel_rfl) (by kernel_rfl)
    (ocons (decide_eq_true h1) onil) hg
theorem s207_3 {ρ : Env} {w : World} (x : ByteArray) (t8h0 : Int) (b1_0h0 : Nat) (b1_1h0 : List Int) (h1 : ¬IntKind.wrap IntKind.i64 (t8h0 + 4) ≤ (↑(ByteArray.size x) : Int)) : G (mkX Try.prog (tab libc) Try.f207 [Blk.mk 3 Mode.rw (K.cs [C.v (Value.int IntKind.i64 4)])] ρ w ⟨V.w (W.c (C.own 1)), [], [Blk.mk 25 (Mode.own b1_0h0) (K.ints IntKind.u32 b1_1h0)]⟩) (s207st0 x t8h0 b1_0h0 b1_1h0) :=
  G.ends (tab_ok libc_ok) mixed [(16, false)] 1000000 [(0, none), (1, none)] (by kernel_rfl) (by kernel_rfl) (by kernel_rfl) (by kernel_rfl)
    (ocons (ndec h1) onil)
theorem s207_4 {ρ : Env} {w : World} {r : Res} (x : ByteArray) (t9h1 : Int) (t21h1 : Int) (t8h0 : Int) (b1_0h0 : Nat) (b1_1h0 : List Int) (h1 : t21h1 < 4) (h2 : 0 ≤ IntKind.wrap IntKind.i64 (t8h0 + t21h1)) (h3 : IntKind.wrap IntKind.i64 (t8h0 + t21h1) < (↑(ByteArray.size x) : Int)) (h4 : 0 ≤ IntKind.wrap IntKind.i64 (8 * i64 (3 - t21h1))) (hg : G (mkX Try.prog (tab libc) Try.f207 [Blk.mk 3 Mode.rw (K.cs [C.v (Value.int IntKind.i64 4)])] ρ w r) (s207st1 (x) (orI IntKind.u32 t9h1 (shl IntKind.u32 (IntKind.wrap IntKind.u32 (bt x (IntKind.wrap IntKind.i64 (t8h0 + t21h1)))) (IntKind.wrap IntKind.i64 (8 * i64 (3 - t21h1))))) (IntKind.wrap IntKind.i64 (t21h1 + 1)) (t8h0) (b1_0h0) (b1_1h0))) : G (mkX Try.prog (tab libc) Try.f207 [Blk.mk 3 Mode.rw (K.cs [C.v (Value.int IntKind.i64 4)])] ρ w r) (s207st1 x t9h1 t21h1 t8h0 b1_0h0 b1_1h0) :=
  G.seg (X := mkX Try.prog (tab libc) Try.f207 [Blk.mk 3 Mode.rw (K.cs [C.v (Value.int IntKind.i64 4)])] ρ w r) ⟨tab_ok libc_ok, mixed⟩ [(22, true)] 1000000 0 [0, 1, 2, 7, 8, 9, 20, 21] [(0, none), (1, none)] (k := s207k1) (vs := [V.str x, V.int IntKind.i64 4, V.w (W.c (C.fn 254 [(0, 0)])), V.w (W.c (C.own 1)), V.int IntKind.i64 t8h0, V.int IntKind.u32 (orI IntKind.u32 t9h1 (shl IntKind.u32 (IntKind.wrap IntKind.u32 (bt x (IntKind.wrap IntKind.i64 (t8h0 + t21h1)))) (IntKind.wrap IntKind.i64 (8 * i64 (3 - t21h1))))), V.int IntKind.i64 4, V.int IntKind.i64 (IntKind.wrap IntKind.i64 (t21h1 + 1))]) (bs := [Blk.mk 3 Mode.rw (K.cs [C.v (Value.int IntKind.i64 4)]), Blk.mk 25 (Mode.own b1_0h0) (K.ints IntKind.u32 b1_1h0)]) (by kernel_rfl) (by kernel_rfl)
    (ocons (decide_eq_true h1) (ocons (decide_eq_true h2) (ocons (decide_eq_true h3) (ocons (decide_eq_true h4) onil)))) hg
theorem s207_5 {ρ : Env} {w : World} {r : Res} (x : ByteArray) (t9h1 : Int) (t21h1 : Int) (t8h0 : Int) (b1_0h0 : Nat) (b1_1h0 : List Int) (h1 : ¬t21h1 < 4) (h2 : (b1_0h0 + 1) * 4 ≤ 1099511627776) (h3 : b1_0h0 + 1 ≤ 1099511627776) (hg : G (mkX Try.prog (tab libc) Try.f207 [Blk.mk 3 Mode.rw (K.cs [C.v (Value.int IntKind.i64 4)])] ρ w r) (s207st0 (x) (IntKind.wrap IntKind.i64 (t8h0 + 4)) (b1_0h0 + 1) (b1_1h0 ++ List.take 1 (List.drop 0 [t9h1])))) : G (mkX Try.prog (tab libc) Try.f207 [Blk.mk 3 Mode.rw (K.cs [C.v (Value.int IntKind.i64 4)])] ρ w r) (s207st1 x t9h1 t21h1 t8h0 b1_0h0 b1_1h0) :=
  G.seg (X := mkX Try.prog (tab libc) Try.f207 [Blk.mk 3 Mode.rw (K.cs [C.v (Value.int IntKind.i64 4)])] ρ w r) ⟨tab_ok libc_ok, mixed⟩ [(22, false)] 1000000 0 [0, 1, 2, 7, 8] [(0, none), (18, none)] (k := s207k0) (vs := [V.str x, V.int IntKind.i64 4, V.w (W.c (C.fn 254 [(0, 0)])), V.w (W.c (C.own 1)), V.int IntKind.i64 (IntKind.wrap IntKind.i64 (t8h0 + 4))]) (bs := [Blk.mk 3 Mode.rw (K.cs [C.v (Value.int IntKind.i64 4)]), Blk.mk 25 (Mode.own (b1_0h0 + 1)) (K.ints IntKind.u32 (b1_1h0 ++ List.take 1 (List.drop 0 [t9h1])))]) (by kernel_rfl) (by kernel_rfl)
    (ocons (ndec h1) (ocons (bleT h2) (ocons (bleT h3) (ocons rfl onil)))) hg

theorem s207 (x : ByteArray) (h : x.size ≤ 1000000000) : Sx.Spec Try.prog 207 [.c (.v (.string x)), W.int .i64 4, .c (.fn 254 [(0, 0)])] [⟨3, .rw, .cs [.v (.int .i64 4)]⟩] ⟨.w (.c (.own 1)), [], [⟨25, .own (x.size / 4), .ints .u32 (wordsH 4 (bytesOf x) (x.size / 4))⟩]⟩ := by
  refine spec_body (tab := tab libc) Try.func207 (by kernel_rfl) (by kernel_rfl) (by kernel_rfl) fun ρ w => ?_
  refine s207_1 x ?_
  refine G.loop (fun i => s207st0 x ((4 * i : Nat) : Int) i (wordsH 4 (bytesOf x) i)) (x.size / 4) (fun i hi hg => ?_) ?_
  · have e0 : IntKind.wrap .i64 (((4 * i : Nat) : Int) + 4) = ((4 * (i + 1) : Nat) : Int) := by rw [i64w] <;> omega
    refine s207_2 x _ _ _ (by rw [e0]; omega) ?_
    refine G.loop (fun j => s207st1 x (beV (((bytesOf x).drop (4 * i)).take j) * 256 ^ (4 - j)) (j : Int) ((4 * i : Nat) : Int) i (wordsH 4 (bytesOf x) i)) 4 (fun j hj hg2 => ?_) ?_
    · have e1 : IntKind.wrap .i64 (((4 * i : Nat) : Int) + (j : Int)) = ((4 * i + j : Nat) : Int) := by rw [i64w] <;> omega
      have hb := bt_range x ((4 * i + j : Nat) : Int)
      have e3 : IntKind.wrap .u32 (bt x ((4 * i + j : Nat) : Int)) = bt x ((4 * i + j : Nat) : Int) := w32_id hb.1 (by omega)
      have e2 : IntKind.wrap .i64 (8 * i64 (3 - (j : Int))) = ((8 * (4 - 1 - j) : Nat) : Int) := by rw [i64_id (n := 3 - (j : Int)) (by omega) (by omega), i64w] <;> omega
      refine s207_4 x _ _ _ _ _ (by omega) (by rw [e1]; omega) (by rw [e1]; omega) (by rw [e2]; omega) ?_
      rw [e1, e2, e3, i64s j (by omega), hi_step un32 4 rfl x (4 * i) j hj (by omega)]
      exact hg2
    · refine s207_5 x _ _ _ _ _ (by omega) (by omega) (by omega) ?_
      rw [e0]
      rw [wordsH_succ] at hg
      have e4 : beV (((bytesOf x).drop (4 * i)).take 4) * 256 ^ (4 - 4) = beV (chunk 4 (bytesOf x) i) := by simp [chunk]
      rw [e4]
      exact hg
  · exact s207_3 x _ _ _ (by rw [i64w] <;> omega)
noncomputable def s208hk0 : List Item := kAt Try.prog (tab libc) Try.f208 [] 0 [W.c (C.v (Value.string ByteArray.empty)), W.int IntKind.i64 8, W.c (C.fn 254 [(0, 0)])] [Blk.mk 3 Mode.rw (K.cs [C.v (Value.int IntKind.i64 8)])]
noncomputable def s208hst0 (x : ByteArray) (t8h0 : Int) (b1_0h0 : Nat) (b1_1h0 : List Int) : Cfg := cfg s208hk0 [0, 1, 2, 7, 8] [V.str x, V.int IntKind.i64 8, V.w (W.c (C.fn 254 [(0, 0)])), V.w (W.c (C.own 1)), V.int IntKind.i64 t8h0] [Blk.mk 3 Mode.rw (K.cs [C.v (Value.int IntKind.i64 8)]), Blk.mk 22 (Mode.own b1_0h0) (K.ints IntKind.u64 b1_1h0)]
noncomputable def s208hk1 : List Item := kAt Try.prog (tab libc) Try.f208 [(16, true)] 1 [W.c (C.v (Value.string ByteArray.empty)), W.int IntKind.i64 8, W.c (C.fn 254 [(0, 0)])] [Blk.mk 3 Mode.rw (K.cs [C.v (Value.int IntKind.i64 8)])]
noncomputable def s208hst1 (x : ByteArray) (t9h1 : Int) (t21h1 : Int) (t8h0 : Int) (b1_0h0 : Nat) (b1_1h0 : List Int) : Cfg := cfg s208hk1 [0, 1, 2, 7, 8, 9, 20, 21] [V.str x, V.int IntKind.i64 8, V.w (W.c (C.fn 254 [(0, 0)])), V.w (W.c (C.own 1)), V.int IntKind.i64 t8h0, V.int IntKind.u64 t9h1, V.int IntKind.i64 8, V.int IntKind.i64 t21h1] [Blk.mk 3 Mode.rw (K.cs [C.v (Value.int IntKind.i64 8)]), Blk.mk 22 (Mode.own b1_0h0) (K.ints IntKind.u64 b1_1h0)]
theorem s208h_1 {ρ : Env} {w : World} {r : Res} (x : ByteArray) (hg : G (mkX Try.prog (tab libc) Try.f208 [Blk.mk 3 Mode.rw (K.cs [C.v (Value.int IntKind.i64 8)])] ρ w r) (s208hst0 (x) (0) (0) ([]))) : G (mkX Try.prog (tab libc) Try.f208 [Blk.mk 3 Mode.rw (K.cs [C.v (Value.int IntKind.i64 8)])] ρ w r) (cfg [.code (Try.f208.body.getD .skip)] (List.range 3) ([W.c (C.v (Value.string x)), W.int IntKind.i64 8, W.c (C.fn 254 [(0, 0)])].map V.w) [Blk.mk 3 Mode.rw (K.cs [C.v (Value.int IntKind.i64 8)])]) :=
  G.seg (X := mkX Try.prog (tab libc) Try.f208 [Blk.mk 3 Mode.rw (K.cs [C.v (Value.int IntKind.i64 8)])] ρ w r) ⟨tab_ok libc_ok, mixed⟩ [] 1000000 0 [0, 1, 2, 7, 8] [(0, none)] (k := s208hk0) (vs := [V.str x, V.int IntKind.i64 8, V.w (W.c (C.fn 254 [(0, 0)])), V.w (W.c (C.v (Value.slice none 0 0))), V.int IntKind.i64 0]) (bs := [Blk.mk 3 Mode.rw (K.cs [C.v (Value.int IntKind.i64 8)])]) (by kernel_rfl) (by kernel_rfl)
    onil (G.nilOwn 3 22 (K.ints IntKind.u64 []) rfl rfl rfl (Nat.le_of_ble_eq_true rfl) hg)
theorem s208h_2 {ρ : Env} {w : World} {r : Res} (x : ByteArray) (t8h0 : Int) (b1_0h0 : Nat) (b1_1h0 : List Int) (h1 : IntKind.wrap IntKind.i64 (t8h0 + 8) ≤ (↑(ByteArray.size x) : Int)) (hg : G (mkX Try.prog (tab libc) Try.f208 [Blk.mk 3 Mode.rw (K.cs [C.v (Value.int IntKind.i64 8)])] ρ w r) (s208hst1 (x) (0) (0) (t8h0) (b1_0h0) (b1_1h0))) : G (mkX Try.prog (tab libc) Try.f208 [Blk.mk 3 Mode.rw (K.cs [C.v (Value.int IntKind.i64 8)])] ρ w r) (s208hst0 x t8h0 b1_0h0 b1_1h0) :=
  G.seg (X := mkX Try.prog (tab libc) Try.f208 [Blk.mk 3 Mode.rw (K.cs [C.v (Value.int IntKind.i64 8)])] ρ w r) ⟨tab_ok libc_ok, mixed⟩ [(16, true)] 1000000 0 [0, 1, 2, 7, 8, 9, 20, 21] [(0, none), (1, none)] (k := s208hk1) (vs := [V.str x, V.int IntKind.i64 8, V.w (W.c (C.fn 254 [(0, 0)])), V.w (W.c (C.own 1)), V.int IntKind.i64 t8h0, V.int IntKind.u64 0, V.int IntKind.i64 8, V.int IntKind.i64 0]) (bs := [Blk.mk 3 Mode.rw (K.cs [C.v (Value.int IntKind.i64 8)]), Blk.mk 22 (Mode.own b1_0h0) (K.ints IntKind.u64 b1_1h0)]) (by kernel_rfl) (by kernel_rfl)
    (ocons (decide_eq_true h1) onil) hg
theorem s208h_3 {ρ : Env} {w : World} (x : ByteArray) (t8h0 : Int) (b1_0h0 : Nat) (b1_1h0 : List Int) (h1 : ¬IntKind.wrap IntKind.i64 (t8h0 + 8) ≤ (↑(ByteArray.size x) : Int)) : G (mkX Try.prog (tab libc) Try.f208 [Blk.mk 3 Mode.rw (K.cs [C.v (Value.int IntKind.i64 8)])] ρ w ⟨V.w (W.c (C.own 1)), [], [Blk.mk 22 (Mode.own b1_0h0) (K.ints IntKind.u64 b1_1h0)]⟩) (s208hst0 x t8h0 b1_0h0 b1_1h0) :=
  G.ends (tab_ok libc_ok) mixed [(16, false)] 1000000 [(0, none), (1, none)] (by kernel_rfl) (by kernel_rfl) (by kernel_rfl) (by kernel_rfl)
    (ocons (ndec h1) onil)
theorem s208h_4 {ρ : Env} {w : World} {r : Res} (x : ByteArray) (t9h1 : Int) (t21h1 : Int) (t8h0 : Int) (b1_0h0 : Nat) (b1_1h0 : List Int) (h1 : t21h1 < 8) (h2 : 0 ≤ IntKind.wrap IntKind.i64 (t8h0 + t21h1)) (h3 : IntKind.wrap IntKind.i64 (t8h0 + t21h1) < (↑(ByteArray.size x) : Int)) (h4 : 0 ≤ IntKind.wrap IntKind.i64 (8 * i64 (7 - t21h1))) (hg : G (mkX Try.prog (tab libc) Try.f208 [Blk.mk 3 Mode.rw (K.cs [C.v (Value.int IntKind.i64 8)])] ρ w r) (s208hst1 (x) (orI IntKind.u64 t9h1 (shl IntKind.u64 (IntKind.wrap IntKind.u64 (bt x (IntKind.wrap IntKind.i64 (t8h0 + t21h1)))) (IntKind.wrap IntKind.i64 (8 * i64 (7 - t21h1))))) (IntKind.wrap IntKind.i64 (t21h1 + 1)) (t8h0) (b1_0h0) (b1_1h0))) : G (mkX Try.prog (tab libc) Try.f208 [Blk.mk 3 Mode.rw (K.cs [C.v (Value.int IntKind.i64 8)])] ρ w r) (s208hst1 x t9h1 t21h1 t8h0 b1_0h0 b1_1h0) :=
  G.seg (X := mkX Try.prog (tab libc) Try.f208 [Blk.mk 3 Mode.rw (K.cs [C.v (Value.int IntKind.i64 8)])] ρ w r) ⟨tab_ok libc_ok, mixed⟩ [(22, true)] 1000000 0 [0, 1, 2, 7, 8, 9, 20, 21] [(0, none), (1, none)] (k := s208hk1) (vs := [V.str x, V.int IntKind.i64 8, V.w (W.c (C.fn 254 [(0, 0)])), V.w (W.c (C.own 1)), V.int IntKind.i64 t8h0, V.int IntKind.u64 (orI IntKind.u64 t9h1 (shl IntKind.u64 (IntKind.wrap IntKind.u64 (bt x (IntKind.wrap IntKind.i64 (t8h0 + t21h1)))) (IntKind.wrap IntKind.i64 (8 * i64 (7 - t21h1))))), V.int IntKind.i64 8, V.int IntKind.i64 (IntKind.wrap IntKind.i64 (t21h1 + 1))]) (bs := [Blk.mk 3 Mode.rw (K.cs [C.v (Value.int IntKind.i64 8)]), Blk.mk 22 (Mode.own b1_0h0) (K.ints IntKind.u64 b1_1h0)]) (by kernel_rfl) (by kernel_rfl)
    (ocons (decide_eq_true h1) (ocons (decide_eq_true h2) (ocons (decide_eq_true h3) (ocons (decide_eq_true h4) onil)))) hg
theorem s208h_5 {ρ : Env} {w : World} {r : Res} (x : ByteArray) (t9h1 : Int) (t21h1 : Int) (t8h0 : Int) (b1_0h0 : Nat) (b1_1h0 : List Int) (h1 : ¬t21h1 < 8) (h2 : (b1_0h0 + 1) * 8 ≤ 1099511627776) (h3 : b1_0h0 + 1 ≤ 1099511627776) (hg : G (mkX Try.prog (tab libc) Try.f208 [Blk.mk 3 Mode.rw (K.cs [C.v (Value.int IntKind.i64 8)])] ρ w r) (s208hst0 (x) (IntKind.wrap IntKind.i64 (t8h0 + 8)) (b1_0h0 + 1) (b1_1h0 ++ List.take 1 (List.drop 0 [t9h1])))) : G (mkX Try.prog (tab libc) Try.f208 [Blk.mk 3 Mode.rw (K.cs [C.v (Value.int IntKind.i64 8)])] ρ w r) (s208hst1 x t9h1 t21h1 t8h0 b1_0h0 b1_1h0) :=
  G.seg (X := mkX Try.prog (tab libc) Try.f208 [Blk.mk 3 Mode.rw (K.cs [C.v (Value.int IntKind.i64 8)])] ρ w r) ⟨tab_ok libc_ok, mixed⟩ [(22, false)] 1000000 0 [0, 1, 2, 7, 8] [(0, none), (18, none)] (k := s208hk0) (vs := [V.str x, V.int IntKind.i64 8, V.w (W.c (C.fn 254 [(0, 0)])), V.w (W.c (C.own 1)), V.int IntKind.i64 (IntKind.wrap IntKind.i64 (t8h0 + 8))]) (bs := [Blk.mk 3 Mode.rw (K.cs [C.v (Value.int IntKind.i64 8)]), Blk.mk 22 (Mode.own (b1_0h0 + 1)) (K.ints IntKind.u64 (b1_1h0 ++ List.take 1 (List.drop 0 [t9h1])))]) (by kernel_rfl) (by kernel_rfl)
    (ocons (ndec h1) (ocons (bleT h2) (ocons (bleT h3) (ocons rfl onil)))) hg

theorem s208h (x : ByteArray) (h : x.size ≤ 1000000000) : Sx.Spec Try.prog 208 [.c (.v (.string x)), W.int .i64 8, .c (.fn 254 [(0, 0)])] [⟨3, .rw, .cs [.v (.int .i64 8)]⟩] ⟨.w (.c (.own 1)), [], [⟨22, .own (x.size / 8), .ints .u64 (wordsH 8 (bytesOf x) (x.size / 8))⟩]⟩ := by
  refine spec_body (tab := tab libc) Try.func208 (by kernel_rfl) (by kernel_rfl) (by kernel_rfl) fun ρ w => ?_
  refine s208h_1 x ?_
  refine G.loop (fun i => s208hst0 x ((8 * i : Nat) : Int) i (wordsH 8 (bytesOf x) i)) (x.size / 8) (fun i hi hg => ?_) ?_
  · have e0 : IntKind.wrap .i64 (((8 * i : Nat) : Int) + 8) = ((8 * (i + 1) : Nat) : Int) := by rw [i64w] <;> omega
    refine s208h_2 x _ _ _ (by rw [e0]; omega) ?_
    refine G.loop (fun j => s208hst1 x (beV (((bytesOf x).drop (8 * i)).take j) * 256 ^ (8 - j)) (j : Int) ((8 * i : Nat) : Int) i (wordsH 8 (bytesOf x) i)) 8 (fun j hj hg2 => ?_) ?_
    · have e1 : IntKind.wrap .i64 (((8 * i : Nat) : Int) + (j : Int)) = ((8 * i + j : Nat) : Int) := by rw [i64w] <;> omega
      have hb := bt_range x ((8 * i + j : Nat) : Int)
      have e3 : IntKind.wrap .u64 (bt x ((8 * i + j : Nat) : Int)) = bt x ((8 * i + j : Nat) : Int) := w64_id hb.1 (by omega)
      have e2 : IntKind.wrap .i64 (8 * i64 (7 - (j : Int))) = ((8 * (8 - 1 - j) : Nat) : Int) := by rw [i64_id (n := 7 - (j : Int)) (by omega) (by omega), i64w] <;> omega
      refine s208h_4 x _ _ _ _ _ (by omega) (by rw [e1]; omega) (by rw [e1]; omega) (by rw [e2]; omega) ?_
      rw [e1, e2, e3, i64s j (by omega), hi_step un64 8 rfl x (8 * i) j hj (by omega)]
      exact hg2
    · refine s208h_5 x _ _ _ _ _ (by omega) (by omega) (by omega) ?_
      rw [e0]
      rw [wordsH_succ] at hg
      have e4 : beV (((bytesOf x).drop (8 * i)).take 8) * 256 ^ (8 - 8) = beV (chunk 8 (bytesOf x) i) := by simp [chunk]
      rw [e4]
      exact hg
  · exact s208h_3 x _ _ _ (by rw [i64w] <;> omega)
noncomputable def s208lk0 : List Item := kAt Try.prog (tab libc) Try.f208 [] 0 [W.c (C.v (Value.string ByteArray.empty)), W.int IntKind.i64 8, W.c (C.v (Value.func (Fn.func 255) #[] #[]))] []
noncomputable def s208lst0 (x : ByteArray) (t8h0 : Int) (b0_0h0 : Nat) (b0_1h0 : List Int) : Cfg := cfg s208lk0 [0, 1, 2, 7, 8] [V.str x, V.int IntKind.i64 8, V.w (W.c (C.v (Value.func (Fn.func 255) #[] #[]))), V.w (W.c (C.own 0)), V.int IntKind.i64 t8h0] [Blk.mk 22 (Mode.own b0_0h0) (K.ints IntKind.u64 b0_1h0)]
noncomputable def s208lk1 : List Item := kAt Try.prog (tab libc) Try.f208 [(16, true)] 1 [W.c (C.v (Value.string ByteArray.empty)), W.int IntKind.i64 8, W.c (C.v (Value.func (Fn.func 255) #[] #[]))] []
noncomputable def s208lst1 (x : ByteArray) (t9h1 : Int) (t21h1 : Int) (t8h0 : Int) (b0_0h0 : Nat) (b0_1h0 : List Int) : Cfg := cfg s208lk1 [0, 1, 2, 7, 8, 9, 20, 21] [V.str x, V.int IntKind.i64 8, V.w (W.c (C.v (Value.func (Fn.func 255) #[] #[]))), V.w (W.c (C.own 0)), V.int IntKind.i64 t8h0, V.int IntKind.u64 t9h1, V.int IntKind.i64 8, V.int IntKind.i64 t21h1] [Blk.mk 22 (Mode.own b0_0h0) (K.ints IntKind.u64 b0_1h0)]
theorem s208l_1 {ρ : Env} {w : World} {r : Res} (x : ByteArray) (hg : G (mkX Try.prog (tab libc) Try.f208 [] ρ w r) (s208lst0 (x) (0) (0) ([]))) : G (mkX Try.prog (tab libc) Try.f208 [] ρ w r) (cfg [.code (Try.f208.body.getD .skip)] (List.range 3) ([W.c (C.v (Value.string x)), W.int IntKind.i64 8, W.c (C.v (Value.func (Fn.func 255) #[] #[]))].map V.w) []) :=
  G.seg (X := mkX Try.prog (tab libc) Try.f208 [] ρ w r) ⟨tab_ok libc_ok, mixed⟩ [] 1000000 0 [0, 1, 2, 7, 8] [] (k := s208lk0) (vs := [V.str x, V.int IntKind.i64 8, V.w (W.c (C.v (Value.func (Fn.func 255) #[] #[]))), V.w (W.c (C.v (Value.slice none 0 0))), V.int IntKind.i64 0]) (bs := []) (by kernel_rfl) (by kernel_rfl)
    onil (G.nilOwn 3 22 (K.ints IntKind.u64 []) rfl rfl rfl (Nat.le_of_ble_eq_true rfl) hg)
theorem s208l_2 {ρ : Env} {w : World} {r : Res} (x : ByteArray) (t8h0 : Int) (b0_0h0 : Nat) (b0_1h0 : List Int) (h1 : IntKind.wrap IntKind.i64 (t8h0 + 8) ≤ (↑(ByteArray.size x) : Int)) (hg : G (mkX Try.prog (tab libc) Try.f208 [] ρ w r) (s208lst1 (x) (0) (0) (t8h0) (b0_0h0) (b0_1h0))) : G (mkX Try.prog (tab libc) Try.f208 [] ρ w r) (s208lst0 x t8h0 b0_0h0 b0_1h0) :=
  G.seg (X := mkX Try.prog (tab libc) Try.f208 [] ρ w r) ⟨tab_ok libc_ok, mixed⟩ [(16, true)] 1000000 0 [0, 1, 2, 7, 8, 9, 20, 21] [(0, none)] (k := s208lk1) (vs := [V.str x, V.int IntKind.i64 8, V.w (W.c (C.v (Value.func (Fn.func 255) #[] #[]))), V.w (W.c (C.own 0)), V.int IntKind.i64 t8h0, V.int IntKind.u64 0, V.int IntKind.i64 8, V.int IntKind.i64 0]) (bs := [Blk.mk 22 (Mode.own b0_0h0) (K.ints IntKind.u64 b0_1h0)]) (by kernel_rfl) (by kernel_rfl)
    (ocons (decide_eq_true h1) onil) hg
theorem s208l_3 {ρ : Env} {w : World} (x : ByteArray) (t8h0 : Int) (b0_0h0 : Nat) (b0_1h0 : List Int) (h1 : ¬IntKind.wrap IntKind.i64 (t8h0 + 8) ≤ (↑(ByteArray.size x) : Int)) : G (mkX Try.prog (tab libc) Try.f208 [] ρ w ⟨V.w (W.c (C.own 0)), [], [Blk.mk 22 (Mode.own b0_0h0) (K.ints IntKind.u64 b0_1h0)]⟩) (s208lst0 x t8h0 b0_0h0 b0_1h0) :=
  G.ends (tab_ok libc_ok) mixed [(16, false)] 1000000 [(0, none)] (by kernel_rfl) (by kernel_rfl) (by kernel_rfl) (by kernel_rfl)
    (ocons (ndec h1) onil)
theorem s208l_4 {ρ : Env} {w : World} {r : Res} (x : ByteArray) (t9h1 : Int) (t21h1 : Int) (t8h0 : Int) (b0_0h0 : Nat) (b0_1h0 : List Int) (h1 : t21h1 < 8) (h2 : 0 ≤ IntKind.wrap IntKind.i64 (t8h0 + t21h1)) (h3 : IntKind.wrap IntKind.i64 (t8h0 + t21h1) < (↑(ByteArray.size x) : Int)) (h4 : 0 ≤ IntKind.wrap IntKind.i64 (8 * t21h1)) (hg : G (mkX Try.prog (tab libc) Try.f208 [] ρ w r) (s208lst1 (x) (orI IntKind.u64 t9h1 (shl IntKind.u64 (IntKind.wrap IntKind.u64 (bt x (IntKind.wrap IntKind.i64 (t8h0 + t21h1)))) (IntKind.wrap IntKind.i64 (8 * t21h1)))) (IntKind.wrap IntKind.i64 (t21h1 + 1)) (t8h0) (b0_0h0) (b0_1h0))) : G (mkX Try.prog (tab libc) Try.f208 [] ρ w r) (s208lst1 x t9h1 t21h1 t8h0 b0_0h0 b0_1h0) :=
  G.seg (X := mkX Try.prog (tab libc) Try.f208 [] ρ w r) ⟨tab_ok libc_ok, mixed⟩ [(22, true)] 1000000 0 [0, 1, 2, 7, 8, 9, 20, 21] [(0, none)] (k := s208lk1) (vs := [V.str x, V.int IntKind.i64 8, V.w (W.c (C.v (Value.func (Fn.func 255) #[] #[]))), V.w (W.c (C.own 0)), V.int IntKind.i64 t8h0, V.int IntKind.u64 (orI IntKind.u64 t9h1 (shl IntKind.u64 (IntKind.wrap IntKind.u64 (bt x (IntKind.wrap IntKind.i64 (t8h0 + t21h1)))) (IntKind.wrap IntKind.i64 (8 * t21h1)))), V.int IntKind.i64 8, V.int IntKind.i64 (IntKind.wrap IntKind.i64 (t21h1 + 1))]) (bs := [Blk.mk 22 (Mode.own b0_0h0) (K.ints IntKind.u64 b0_1h0)]) (by kernel_rfl) (by kernel_rfl)
    (ocons (decide_eq_true h1) (ocons (decide_eq_true h2) (ocons (decide_eq_true h3) (ocons (decide_eq_true h4) onil)))) hg
theorem s208l_5 {ρ : Env} {w : World} {r : Res} (x : ByteArray) (t9h1 : Int) (t21h1 : Int) (t8h0 : Int) (b0_0h0 : Nat) (b0_1h0 : List Int) (h1 : ¬t21h1 < 8) (h2 : (b0_0h0 + 1) * 8 ≤ 1099511627776) (h3 : b0_0h0 + 1 ≤ 1099511627776) (hg : G (mkX Try.prog (tab libc) Try.f208 [] ρ w r) (s208lst0 (x) (IntKind.wrap IntKind.i64 (t8h0 + 8)) (b0_0h0 + 1) (b0_1h0 ++ List.take 1 (List.drop 0 [t9h1])))) : G (mkX Try.prog (tab libc) Try.f208 [] ρ w r) (s208lst1 x t9h1 t21h1 t8h0 b0_0h0 b0_1h0) :=
  G.seg (X := mkX Try.prog (tab libc) Try.f208 [] ρ w r) ⟨tab_ok libc_ok, mixed⟩ [(22, false)] 1000000 0 [0, 1, 2, 7, 8] [(17, none)] (k := s208lk0) (vs := [V.str x, V.int IntKind.i64 8, V.w (W.c (C.v (Value.func (Fn.func 255) #[] #[]))), V.w (W.c (C.own 0)), V.int IntKind.i64 (IntKind.wrap IntKind.i64 (t8h0 + 8))]) (bs := [Blk.mk 22 (Mode.own (b0_0h0 + 1)) (K.ints IntKind.u64 (b0_1h0 ++ List.take 1 (List.drop 0 [t9h1])))]) (by kernel_rfl) (by kernel_rfl)
    (ocons (ndec h1) (ocons (bleT h2) (ocons (bleT h3) (ocons rfl onil)))) hg

theorem s208l (x : ByteArray) (h : x.size ≤ 1000000000) : Sx.Spec Try.prog 208 [.c (.v (.string x)), W.int .i64 8, .c (.v (.func (.func 255) #[] #[]))] [] ⟨.w (.c (.own 0)), [], [⟨22, .own (x.size / 8), .ints .u64 (wordsL 8 (bytesOf x) (x.size / 8))⟩]⟩ := by
  refine spec_body (tab := tab libc) Try.func208 (by kernel_rfl) (by kernel_rfl) (by kernel_rfl) fun ρ w => ?_
  refine s208l_1 x ?_
  refine G.loop (fun i => s208lst0 x ((8 * i : Nat) : Int) i (wordsL 8 (bytesOf x) i)) (x.size / 8) (fun i hi hg => ?_) ?_
  · have e0 : IntKind.wrap .i64 (((8 * i : Nat) : Int) + 8) = ((8 * (i + 1) : Nat) : Int) := by rw [i64w] <;> omega
    refine s208l_2 x _ _ _ (by rw [e0]; omega) ?_
    refine G.loop (fun j => s208lst1 x (leV (((bytesOf x).drop (8 * i)).take j)) (j : Int) ((8 * i : Nat) : Int) i (wordsL 8 (bytesOf x) i)) 8 (fun j hj hg2 => ?_) ?_
    · have e1 : IntKind.wrap .i64 (((8 * i : Nat) : Int) + (j : Int)) = ((8 * i + j : Nat) : Int) := by rw [i64w] <;> omega
      have hb := bt_range x ((8 * i + j : Nat) : Int)
      have e3 : IntKind.wrap .u64 (bt x ((8 * i + j : Nat) : Int)) = bt x ((8 * i + j : Nat) : Int) := w64_id hb.1 (by omega)
      have e2 : IntKind.wrap .i64 (8 * (j : Int)) = ((8 * j : Nat) : Int) := by rw [i64w] <;> omega
      refine s208l_4 x _ _ _ _ _ (by omega) (by rw [e1]; omega) (by rw [e1]; omega) (by rw [e2]; omega) ?_
      rw [e1, e2, e3, i64s j (by omega), lo_step un64 8 rfl x (8 * i) j hj (by omega)]
      exact hg2
    · refine s208l_5 x _ _ _ _ _ (by omega) (by omega) (by omega) ?_
      rw [e0]
      rw [wordsL_succ] at hg
      exact hg
  · exact s208l_3 x _ _ _ (by rw [i64w] <;> omega)
end Go.Proofs.Ytmjejlbmcefaoaa
