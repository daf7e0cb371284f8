/- What the functions of the packages mix and sealringref15 compute. -/
import Derived.Test.YtmjejlbmcefaoaaBase
namespace Go.Proofs.Ytmjejlbmcefaoaa
open Go Sx

abbrev wr (k : IntKind) (n : Int) : Int := k.wrap n
abbrev u64 (n : Int) : Int := IntKind.u64.wrap n
abbrev u32 (n : Int) : Int := IntKind.u32.wrap n
abbrev i64 (n : Int) : Int := IntKind.i64.wrap n

def shl (k : IntKind) (a b : Int) : Int := k.wrap (a * 2 ^ (min b.toNat k.bits))
def shr (k : IntKind) (a b : Int) : Int := a.fdiv (2 ^ (min b.toNat k.bits))
def orI (k : IntKind) (a b : Int) : Int := k.wrap (BitVec.ofInt k.bits a ||| BitVec.ofInt k.bits b).toNat
def andI (k : IntKind) (a b : Int) : Int := k.wrap (BitVec.ofInt k.bits a &&& BitVec.ofInt k.bits b).toNat
def xorI (k : IntKind) (a b : Int) : Int := k.wrap (BitVec.ofInt k.bits a ^^^ BitVec.ofInt k.bits b).toNat

/-! mix.size -/
theorem s190 (x : Int) : Sx.Spec Try.prog 190 [W.int .u32 x] [] ⟨V.int .i64 32, [], []⟩ :=
  spec_of_whole (tab_ok (.nil _)) mixed Try.func190 [] 1000000 [] (o := []) (by kernel_rfl) (by kernel_rfl) (by kernel_rfl) (by kernel_rfl) (by kernel_rfl) (by kernel_rfl) onil
theorem s191 (x : Int) : Sx.Spec Try.prog 191 [W.int .u64 x] [] ⟨V.int .i64 64, [], []⟩ :=
  spec_of_whole (tab_ok (.nil _)) mixed Try.func191 [] 1000000 [] (o := []) (by kernel_rfl) (by kernel_rfl) (by kernel_rfl) (by kernel_rfl) (by kernel_rfl) (by kernel_rfl) onil

def e190 : Entry := fun args ms => match args, ms with
  | [.c (.v (.int .u32 _))], [] => some (⟨V.int .i64 32, [], []⟩, [])
  | _, _ => none
def e191 : Entry := fun args ms => match args, ms with
  | [.c (.v (.int .u64 _))], [] => some (⟨V.int .i64 64, [], []⟩, [])
  | _, _ => none
theorem ok190 : EntryOk Try.prog 190 e190 := by
  intro args ms r obs h ho
  unfold e190 at h
  split at h
  · cases h; exact s190 _
  · cases h
theorem ok191 : EntryOk Try.prog 191 e191 := by
  intro args ms r obs h ho
  unfold e191 at h
  split at h
  · cases h; exact s191 _
  · cases h

/-! sealringref15.Bit -/
def bitM (x i : Int) : Int := (shr .u64 x i).tmod 2
theorem s189 (x i : Int) (hi : 0 ≤ i) : Sx.Spec Try.prog 189 [W.int .u64 x, W.int .i64 i] [] ⟨V.int .u64 (bitM x i), [], []⟩ :=
  spec_of_whole (tab_ok (.nil _)) mixed Try.func189 [] 1000000 [] (o := [decide (0 ≤ i), true]) (by kernel_rfl) (by kernel_rfl) (by kernel_rfl) (by kernel_rfl) (by kernel_rfl) (by kernel_rfl) (ocons (by simpa using hi) (ocons rfl onil))
def e189 : Entry := fun args ms => match args, ms with
  | [.c (.v (.int .u64 x)), .c (.v (.int .i64 i))], [] => some (⟨V.int .u64 (bitM x i), [], []⟩, [decide (0 ≤ i)])
  | _, _ => none
theorem ok189 : EntryOk Try.prog 189 e189 := by
  intro args ms r obs h ho
  unfold e189 at h
  split at h
  · cases h; exact s189 _ _ (by simpa using ho)
  · cases h

def lib1 : List (Nat × Entry) := [(189, e189), (190, e190), (191, e191)]
theorem lib1_ok : AllOk Try.prog lib1 := .cons ok189 (.cons ok190 (.cons ok191 (.nil _)))

/-! mix.Right -/
def rightM (k : IntKind) (b : Int) (x n : Int) : Int :=
  orI k (shr k x ((i64 (n.tmod b + b)).tmod b)) (shl k x (i64 (b - (i64 (n.tmod b + b)).tmod b)))

theorem right_m (n : Int) (b : Int) (hb : 0 < b) (h2 : b ≤ 64) : i64 (n.tmod b + b) = n.tmod b + b ∧ 0 < n.tmod b + b ∧ 0 ≤ (n.tmod b + b).tmod b ∧ (n.tmod b + b).tmod b < b := by
  have h1 : -b < n.tmod b := by
    have := Int.lt_tmod_of_pos n hb
    omega
  have h3 : n.tmod b < b := Int.tmod_lt_of_pos n hb
  refine ⟨?_, by omega, Int.tmod_nonneg _ (by omega), Int.tmod_lt_of_pos _ hb⟩
  simp only [IntKind.wrap, IntKind.signed, IntKind.bits]
  simp
  omega

theorem s37 (x n : Int) : Sx.Spec Try.prog 37 [W.int .u32 x, W.int .i64 n] [] ⟨V.int .u32 (rightM .u32 32 x n), [], []⟩ :=
  spec_of_whole (tab_ok lib1_ok) mixed Try.func37 [] 1000000 [] (o := [true, true, decide (0 ≤ (i64 (n.tmod 32 + 32)).tmod 32), decide (0 ≤ i64 (32 - (i64 (n.tmod 32 + 32)).tmod 32))]) (by kernel_rfl) (by kernel_rfl) (by kernel_rfl) (by kernel_rfl) (by kernel_rfl) (by kernel_rfl) (by
    obtain ⟨h1, h2, h3, h4⟩ := right_m n 32 (by omega) (by omega)
    rw [h1]
    refine ocons rfl (ocons rfl (ocons (by simpa using h3) (ocons ?_ onil)))
    simp only [IntKind.wrap, IntKind.signed, IntKind.bits, decide_eq_true_eq]
    simp
    omega)

theorem s38 (x n : Int) : Sx.Spec Try.prog 38 [W.int .u64 x, W.int .i64 n] [] ⟨V.int .u64 (rightM .u64 64 x n), [], []⟩ :=
  spec_of_whole (tab_ok lib1_ok) mixed Try.func38 [] 1000000 [] (o := [true, true, decide (0 ≤ (i64 (n.tmod 64 + 64)).tmod 64), decide (0 ≤ i64 (64 - (i64 (n.tmod 64 + 64)).tmod 64))]) (by kernel_rfl) (by kernel_rfl) (by kernel_rfl) (by kernel_rfl) (by kernel_rfl) (by kernel_rfl) (by
    obtain ⟨h1, h2, h3, h4⟩ := right_m n 64 (by omega) (by omega)
    rw [h1]
    refine ocons rfl (ocons rfl (ocons (by simpa using h3) (ocons ?_ onil)))
    simp only [IntKind.wrap, IntKind.signed, IntKind.bits, decide_eq_true_eq]
    simp
    omega)

def e37 : Entry := fun args ms => match args, ms with
  | [.c (.v (.int .u32 x)), .c (.v (.int .i64 n))], [] => some (⟨V.int .u32 (rightM .u32 32 x n), [], []⟩, [])
  | _, _ => none
def e38 : Entry := fun args ms => match args, ms with
  | [.c (.v (.int .u64 x)), .c (.v (.int .i64 n))], [] => some (⟨V.int .u64 (rightM .u64 64 x n), [], []⟩, [])
  | _, _ => none
theorem ok37 : EntryOk Try.prog 37 e37 := by
  intro args ms r obs h ho
  unfold e37 at h
  split at h
  · cases h; exact s37 _ _
  · cases h
theorem ok38 : EntryOk Try.prog 38 e38 := by
  intro args ms r obs h ho
  unfold e38 at h
  split at h
  · cases h; exact s38 _ _
  · cases h
def lib2 : List (Nat × Entry) := [(37, e37), (38, e38)] ++ lib1
theorem lib2_ok : AllOk Try.prog lib2 := .append (.cons ok37 (.cons ok38 (.nil _))) lib1_ok

/-! sealringref15.Right -/
def rK (n many : Int) : Int := if n.tmod many < 0 then i64 (n.tmod many + many) else n.tmod many
def rStep (x k many : Int) (j : Nat) (y : Int) : Int := u64 (y + shl .u64 (bitM x ((i64 ((j : Int) + k)).tmod many)) (j : Int))
def rSum (x k many : Int) : Nat → Int
  | 0 => 0
  | j + 1 => rStep x k many j (rSum x k many j)
def rRight (x n many : Int) : Int := rSum x (rK n many) many many.toNat

theorem rK_range (n many : Int) (h0 : 0 < many) (h1 : many ≤ 64) : 0 ≤ rK n many ∧ rK n many < many := by
  have a : -many < n.tmod many := by
    have := Int.lt_tmod_of_pos n h0
    omega
  have b : n.tmod many < many := Int.tmod_lt_of_pos n h0
  unfold rK
  simp only [IntKind.wrap, IntKind.signed, IntKind.bits]
  simp
  split <;> omega

theorem i64_id {n : Int} (h0 : -9223372036854775808 ≤ n) (h1 : n ≤ 9223372036854775807) : i64 n = n := by
  simp only [IntKind.wrap, IntKind.signed, IntKind.bits]
  simp
  omega

noncomputable def k36 : List Item := kAt Try.prog (tab lib1) Try.f36 [(14, false)] 0 [W.int .u64 0, W.int .i64 0, W.int .i64 32] []
noncomputable def st36 (x k many : Int) (j : Nat) : Cfg := cfg k36 [0, 2, 7, 8, 9] [V.int .u64 x, V.int .i64 many, V.int .i64 k, V.int .u64 (rSum x k many j), V.int .i64 j] []

theorem loop36 {x k many : Int} (h0 : 0 < many) (h1 : many ≤ 64) (hk : 0 ≤ k ∧ k < many) (ρ : Env) (w : World) :
    G (mkX Try.prog (tab lib1) Try.f36 [] ρ w ⟨V.int .u64 (rSum x k many many.toNat), [], []⟩) (st36 x k many 0) := by
  refine G.loop (st36 x k many) many.toNat (fun j hj hg => ?_) ?_
  · have e1 : i64 ((j : Int) + 1) = ((j + 1 : Nat) : Int) := by rw [i64_id] <;> omega
    have e2 : i64 ((j : Int) + k) = (j : Int) + k := by rw [i64_id] <;> omega
    refine G.seg ⟨tab_ok lib1_ok, mixed⟩ [(20, true)] 1000000 0 [0, 2, 7, 8, 9] [] (k := k36) (vs := [V.int .u64 x, V.int .i64 many, V.int .i64 k, V.int .u64 (rStep x k many j (rSum x k many j)), V.int .i64 (i64 ((j : Int) + 1))]) (bs := [])
      (o := [decide ((j : Int) < many), !(decide (many = 0)), decide (0 ≤ (i64 ((j : Int) + k)).tmod many), decide (0 ≤ (j : Int))]) (by kernel_rfl) (by kernel_rfl) ?_ ?_
    · refine ocons (by simp; omega) (ocons (by simp; omega) (ocons ?_ (ocons (by simp) onil)))
      rw [e2]
      simpa using Int.tmod_nonneg _ (by omega)
    · rw [e1]
      exact hg
  · refine G.ends (tab_ok lib1_ok) mixed [(20, false)] 1000000 [] (o := [!(decide ((many.toNat : Int) < many))]) (by kernel_rfl) (by kernel_rfl) (by kernel_rfl) (by kernel_rfl) ?_
    exact ocons (by simp; omega) onil

theorem s36 (x n many : Int) (h0 : 0 < many) (h1 : many ≤ 64) : Sx.Spec Try.prog 36 [W.int .u64 x, W.int .i64 n, W.int .i64 many] [] ⟨V.int .u64 (rRight x n many), [], []⟩ := by
  refine spec_body (tab := tab lib1) Try.func36 (by kernel_rfl) (by kernel_rfl) (by kernel_rfl) fun ρ w => ?_
  have hk := rK_range n many h0 h1
  have hl := loop36 (x := x) h0 h1 hk ρ w
  have hm : (!(decide (many = 0))) = true := by simp; omega
  by_cases hn : n.tmod many < 0
  · have e : rK n many = i64 (n.tmod many + many) := if_pos hn
    rw [e] at hl
    have e2 : rRight x n many = rSum x (i64 (n.tmod many + many)) many many.toNat := by unfold rRight; rw [e]
    rw [e2]
    exact G.seg ⟨tab_ok lib1_ok, mixed⟩ [(14, true)] 1000000 0 [0, 2, 7, 8, 9] [] (k := k36) (vs := [V.int .u64 x, V.int .i64 many, V.int .i64 (i64 (n.tmod many + many)), V.int .u64 0, V.int .i64 0]) (bs := [])
      (o := [!(decide (many = 0)), decide (n.tmod many < 0)]) (by kernel_rfl) (by kernel_rfl) (ocons hm (ocons (by simpa using hn) onil)) hl
  · have e : rK n many = n.tmod many := if_neg hn
    rw [e] at hl
    have e2 : rRight x n many = rSum x (n.tmod many) many many.toNat := by unfold rRight; rw [e]
    rw [e2]
    exact G.seg ⟨tab_ok lib1_ok, mixed⟩ [(14, false)] 1000000 0 [0, 2, 7, 8, 9] [] (k := k36) (vs := [V.int .u64 x, V.int .i64 many, V.int .i64 (n.tmod many), V.int .u64 0, V.int .i64 0]) (bs := [])
      (o := [!(decide (many = 0)), !(decide (n.tmod many < 0))]) (by kernel_rfl) (by kernel_rfl) (ocons hm (ocons (by simpa using hn) onil)) hl

def e36 : Entry := fun args ms => match args, ms with
  | [.c (.v (.int .u64 x)), .c (.v (.int .i64 n)), .c (.v (.int .i64 many))], [] => some (⟨V.int .u64 (rRight x n many), [], []⟩, [decide (0 < many), decide (many ≤ 64)])
  | _, _ => none
theorem ok36 : EntryOk Try.prog 36 e36 := by
  intro args ms r obs h ho
  unfold e36 at h
  split at h
  · cases h; exact s36 _ _ _ (by simpa using ho (decide _) (List.mem_cons_self ..)) (by simpa using ho (decide (_ ≤ 64)) (by simp))
  · cases h
end Go.Proofs.Ytmjejlbmcefaoaa
