/- What mix.Turns computes; the examples of layer 15. -/
import Derived.Test.YtmjejlbmcefaoaaMixA
namespace Go.Proofs.Ytmjejlbmcefaoaa
open Go Sx

def tSum (k : IntKind) (b x : Int) (l : List Int) : Nat → Int
  | 0 => 0
  | j + 1 => xorI k (tSum k b x l j) (rightM k b x (l.getD j 0))
def turnsM (k : IntKind) (b x : Int) (l : List Int) : Int := tSum k b x l l.length

noncomputable def k39 : List Item := kAt Try.prog (tab lib2) Try.f39 [] 0 [W.int .u32 0, .c (.sl 0 0 0)] [⟨0, .ro, .ints .i64 []⟩]
noncomputable def st39 (x : Int) (l : List Int) (t : Nat) (j : Nat) : Cfg := cfg k39 [0, 5, 8, 9, 10] [V.int .u32 x, V.int .u32 (tSum .u32 32 x l j), .w (.c (.sl 0 0 l.length)), V.int .i64 l.length, V.int .i64 j] [⟨t, .ro, .ints .i64 l⟩]

theorem s39 (x : Int) (l : List Int) (t : Nat) (hl : l.length ≤ maxLen) : Sx.Spec Try.prog 39 [W.int .u32 x, .c (.sl 0 0 l.length)] [⟨t, .ro, .ints .i64 l⟩] ⟨V.int .u32 (turnsM .u32 32 x l), [], []⟩ := by
  refine spec_body (tab := tab lib2) Try.func39 (by kernel_rfl) (by kernel_rfl) (by kernel_rfl) fun ρ w => ?_
  refine G.seg ⟨tab_ok lib2_ok, mixed⟩ [] 1000000 0 [0, 5, 8, 9, 10] [(0, none)] (k := k39) (vs := [V.int .u32 x, V.int .u32 0, .w (.c (.sl 0 0 l.length)), V.int .i64 l.length, V.int .i64 0]) (bs := [⟨t, .ro, .ints .i64 l⟩])
    (o := []) (by kernel_rfl) (by kernel_rfl) onil ?_
  refine G.loop (st39 x l t) l.length (fun j hj hg => ?_) ?_
  · have e1 : i64 ((j : Int) + 1) = ((j + 1 : Nat) : Int) := by rw [i64_id] <;> simp [maxLen] at * <;> omega
    refine G.seg ⟨tab_ok lib2_ok, mixed⟩ [(11, true)] 1000000 0 [0, 5, 8, 9, 10] [(0, none)] (k := k39) (vs := [V.int .u32 x, V.int .u32 (tSum .u32 32 x l (j + 1)), .w (.c (.sl 0 0 l.length)), V.int .i64 l.length, V.int .i64 (i64 ((j : Int) + 1))]) (bs := [⟨t, .ro, .ints .i64 l⟩])
      (o := [decide ((j : Int) < (l.length : Int)), decide (0 ≤ (j : Int)), decide ((j : Int) < (l.length : Int)), Nat.blt j l.length]) (by kernel_rfl) (by kernel_rfl) ?_ ?_
    · exact ocons (by simpa using hj) (ocons (by simp) (ocons (by simpa using hj) (ocons (by simpa using hj) onil)))
    · rw [e1]
      exact hg
  · refine G.ends (tab_ok lib2_ok) mixed [(11, false)] 1000000 [(0, none)] (o := [!(decide ((l.length : Int) < (l.length : Int)))]) (by kernel_rfl) (by kernel_rfl) (by kernel_rfl) (by kernel_rfl) ?_
    exact ocons (by simp) onil
noncomputable def k40 : List Item := kAt Try.prog (tab lib2) Try.f40 [] 0 [W.int .u64 0, .c (.sl 0 0 0)] [⟨0, .ro, .ints .i64 []⟩]
noncomputable def st40 (x : Int) (l : List Int) (t : Nat) (j : Nat) : Cfg := cfg k40 [0, 5, 8, 9, 10] [V.int .u64 x, V.int .u64 (tSum .u64 64 x l j), .w (.c (.sl 0 0 l.length)), V.int .i64 l.length, V.int .i64 j] [⟨t, .ro, .ints .i64 l⟩]

theorem s40 (x : Int) (l : List Int) (t : Nat) (hl : l.length ≤ maxLen) : Sx.Spec Try.prog 40 [W.int .u64 x, .c (.sl 0 0 l.length)] [⟨t, .ro, .ints .i64 l⟩] ⟨V.int .u64 (turnsM .u64 64 x l), [], []⟩ := by
  refine spec_body (tab := tab lib2) Try.func40 (by kernel_rfl) (by kernel_rfl) (by kernel_rfl) fun ρ w => ?_
  refine G.seg ⟨tab_ok lib2_ok, mixed⟩ [] 1000000 0 [0, 5, 8, 9, 10] [(0, none)] (k := k40) (vs := [V.int .u64 x, V.int .u64 0, .w (.c (.sl 0 0 l.length)), V.int .i64 l.length, V.int .i64 0]) (bs := [⟨t, .ro, .ints .i64 l⟩])
    (o := []) (by kernel_rfl) (by kernel_rfl) onil ?_
  refine G.loop (st40 x l t) l.length (fun j hj hg => ?_) ?_
  · have e1 : i64 ((j : Int) + 1) = ((j + 1 : Nat) : Int) := by rw [i64_id] <;> simp [maxLen] at * <;> omega
    refine G.seg ⟨tab_ok lib2_ok, mixed⟩ [(11, true)] 1000000 0 [0, 5, 8, 9, 10] [(0, none)] (k := k40) (vs := [V.int .u64 x, V.int .u64 (tSum .u64 64 x l (j + 1)), .w (.c (.sl 0 0 l.length)), V.int .i64 l.length, V.int .i64 (i64 ((j : Int) + 1))]) (bs := [⟨t, .ro, .ints .i64 l⟩])
      (o := [decide ((j : Int) < (l.length : Int)), decide (0 ≤ (j : Int)), decide ((j : Int) < (l.length : Int)), Nat.blt j l.length]) (by kernel_rfl) (by kernel_rfl) ?_ ?_
    · exact ocons (by simpa using hj) (ocons (by simp) (ocons (by simpa using hj) (ocons (by simpa using hj) onil)))
    · rw [e1]
      exact hg
  · refine G.ends (tab_ok lib2_ok) mixed [(11, false)] 1000000 [(0, none)] (o := [!(decide ((l.length : Int) < (l.length : Int)))]) (by kernel_rfl) (by kernel_rfl) (by kernel_rfl) (by kernel_rfl) ?_
    exact ocons (by simp) onil

def E39 : Entry := fun args ms => match args, ms with
  | [.c (.v (.int .u32 x)), .c (.sl 0 0 n)], [⟨_, .ro, .ints .i64 l⟩] => some (⟨V.int .u32 (turnsM .u32 32 x l), [], []⟩, [Nat.beq n l.length, decide (l.length ≤ maxLen)])
  | _, _ => none
theorem Ok39 : EntryOk Try.prog 39 E39 := by
  intro args ms r obs h ho
  unfold E39 at h
  split at h
  · cases h
    have := Nat.beq_eq.mp (ohead ho)
    subst this
    exact s39 _ _ _ (by simpa using ohead (otail ho))
  · cases h

def E40 : Entry := fun args ms => match args, ms with
  | [.c (.v (.int .u64 x)), .c (.sl 0 0 n)], [⟨_, .ro, .ints .i64 l⟩] => some (⟨V.int .u64 (turnsM .u64 64 x l), [], []⟩, [Nat.beq n l.length, decide (l.length ≤ maxLen)])
  | _, _ => none
theorem Ok40 : EntryOk Try.prog 40 E40 := by
  intro args ms r obs h ho
  unfold E40 at h
  split at h
  · cases h
    have := Nat.beq_eq.mp (ohead ho)
    subst this
    exact s40 _ _ _ (by simpa using ohead (otail ho))
  · cases h

/-! Choose, Most -/
def notI (k : IntKind) (n : Int) : Int := k.wrap (BitVec.ofInt k.bits (if k.signed then -1 else k.max) ^^^ BitVec.ofInt k.bits n).toNat
def chooseM (k : IntKind) (x y z : Int) : Int := xorI k (andI k x y) (andI k (notI k x) z)
def mostM (k : IntKind) (x y z : Int) : Int := xorI k (xorI k (andI k x y) (andI k x z)) (andI k y z)

theorem s44 (x y z : Int) : Sx.Spec Try.prog 44 [W.int .u32 x, W.int .u32 y, W.int .u32 z] [] ⟨V.int .u32 (chooseM .u32 x y z), [], []⟩ :=
  spec_of_whole (tab_ok (.nil _)) mixed Try.func44 [] 1000000 [] (o := []) (by kernel_rfl) (by kernel_rfl) (by kernel_rfl) (by kernel_rfl) (by kernel_rfl) (by kernel_rfl) onil
def e44 : Entry := fun args ms => match args, ms with
  | [.c (.v (.int .u32 x)), .c (.v (.int .u32 y)), .c (.v (.int .u32 z))], [] => some (⟨V.int .u32 (chooseM .u32 x y z), [], []⟩, [])
  | _, _ => none
theorem ok44 : EntryOk Try.prog 44 e44 := by
  intro args ms r obs h ho
  unfold e44 at h
  split at h
  · cases h; exact s44 _ _ _
  · cases h

theorem s42 (x y z : Int) : Sx.Spec Try.prog 42 [W.int .u64 x, W.int .u64 y, W.int .u64 z] [] ⟨V.int .u64 (chooseM .u64 x y z), [], []⟩ :=
  spec_of_whole (tab_ok (.nil _)) mixed Try.func42 [] 1000000 [] (o := []) (by kernel_rfl) (by kernel_rfl) (by kernel_rfl) (by kernel_rfl) (by kernel_rfl) (by kernel_rfl) onil
def e42 : Entry := fun args ms => match args, ms with
  | [.c (.v (.int .u64 x)), .c (.v (.int .u64 y)), .c (.v (.int .u64 z))], [] => some (⟨V.int .u64 (chooseM .u64 x y z), [], []⟩, [])
  | _, _ => none
theorem ok42 : EntryOk Try.prog 42 e42 := by
  intro args ms r obs h ho
  unfold e42 at h
  split at h
  · cases h; exact s42 _ _ _
  · cases h

theorem s45 (x y z : Int) : Sx.Spec Try.prog 45 [W.int .u32 x, W.int .u32 y, W.int .u32 z] [] ⟨V.int .u32 (mostM .u32 x y z), [], []⟩ :=
  spec_of_whole (tab_ok (.nil _)) mixed Try.func45 [] 1000000 [] (o := []) (by kernel_rfl) (by kernel_rfl) (by kernel_rfl) (by kernel_rfl) (by kernel_rfl) (by kernel_rfl) onil
def e45 : Entry := fun args ms => match args, ms with
  | [.c (.v (.int .u32 x)), .c (.v (.int .u32 y)), .c (.v (.int .u32 z))], [] => some (⟨V.int .u32 (mostM .u32 x y z), [], []⟩, [])
  | _, _ => none
theorem ok45 : EntryOk Try.prog 45 e45 := by
  intro args ms r obs h ho
  unfold e45 at h
  split at h
  · cases h; exact s45 _ _ _
  · cases h

theorem s43 (x y z : Int) : Sx.Spec Try.prog 43 [W.int .u64 x, W.int .u64 y, W.int .u64 z] [] ⟨V.int .u64 (mostM .u64 x y z), [], []⟩ :=
  spec_of_whole (tab_ok (.nil _)) mixed Try.func43 [] 1000000 [] (o := []) (by kernel_rfl) (by kernel_rfl) (by kernel_rfl) (by kernel_rfl) (by kernel_rfl) (by kernel_rfl) onil
def e43 : Entry := fun args ms => match args, ms with
  | [.c (.v (.int .u64 x)), .c (.v (.int .u64 y)), .c (.v (.int .u64 z))], [] => some (⟨V.int .u64 (mostM .u64 x y z), [], []⟩, [])
  | _, _ => none
theorem ok43 : EntryOk Try.prog 43 e43 := by
  intro args ms r obs h ho
  unfold e43 at h
  split at h
  · cases h; exact s43 _ _ _
  · cases h

def lib3 : List (Nat × Entry) := [(36, e36), (39, roE [.val, .ints .i64] E39), (40, roE [.val, .ints .i64] E40), (42, e42), (43, e43), (44, e44), (45, e45)] ++ lib2
theorem lib3_ok : AllOk Try.prog lib3 := .append (.cons ok36 (.cons (roE_ok Ok39) (.cons (roE_ok Ok40) (.cons ok42 (.cons ok43 (.cons ok44 (.cons ok45 (.nil _)))))))) lib2_ok

/-! the examples -/
theorem s35 : Sx.Spec Try.prog 35 [] [] ⟨V.bool true, [], []⟩ :=
  spec_of_whole (tab_ok lib3_ok) mixed Try.func35 [] 1000000 [] (o := []) (by kernel_rfl) (by kernel_rfl) (by kernel_rfl) (by kernel_rfl) (by kernel_rfl) (by kernel_rfl) onil
def e35 : Entry := fun args ms => match args, ms with
  | [], [] => some (⟨V.bool true, [], []⟩, [])
  | _, _ => none
theorem ok35 : EntryOk Try.prog 35 e35 := by
  intro args ms r obs h ho
  unfold e35 at h
  split at h
  · cases h; exact s35
  · cases h
def lib4 : List (Nat × Entry) := (35, e35) :: lib3
theorem lib4_ok : AllOk Try.prog lib4 := .cons ok35 lib3_ok
end Go.Proofs.Ytmjejlbmcefaoaa
