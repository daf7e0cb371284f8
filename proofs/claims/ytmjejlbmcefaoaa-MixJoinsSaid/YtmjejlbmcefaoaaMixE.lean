/- What sealringref15.Three and mix.Sum compute. -/
import Derived.Test.YtmjejlbmcefaoaaMixC
namespace Go.Proofs.Ytmjejlbmcefaoaa
open Go Sx

/-! sealringref15.Three -/
def chooseN (x y z : Int) (j : Nat) : Int := if bitM x j = 1 then bitM y j else bitM z j
def mostN (x y z : Int) (j : Nat) : Int := u64 ((u64 (u64 (bitM x j + bitM y j) + bitM z j)).tdiv 2)
def chooseS (x y z : Int) : Nat → Int
  | 0 => 0
  | j + 1 => u64 (chooseS x y z j + shl .u64 (chooseN x y z j) j)
def mostS (x y z : Int) : Nat → Int
  | 0 => 0
  | j + 1 => u64 (mostS x y z j + shl .u64 (mostN x y z j) j)
noncomputable def k41 : List Item := kAt Try.prog (tab lib1) Try.f41 [] 0 [W.int .u64 0, W.int .u64 0, W.int .u64 0, W.int .i64 0] []

noncomputable def st41_choose (x y z : Int) (j : Nat) : Cfg := cfg k41 [0, 1, 2, 3, 9, 10] [V.int .u64 x, V.int .u64 y, V.int .u64 z, V.int .i64 0, V.int .u64 (chooseS x y z j), V.int .i64 j] []
theorem s41_choose (x y z : Int) : Sx.Spec Try.prog 41 [W.int .u64 x, W.int .u64 y, W.int .u64 z, W.int .i64 0] [] ⟨V.int .u64 (chooseS x y z 64), [], []⟩ := by
  refine spec_body (tab := tab lib1) Try.func41 (by kernel_rfl) (by kernel_rfl) (by kernel_rfl) fun ρ w => ?_
  refine G.seg ⟨tab_ok lib1_ok, mixed⟩ [] 1000000 0 [0, 1, 2, 3, 9, 10] [] (k := k41) (vs := [V.int .u64 x, V.int .u64 y, V.int .u64 z, V.int .i64 0, V.int .u64 0, V.int .i64 0]) (bs := []) (o := []) (by kernel_rfl) (by kernel_rfl) onil ?_
  refine G.loop (st41_choose x y z) 64 (fun j hj hg => ?_) ?_
  · have e1 : i64 ((j : Int) + 1) = ((j + 1 : Nat) : Int) := by rw [i64_id] <;> omega
    have hj' : (j : Int) < 64 := by omega
    by_cases hb : bitM x j = 1
    · refine G.seg ⟨tab_ok lib1_ok, mixed⟩ [(16, true), (33, true)] 1000000 0 [0, 1, 2, 3, 9, 10] [] (k := k41) (vs := [V.int .u64 x, V.int .u64 y, V.int .u64 z, V.int .i64 0, V.int .u64 (u64 (chooseS x y z j + shl .u64 (bitM y j) j)), V.int .i64 (i64 ((j : Int) + 1))]) (bs := [])
        (o := [decide ((j : Int) < 64), true, true, true, bitM x j == 1, true]) (by kernel_rfl) (by kernel_rfl) (ocons (by simpa using hj') (ocons rfl (ocons rfl (ocons rfl (ocons (by simpa using hb) (ocons rfl onil)))))) ?_
      rw [e1]
      have e2 : u64 (chooseS x y z j + shl .u64 (bitM y j) j) = chooseS x y z (j + 1) := by simp only [chooseS, chooseN, if_pos hb]
      rw [e2]
      exact hg
    · refine G.seg ⟨tab_ok lib1_ok, mixed⟩ [(16, true), (33, false)] 1000000 0 [0, 1, 2, 3, 9, 10] [] (k := k41) (vs := [V.int .u64 x, V.int .u64 y, V.int .u64 z, V.int .i64 0, V.int .u64 (u64 (chooseS x y z j + shl .u64 (bitM z j) j)), V.int .i64 (i64 ((j : Int) + 1))]) (bs := [])
        (o := [decide ((j : Int) < 64), true, true, true, !(bitM x j == 1), true]) (by kernel_rfl) (by kernel_rfl) (ocons (by simpa using hj') (ocons rfl (ocons rfl (ocons rfl (ocons (by simpa using hb) (ocons rfl onil)))))) ?_
      rw [e1]
      have e2 : u64 (chooseS x y z j + shl .u64 (bitM z j) j) = chooseS x y z (j + 1) := by simp only [chooseS, chooseN, if_neg hb]
      rw [e2]
      exact hg
  · exact G.ends (tab_ok lib1_ok) mixed [] 1000000 [] (o := []) (by kernel_rfl) (by kernel_rfl) (by kernel_rfl) (by kernel_rfl) onil

noncomputable def st41_most (x y z : Int) (j : Nat) : Cfg := cfg k41 [0, 1, 2, 3, 9, 10] [V.int .u64 x, V.int .u64 y, V.int .u64 z, V.int .i64 1, V.int .u64 (mostS x y z j), V.int .i64 j] []
theorem s41_most (x y z : Int) : Sx.Spec Try.prog 41 [W.int .u64 x, W.int .u64 y, W.int .u64 z, W.int .i64 1] [] ⟨V.int .u64 (mostS x y z 64), [], []⟩ := by
  refine spec_body (tab := tab lib1) Try.func41 (by kernel_rfl) (by kernel_rfl) (by kernel_rfl) fun ρ w => ?_
  refine G.seg ⟨tab_ok lib1_ok, mixed⟩ [] 1000000 0 [0, 1, 2, 3, 9, 10] [] (k := k41) (vs := [V.int .u64 x, V.int .u64 y, V.int .u64 z, V.int .i64 1, V.int .u64 0, V.int .i64 0]) (bs := []) (o := []) (by kernel_rfl) (by kernel_rfl) onil ?_
  refine G.loop (st41_most x y z) 64 (fun j hj hg => ?_) ?_
  · have e1 : i64 ((j : Int) + 1) = ((j + 1 : Nat) : Int) := by rw [i64_id] <;> omega
    have hj' : (j : Int) < 64 := by omega
    refine G.seg ⟨tab_ok lib1_ok, mixed⟩ [(16, true)] 1000000 0 [0, 1, 2, 3, 9, 10] [] (k := k41) (vs := [V.int .u64 x, V.int .u64 y, V.int .u64 z, V.int .i64 1, V.int .u64 (mostS x y z (j + 1)), V.int .i64 (i64 ((j : Int) + 1))]) (bs := [])
      (o := [decide ((j : Int) < 64), true, true, true, true, true]) (by kernel_rfl) (by kernel_rfl) (ocons (by simpa using hj') (ocons rfl (ocons rfl (ocons rfl (ocons rfl (ocons rfl onil)))))) ?_
    rw [e1]
    exact hg
  · exact G.ends (tab_ok lib1_ok) mixed [] 1000000 [] (o := []) (by kernel_rfl) (by kernel_rfl) (by kernel_rfl) (by kernel_rfl) onil

def e41 : Entry := fun args ms => match args, ms with
  | [.c (.v (.int .u64 x)), .c (.v (.int .u64 y)), .c (.v (.int .u64 z)), .c (.v (.int .i64 0))], [] => some (⟨V.int .u64 (chooseS x y z 64), [], []⟩, [])
  | [.c (.v (.int .u64 x)), .c (.v (.int .u64 y)), .c (.v (.int .u64 z)), .c (.v (.int .i64 1))], [] => some (⟨V.int .u64 (mostS x y z 64), [], []⟩, [])
  | _, _ => none
theorem e41_ok : EntryOk Try.prog 41 e41 := by
  intro args ms r obs h ho
  unfold e41 at h
  split at h
  · cases h
    exact s41_choose _ _ _
  · cases h
    exact s41_most _ _ _
  · cases h

/-! mix.Sum -/
def sumS (k : IntKind) (l : List Int) : Nat → Int
  | 0 => 0
  | j + 1 => k.wrap (sumS k l j + l.getD j 0)
def sumM (k : IntKind) (l : List Int) : Int := sumS k l l.length

noncomputable def k46 : List Item := kAt Try.prog (tab []) Try.f46 [] 0 [.c (.sl 0 0 0)] [⟨0, .ro, .ints .u64 []⟩]
noncomputable def st46 (l : List Int) (t : Nat) (j : Nat) : Cfg := cfg k46 [3, 6, 7, 8] [V.int .u64 (sumS .u64 l j), .w (.c (.sl 0 0 l.length)), V.int .i64 l.length, V.int .i64 j] [⟨t, .ro, .ints .u64 l⟩]
theorem s46 (l : List Int) (t : Nat) (hl : l.length ≤ maxLen) : Sx.Spec Try.prog 46 [.c (.sl 0 0 l.length)] [⟨t, .ro, .ints .u64 l⟩] ⟨V.int .u64 (sumM .u64 l), [], []⟩ := by
  refine spec_body (tab := tab []) Try.func46 (by kernel_rfl) (by kernel_rfl) (by kernel_rfl) fun ρ w => ?_
  refine G.seg ⟨tab_ok (.nil _), mixed⟩ [] 1000000 0 [3, 6, 7, 8] [(0, none)] (k := k46) (vs := [V.int .u64 0, .w (.c (.sl 0 0 l.length)), V.int .i64 l.length, V.int .i64 0]) (bs := [⟨t, .ro, .ints .u64 l⟩]) (o := []) (by kernel_rfl) (by kernel_rfl) onil ?_
  refine G.loop (st46 l t) l.length (fun j hj hg => ?_) ?_
  · have e1 : i64 ((j : Int) + 1) = ((j + 1 : Nat) : Int) := by rw [i64_id] <;> simp [maxLen] at * <;> omega
    refine G.seg ⟨tab_ok (.nil _), mixed⟩ [(9, true)] 1000000 0 [3, 6, 7, 8] [(0, none)] (k := k46) (vs := [V.int .u64 (sumS .u64 l (j + 1)), .w (.c (.sl 0 0 l.length)), V.int .i64 l.length, V.int .i64 (i64 ((j : Int) + 1))]) (bs := [⟨t, .ro, .ints .u64 l⟩])
      (o := [decide ((j : Int) < (l.length : Int)), true, decide ((j : Int) < (l.length : Int)), Nat.blt j l.length]) (by kernel_rfl) (by kernel_rfl) (ocons (by simpa using hj) (ocons rfl (ocons (by simpa using hj) (ocons (by simpa using hj) onil)))) ?_
    rw [e1]
    exact hg
  · exact G.ends (tab_ok (.nil _)) mixed [(9, false)] 1000000 [(0, none)] (o := [!(decide ((l.length : Int) < (l.length : Int)))]) (by kernel_rfl) (by kernel_rfl) (by kernel_rfl) (by kernel_rfl) (ocons (by simp) onil)
def E46 : Entry := fun args ms => match args, ms with
  | [.c (.sl 0 0 n)], [⟨_, .ro, .ints .u64 l⟩] => some (⟨V.int .u64 (sumM .u64 l), [], []⟩, [Nat.beq n l.length, decide (l.length ≤ maxLen)])
  | _, _ => none
theorem E46_ok : EntryOk Try.prog 46 E46 := by
  intro args ms r obs h ho
  unfold E46 at h
  split at h
  · cases h
    have := Nat.beq_eq.mp (ohead ho)
    subst this
    exact s46 _ _ (by simpa using ohead (otail ho))
  · cases h

noncomputable def k47 : List Item := kAt Try.prog (tab []) Try.f47 [] 0 [.c (.sl 0 0 0)] [⟨0, .ro, .ints .u32 []⟩]
noncomputable def st47 (l : List Int) (t : Nat) (j : Nat) : Cfg := cfg k47 [3, 6, 7, 8] [V.int .u32 (sumS .u32 l j), .w (.c (.sl 0 0 l.length)), V.int .i64 l.length, V.int .i64 j] [⟨t, .ro, .ints .u32 l⟩]
theorem s47 (l : List Int) (t : Nat) (hl : l.length ≤ maxLen) : Sx.Spec Try.prog 47 [.c (.sl 0 0 l.length)] [⟨t, .ro, .ints .u32 l⟩] ⟨V.int .u32 (sumM .u32 l), [], []⟩ := by
  refine spec_body (tab := tab []) Try.func47 (by kernel_rfl) (by kernel_rfl) (by kernel_rfl) fun ρ w => ?_
  refine G.seg ⟨tab_ok (.nil _), mixed⟩ [] 1000000 0 [3, 6, 7, 8] [(0, none)] (k := k47) (vs := [V.int .u32 0, .w (.c (.sl 0 0 l.length)), V.int .i64 l.length, V.int .i64 0]) (bs := [⟨t, .ro, .ints .u32 l⟩]) (o := []) (by kernel_rfl) (by kernel_rfl) onil ?_
  refine G.loop (st47 l t) l.length (fun j hj hg => ?_) ?_
  · have e1 : i64 ((j : Int) + 1) = ((j + 1 : Nat) : Int) := by rw [i64_id] <;> simp [maxLen] at * <;> omega
    refine G.seg ⟨tab_ok (.nil _), mixed⟩ [(9, true)] 1000000 0 [3, 6, 7, 8] [(0, none)] (k := k47) (vs := [V.int .u32 (sumS .u32 l (j + 1)), .w (.c (.sl 0 0 l.length)), V.int .i64 l.length, V.int .i64 (i64 ((j : Int) + 1))]) (bs := [⟨t, .ro, .ints .u32 l⟩])
      (o := [decide ((j : Int) < (l.length : Int)), true, decide ((j : Int) < (l.length : Int)), Nat.blt j l.length]) (by kernel_rfl) (by kernel_rfl) (ocons (by simpa using hj) (ocons rfl (ocons (by simpa using hj) (ocons (by simpa using hj) onil)))) ?_
    rw [e1]
    exact hg
  · exact G.ends (tab_ok (.nil _)) mixed [(9, false)] 1000000 [(0, none)] (o := [!(decide ((l.length : Int) < (l.length : Int)))]) (by kernel_rfl) (by kernel_rfl) (by kernel_rfl) (by kernel_rfl) (ocons (by simp) onil)
def E47 : Entry := fun args ms => match args, ms with
  | [.c (.sl 0 0 n)], [⟨_, .ro, .ints .u32 l⟩] => some (⟨V.int .u32 (sumM .u32 l), [], []⟩, [Nat.beq n l.length, decide (l.length ≤ maxLen)])
  | _, _ => none
theorem E47_ok : EntryOk Try.prog 47 E47 := by
  intro args ms r obs h ho
  unfold E47 at h
  split at h
  · cases h
    have := Nat.beq_eq.mp (ohead ho)
    subst this
    exact s47 _ _ (by simpa using ohead (otail ho))
  · cases h

def lib5 : List (Nat × Entry) := [(41, e41), (46, roE [.ints .u64] E46), (47, roE [.ints .u32] E47)] ++ lib4
theorem lib5_ok : AllOk Try.prog lib5 := .append (.cons e41_ok (.cons (roE_ok E46_ok) (.cons (roE_ok E47_ok) (.nil _)))) lib4_ok
end Go.Proofs.Ytmjejlbmcefaoaa
