/- The law MixTurns: for every word and every list of numbers of places the law's Go text returns true. -/
import Derived.Test.YtmjejlbmcefaoaaMixC
import Derived.Test.YtmjejlbmcefaoaaHead
namespace Go.Proofs.Ytmjejlbmcefaoaa
open Go Sx Go.ChangeShapes Go.WideShapes Go.ChangeAt Go.RowKit

noncomputable def k3 : List Item := kAt Try.prog (tab lib4) Try.f3 [(14, false)] 0 [W.int .u64 0, .c (.sl 0 0 0)] [⟨0, .ro, .ints .i64 []⟩]
def aSum (s : Int) (l : List Int) : Nat → Int
  | 0 => 0
  | j + 1 => xorI .u32 (aSum s l j) (u32 (rRight (u64 s) (l.getD j 0) 32))
def bSum (x : Int) (l : List Int) : Nat → Int
  | 0 => 0
  | j + 1 => xorI .u64 (bSum x l j) (rRight x (l.getD j 0) 64)
noncomputable def st3 (x s : Int) (l : List Int) (t : Nat) (j : Nat) : Cfg := cfg k3 [0, 1, 5, 6, 7, 18, 19, 20] [V.int .u64 x, .w (.c (.sl 0 0 l.length)), V.int .u32 s, V.int .u32 (aSum s l j), V.int .u64 (bSum x l j), .w (.c (.sl 0 0 l.length)), V.int .i64 l.length, V.int .i64 j] [⟨t, .ro, .ints .i64 l⟩]

theorem u64_of_u32 {S : Nat} (h : S < 2 ^ 32) : u64 (S : Int) = S := by
  rw [u64_nat, Nat.mod_eq_of_lt (by omega)]

theorem aSum_eq {S : Nat} (h : S < 2 ^ 32) (l : List Int) : ∀ j, aSum S l j = tSum .u32 32 S l j
  | 0 => rfl
  | j + 1 => by
    obtain ⟨m, h1, h2⟩ := right32_lt (l.getD j 0) h
    simp only [aSum, tSum]
    rw [aSum_eq h l j, u64_of_u32 h, right32 _ h, h1, u32_nat, Nat.mod_eq_of_lt h2]
theorem bSum_eq {X : Nat} (h : X < 2 ^ 64) (l : List Int) : ∀ j, bSum X l j = tSum .u64 64 X l j
  | 0 => rfl
  | j + 1 => by
    simp only [bSum, tSum]
    rw [bSum_eq h l j, right64 _ h]

theorem s3 (X : Nat) (hX : X < 2 ^ 64) (l : List Int) (t : Nat) (hl : l.length ≤ maxLen) : Sx.Spec Try.prog 3 [W.int .u64 X, .c (.sl 0 0 l.length)] [⟨t, .ro, .ints .i64 l⟩] ⟨V.bool true, [], []⟩ := by
  refine spec_body (tab := tab lib4) Try.func3 (by kernel_rfl) (by kernel_rfl) (by kernel_rfl) fun ρ w => ?_
  by_cases h20 : (l.length : Int) > 20
  · exact G.ends (tab_ok lib4_ok) mixed [(14, true)] 1000000 [(0, none)] (o := [decide ((l.length : Int) > 20)]) (by kernel_rfl) (by kernel_rfl) (by kernel_rfl) (by kernel_rfl) (ocons (by simpa using h20) onil)
  generalize hS : X % 2 ^ 32 = S
  have hs : u32 (X : Int) = (S : Int) := by rw [u32_nat, hS]
  have hSl : S < 2 ^ 32 := by rw [← hS]; exact Nat.mod_lt _ (by omega)
  refine G.seg ⟨tab_ok lib4_ok, mixed⟩ [(14, false)] 1000000 0 [0, 1, 5, 6, 7, 18, 19, 20] [(0, none)] (k := k3) (vs := [V.int .u64 X, .w (.c (.sl 0 0 l.length)), V.int .u32 (u32 X), V.int .u32 0, V.int .u64 0, .w (.c (.sl 0 0 l.length)), V.int .i64 l.length, V.int .i64 0]) (bs := [⟨t, .ro, .ints .i64 l⟩])
    (o := [!(decide ((l.length : Int) > 20))]) (by kernel_rfl) (by kernel_rfl) (ocons (by simpa using h20) onil) ?_
  rw [hs]
  refine G.loop (st3 X S l t) l.length (fun j hj hg => ?_) ?_
  · have e1 : i64 ((j : Int) + 1) = ((j + 1 : Nat) : Int) := by rw [i64_id] <;> simp [maxLen] at * <;> omega
    refine G.seg ⟨tab_ok lib4_ok, mixed⟩ [(21, true), (36, false), (42, false)] 1000000 0 [0, 1, 5, 6, 7, 18, 19, 20] [(0, none)] (k := k3)
      (vs := [V.int .u64 X, .w (.c (.sl 0 0 l.length)), V.int .u32 S, V.int .u32 (aSum S l (j + 1)), V.int .u64 (bSum X l (j + 1)), .w (.c (.sl 0 0 l.length)), V.int .i64 l.length, V.int .i64 (i64 ((j : Int) + 1))]) (bs := [⟨t, .ro, .ints .i64 l⟩])
      (o := [decide ((j : Int) < (l.length : Int)), true, decide ((j : Int) < (l.length : Int)), Nat.blt j l.length, true, true, true, true, !(u64 (rightM .u32 32 S (l.getD j 0)) != rRight (u64 S) (l.getD j 0) 32), !(rightM .u64 64 X (l.getD j 0) != rRight X (l.getD j 0) 64)]) (by kernel_rfl) (by kernel_rfl) ?_ ?_
    · refine ocons (by simpa using hj) (ocons rfl (ocons (by simpa using hj) (ocons (by simpa using hj) (ocons rfl (ocons rfl (ocons rfl (ocons rfl (ocons ?_ (ocons ?_ onil)))))))))
      · obtain ⟨m, h1, h2⟩ := right32_lt (l.getD j 0) hSl
        rw [u64_of_u32 hSl, right32 _ hSl, h1, u64_of_u32 h2]
        simp
      · rw [right64 _ hX]
        simp
    · rw [e1]
      exact hg
  · refine G.ends (tab_ok lib4_ok) mixed [(21, false), (56, true), (62, true), (68, true), (74, true), (80, true)] 1000000 [(0, none)] (o := [!(decide ((l.length : Int) < (l.length : Int))), Nat.beq l.length l.length, decide (l.length ≤ maxLen), turnsM .u32 32 S l == aSum S l l.length, Nat.beq l.length l.length, decide (l.length ≤ maxLen),
      turnsM .u64 64 X l == bSum X l l.length, rightM .u32 32 S 32 == (S : Int), rightM .u64 64 X 64 == (X : Int), rightM .u64 64 X (-64) == (X : Int)]) (by kernel_rfl) (by kernel_rfl) (by kernel_rfl) (by kernel_rfl) ?_
    rw [aSum_eq hSl, bSum_eq hX, right32_whole 32 hSl (by omega), right64_whole 64 hX (by omega), right64_whole (-64) hX (by omega)]
    simp [turnsM, hl]

def ks3 : List Kind := [.int .u64, .ints .i64]
theorem open3 : ∀ l, AllIs ks3 l → Sx.Spec Try.prog 3 (allW l 0) (allB l) ⟨V.bool true, [], []⟩ := by
  intro l h
  match l, h with
  | [.int .u64 x, .ints .i64 l], ⟨⟨_, hx⟩, ⟨_, hl, _⟩, _⟩ =>
    obtain ⟨X, rfl, hX⟩ := nat_of_wf64 hx
    exact s3 X hX l 0 hl

set_option maxRecDepth 100000 in
theorem lifted3 (os : Os) (started : os.Started) (H : Type) (enc : TypeId × Value → H) :
    ReturnsInHanded {} Try.checked os 3 .any (Rows.mixTurnsSpec.pre6 enc Try.prog Try.f3 Rows.mixTurnsRow.domain false) (Rows.mixTurnsSpec.post enc Try.prog Try.f3 false true false false) := by
  refine returnsInHanded_of_change (C := Try.checked) (by kernel_rfl) started (by kernel_rfl) Try.func3
    (ChangeSpec.witness6 (enc := enc) (C := Try.checked) false ⟨#[], #[.int .u64 0, .slice none 0 0], []⟩ 8 (by kernel_rfl) (by kernel_rfl) (by kernel_rfl) (by kernel_rfl)) ?_
  intro W base args ds gs before hval0 hW hcnd _
  exact law_step (ks := ks3) (tb := 4) laid (by kernel_rfl) (by kernel_rfl) rfl (by kernel_rfl) Try.underlying4 (fun ds hds => by
    match ds, hds with
    | [_, _], _ => rfl) open3 hval0 hW

theorem closed3 : joinedFacts Try.prog 3 Try.f3 Rows.mixTurnsSpec Rows.mixTurnsRow = true :=
  joined rfl rfl rfl rfl (by kernel_rfl) (by kernel_rfl) (by kernel_rfl) (by kernel_rfl) (by kernel_rfl) (by kernel_rfl) (by kernel_rfl) (by kernel_rfl) (by kernel_rfl) (by kernel_rfl) rfl (by kernel_rfl) (by kernel_rfl)
theorem named3 : Try.prog.funcNamed Rows.mixTurnsRow.func = some 3 := by kernel_rfl
theorem over3 : Rows.mixTurnsRow.holds Try.pinned (OpenSpec.ofChange Rows.mixTurnsSpec) :=
  OpenClaim.holds_of_wide 3 Try.f3 rfl rfl rfl rfl rfl rfl rfl ⟨rfl, rfl, rfl, rfl, rfl⟩ rfl rfl rfl rfl rfl named3 Try.func3 closed3
    (of_decide_eq_true (by kernel_rfl)) (by unfold Func.isWrapper; first | (rw [if_pos (by decide +kernel)]; kernel_rfl) | (rw [if_neg (by decide +kernel)]; exact ⟨rfl, rfl⟩))
    (fun os started H enc _ => lifted3 os started H enc)
theorem mixTurns_proved : Rows.MixTurnsSaid :=
  over3
#print axioms mixTurns_proved
end Go.Proofs.Ytmjejlbmcefaoaa
