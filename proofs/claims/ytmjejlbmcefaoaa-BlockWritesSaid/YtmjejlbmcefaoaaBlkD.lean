/- What sealringref16.Cut computes. -/
import Derived.Test.YtmjejlbmcefaoaaBlkC
namespace Go.Proofs.Ytmjejlbmcefaoaa
open Go Sx

def cutM (s : Nat) : Nat → List ByteArray → ByteArray → List ByteArray × ByteArray
  | 0, out, x => (out, x)
  | f + 1, out, x => if s ≤ x.size then cutM s f (out ++ [cut x 0 s]) (cut x s x.size) else (out, x)
noncomputable def k56 : List Item := kAt Try.prog (tab []) Try.f56 [] 0 [.c (.v (.string .empty)), W.int .i64 1] []
noncomputable def st56 (x : ByteArray) (s : Nat) (out : List ByteArray) : Cfg := cfg k56 [0, 1, 6] [V.str x, V.int .i64 s, .w (.c (.own 0))] [⟨9, .own out.length, .strs out⟩]
def cutR (q : List ByteArray × ByteArray) : Res := ⟨.tup [.c (.own 0), .c (.v (.string q.2))], [], [⟨9, .own q.1.length, .strs q.1⟩]⟩
theorem cut56 {ρ : Env} {w : World} (s : Nat) (hs0 : 1 ≤ s) : ∀ (f : Nat) (out : List ByteArray) (x : ByteArray), x.size ≤ f → out.length + x.size ≤ 100000000 →
    G (mkX Try.prog (tab []) Try.f56 [] ρ w (cutR (cutM s f out x))) (st56 x s out) := by
  have stop : ∀ (out : List ByteArray) (x : ByteArray), ¬ s ≤ x.size → G (mkX Try.prog (tab []) Try.f56 [] ρ w (cutR (out, x))) (st56 x s out) := by
    intro out x h
    exact G.ends (tab_ok (.nil _)) mixed [(10, false)] 1000000 [(0, none)] (o := [!(decide ((x.size : Int) ≥ (s : Int)))]) (by kernel_rfl) (by kernel_rfl) (by kernel_rfl) (by kernel_rfl) (ocons (by simp; omega) onil)
  intro f
  induction f with
  | zero => intro out x hx _; exact stop out x (by omega)
  | succ f ih =>
    intro out x hx hb
    by_cases h : s ≤ x.size
    · refine G.seg ⟨tab_ok (.nil _), mixed⟩ [(10, true)] 1000000 0 [0, 1, 6] [(37, none)] (k := k56) (vs := [V.str (cut x s x.size), V.int .i64 s, .w (.c (.own 0))]) (bs := [⟨9, .own (out.length + 1), .strs (out ++ [cut x 0 s])⟩])
        (o := [decide ((x.size : Int) ≥ (s : Int)), true, true, true, decide ((s : Int) ≤ (x.size : Int)), Nat.ble ((out.length + 1) * 16) 1099511627776, Nat.ble (out.length + 1) 1099511627776, true, true, decide ((s : Int) ≤ (x.size : Int)), true, decide ((x.size : Int) ≤ (x.size : Int))]) (by kernel_rfl) (by kernel_rfl)
        (ocons (by simp; omega) (ocons rfl (ocons rfl (ocons rfl (ocons (by simp; omega) (ocons (by simp; omega) (ocons (by simp; omega) (ocons rfl (ocons rfl (ocons (by simp; omega) (ocons rfl (ocons (by simp) onil)))))))))))) ?_
      have := ih (out ++ [cut x 0 s]) (cut x s x.size) (by rw [cut_size x s h]; omega) (by rw [cut_size x s h]; simp; omega)
      simp only [cutM, if_pos h]
      have hlen : (out ++ [cut x 0 s]).length = out.length + 1 := by simp
      simp only [st56, hlen] at this
      exact this
    · simp only [cutM, if_neg h]
      exact stop out x h
theorem s56 (x : ByteArray) (s : Nat) (hs0 : 1 ≤ s) (hx : x.size ≤ 100000000) : Sx.Spec Try.prog 56 [.c (.v (.string x)), W.int .i64 s] [] (cutR (cutM s x.size [] x)) := by
  refine spec_body (tab := tab []) Try.func56 (by kernel_rfl) (by kernel_rfl) (by kernel_rfl) fun ρ w => ?_
  refine G.seg ⟨tab_ok (.nil _), mixed⟩ [] 1000000 0 [0, 1, 6] [] (k := k56) (vs := [V.str x, V.int .i64 s, .w (.c (.v (.slice none 0 0)))]) (bs := []) (o := []) (by kernel_rfl) (by kernel_rfl) onil ?_
  refine G.nilOwn 2 9 (.strs []) rfl rfl rfl (Nat.le_refl 0) ?_
  exact cut56 s hs0 x.size [] x (Nat.le_refl _) (by simp; omega)
def e56 : Entry := fun args ms => match args, ms with
  | [.c (.v (.string x)), .c (.v (.int .i64 s))], [] => some (cutR (cutM s.toNat x.size [] x), [decide (1 ≤ s), Nat.ble x.size 100000000])
  | _, _ => none
theorem e56_ok : EntryOk Try.prog 56 e56 := by
  intro args ms r obs h ho
  unfold e56 at h
  split at h
  · rename_i x s
    cases h
    have h1 : 1 ≤ s := by simpa using ohead ho
    have h2 : x.size ≤ 100000000 := by simpa using ohead (otail ho)
    obtain ⟨s', rfl⟩ := Int.eq_ofNat_of_zero_le (show 0 ≤ s by omega)
    exact s56 x s' (by omega) h2
  · cases h
end Go.Proofs.Ytmjejlbmcefaoaa
