/- Blocks of texts, in plain terms: what Write and Cut give. -/
import Derived.Test.YtmjejlbmcefaoaaBlkD
namespace Go.Proofs.Ytmjejlbmcefaoaa
open Go Sx

/-- T parted into blocks of s and what is left. -/
def Chunks (s : Nat) (T : List Int) (outs : List (List Int)) (rest : List Int) : Prop := T = outs.flatten ++ rest ∧ (∀ o ∈ outs, o.length = s) ∧ rest.length < s

theorem Chunks.uniq {s : Nat} (hs : 1 ≤ s) : ∀ {outs outs' : List (List Int)} {T rest rest' : List Int}, Chunks s T outs rest → Chunks s T outs' rest' → outs = outs' ∧ rest = rest'
  | [], [], T, rest, rest', ⟨h1, _, _⟩, ⟨k1, _, _⟩ => ⟨rfl, by simp at h1 k1; rw [← h1, k1]⟩
  | [], o :: outs', T, rest, rest', ⟨h1, _, h3⟩, ⟨k1, k2, _⟩ => by
    exfalso
    have hl : o.length = s := k2 o (by simp)
    have e1 : T.length = rest.length := by rw [h1]; simp
    have e2 : T.length = o.length + (outs'.flatten.length + rest'.length) := by rw [k1]; simp [Nat.add_assoc]
    omega
  | o :: outs, [], T, rest, rest', ⟨h1, h2, _⟩, ⟨k1, _, k3⟩ => by
    exfalso
    have hl : o.length = s := h2 o (by simp)
    have e1 : T.length = rest'.length := by rw [k1]; simp
    have e2 : T.length = o.length + (outs.flatten.length + rest.length) := by rw [h1]; simp [Nat.add_assoc]
    omega
  | o :: outs, o' :: outs', T, rest, rest', ⟨h1, h2, h3⟩, ⟨k1, k2, k3⟩ => by
    have hl : o.length = s := h2 o (by simp)
    have hl' : o'.length = s := k2 o' (by simp)
    have e : o ++ (outs.flatten ++ rest) = o' ++ (outs'.flatten ++ rest') := by
      rw [← List.append_assoc, ← List.append_assoc]
      simp only [List.flatten_cons] at h1 k1
      rw [← h1, ← k1]
    obtain ⟨rfl, e2⟩ := List.append_inj e (by omega)
    have := Chunks.uniq hs (outs := outs) (outs' := outs') (T := outs.flatten ++ rest) (rest := rest) (rest' := rest') ⟨rfl, fun x hx => h2 x (by simp [hx]), h3⟩ ⟨e2, fun x hx => k2 x (by simp [hx]), k3⟩
    exact ⟨by rw [this.1], this.2⟩

theorem Chunks.then {s : Nat} {A B : List Int} {o1 o2 : List (List Int)} {r1 r2 : List Int} (h : Chunks s A o1 r1) (k : Chunks s (r1 ++ B) o2 r2) : Chunks s (A ++ B) (o1 ++ o2) r2 := by
  obtain ⟨h1, h2, h3⟩ := h
  obtain ⟨k1, k2, k3⟩ := k
  refine ⟨?_, fun o ho => ?_, k3⟩
  · rw [h1, List.append_assoc, k1, List.flatten_append, List.append_assoc]
  · rcases List.mem_append.1 ho with ho | ho
    · exact h2 o ho
    · exact k2 o ho

theorem cutM_chunks (s : Nat) (hs : 1 ≤ s) : ∀ (f : Nat) (out : List ByteArray) (x : ByteArray), x.size ≤ f → ∃ outs rest, Chunks s (bytesOf x) outs rest ∧ cutM s f out x = (out ++ outs.map strOf, strOf rest)
  | 0, out, x, hx => by
    refine ⟨[], bytesOf x, ⟨by simp, by simp, by rw [bytesOf_length]; omega⟩, ?_⟩
    simp [cutM, bytes_back]
  | f + 1, out, x, hx => by
    by_cases h : s ≤ x.size
    · obtain ⟨outs, rest, ⟨c1, c2, c3⟩, hc⟩ := cutM_chunks s hs f (out ++ [cut x 0 s]) (cut x s x.size) (by rw [cut_size x s h]; omega)
      have b1 : bytesOf (cut x 0 s) = (bytesOf x).take s := by rw [bytesOf_cut]; simp
      have b2 : bytesOf (cut x s x.size) = (bytesOf x).drop s := by
        rw [bytesOf_cut, List.take_of_length_le]
        · simp
        · simp [bytesOf_length]
      refine ⟨(bytesOf x).take s :: outs, rest, ⟨?_, ?_, c3⟩, ?_⟩
      · rw [List.flatten_cons, List.append_assoc, ← c1, b2, List.take_append_drop]
      · intro o ho
        rcases List.mem_cons.1 ho with rfl | ho
        · rw [List.length_take, bytesOf_length]; omega
        · exact c2 o ho
      · simp only [cutM, if_pos h]
        rw [hc, ← bytes_back (cut x 0 s), b1]
        simp
    · refine ⟨[], bytesOf x, ⟨by simp, by simp, by rw [bytesOf_length]; omega⟩, ?_⟩
      simp only [cutM, if_neg h]
      simp [bytes_back]

theorem putL_take (row : List Int) (m : Nat) (xs : List Int) (h : m + xs.length ≤ row.length) : (putL row m xs).take (m + xs.length) = row.take m ++ xs := by
  unfold putL
  rw [List.take_append, List.take_take, List.length_take, Nat.min_eq_right (by omega), Nat.min_eq_left (by omega), Nat.add_sub_cancel_left, List.take_append]
  simp

theorem wIn_chunks (s : Nat) (hs : 1 ≤ s) : ∀ (f : Nat) (row : List Int) (m : Nat) (out : List ByteArray) (x : ByteArray), x.size ≤ f → m < s → row.length = s →
    ∃ outs rest, Chunks s (row.take m ++ bytesOf x) outs rest ∧ (wIn s f row m out x).2.2 = out ++ outs.map strOf ∧ (wIn s f row m out x).1.take (wIn s f row m out x).2.1 = rest
  | 0, row, m, out, x, hx, hm, hr => by
    have : bytesOf x = [] := List.eq_nil_of_length_eq_zero (by rw [bytesOf_length]; omega)
    exact ⟨[], row.take m, ⟨by simp [this], by simp, by simp; omega⟩, by simp [wIn], rfl⟩
  | f + 1, row, m, out, x, hx, hm, hr => by
    by_cases hx0 : x.size = 0
    · have : bytesOf x = [] := List.eq_nil_of_length_eq_zero (by rw [bytesOf_length]; omega)
      simp only [wIn, if_pos hx0]
      exact ⟨[], row.take m, ⟨by simp [this], by simp, by simp; omega⟩, by simp, rfl⟩
    · have hc1 : min x.size (s - m) ≤ x.size := Nat.min_le_left _ _
      have hc2 : min x.size (s - m) ≤ s - m := Nat.min_le_right _ _
      have hc0 : 0 < min x.size (s - m) := by omega
      have hxl : ((bytesOf x).take (s - m)).length = min x.size (s - m) := by rw [List.length_take, bytesOf_length]; omega
      have hrl : (putL row m ((bytesOf x).take (s - m))).length = s := by
        rw [putL_len, hr]
        omega
      have htk : (putL row m ((bytesOf x).take (s - m))).take (m + min x.size (s - m)) = row.take m ++ (bytesOf x).take (s - m) := by
        have := putL_take row m ((bytesOf x).take (s - m)) (by omega)
        rwa [hxl] at this
      have b2 : bytesOf (cut x (min x.size (s - m) : Nat) x.size) = (bytesOf x).drop (s - m) := by
        rw [bytesOf_cut, List.take_of_length_le]
        · rw [Int.toNat_natCast]
          rcases Nat.le_total x.size (s - m) with h | h
          · rw [Nat.min_eq_left h, List.drop_of_length_le (by rw [bytesOf_length]; exact Nat.le_refl _), List.drop_of_length_le (by rw [bytesOf_length]; exact h)]
          · rw [Nat.min_eq_right h]
        · simp [bytesOf_length]
      by_cases hf : m + min x.size (s - m) = s
      · simp only [wIn, if_neg hx0, if_pos hf]
        obtain ⟨outs, rest, ⟨c1, c2, c3⟩, e1, e2⟩ := wIn_chunks s hs f (putL row m ((bytesOf x).take (s - m))) 0 (out ++ [strOf ((putL row m ((bytesOf x).take (s - m))).take s)]) (cut x (min x.size (s - m) : Nat) x.size) (by rw [cut_size _ _ hc1]; omega) (by omega) hrl
        rw [hf] at htk
        refine ⟨(row.take m ++ (bytesOf x).take (s - m)) :: outs, rest, ⟨?_, ?_, c3⟩, ?_, e2⟩
        · rw [List.flatten_cons, List.append_assoc, ← c1, b2, List.take_zero, List.nil_append, List.append_assoc, List.take_append_drop]
        · intro o ho
          rcases List.mem_cons.1 ho with rfl | ho
          · rw [List.length_append, hxl, List.length_take]; omega
          · exact c2 o ho
        · rw [e1, htk]
          simp
      · simp only [wIn, if_neg hx0, if_neg hf]
        obtain ⟨outs, rest, ⟨c1, c2, c3⟩, e1, e2⟩ := wIn_chunks s hs f (putL row m ((bytesOf x).take (s - m))) (m + min x.size (s - m)) out (cut x (min x.size (s - m) : Nat) x.size) (by rw [cut_size _ _ hc1]; omega) (by omega) hrl
        refine ⟨outs, rest, ⟨?_, c2, c3⟩, e1, e2⟩
        rw [← c1, htk, b2, List.append_assoc, List.take_append_drop]

/-- one text handed over. -/
theorem wAt_one (s : Nat) (x : ByteArray) (row : List Int) (m : Nat) : wAt s [x] row m 1 = wIn s x.size row m [] x := rfl
end Go.Proofs.Ytmjejlbmcefaoaa
