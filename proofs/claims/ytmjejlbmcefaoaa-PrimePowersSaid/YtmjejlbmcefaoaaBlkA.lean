/- What block.New, Rest, Len and Copy compute. -/
import Derived.Test.YtmjejlbmcefaoaaPadB
namespace Go.Proofs.Ytmjejlbmcefaoaa
open Go Sx

abbrev bufB (many len : Int) (row : Nat) : Blk := ⟨183, .rw, .cs [.own row, .v (.int .i64 many), .v (.int .i64 len)]⟩
abbrev rowB (size : Nat) (l : List Int) : Blk := ⟨5, .own size, .ints .u8 l⟩
abbrev nilP : V := .w (.c (.v (.pointer none)))

/-! New -/
theorem s55_good (s : Nat) (h0 : 1 ≤ s) (h1 : s ≤ 256) : Sx.Spec Try.prog 55 [W.int .i64 s] [] ⟨.w (.c (.ptr 0 0)), [], [bufB 0 0 1, rowB s (List.replicate s 0)]⟩ :=
  spec_of_whole (tab_ok (.nil _)) mixed Try.func55 [(4, false), (7, false)] 1000000 [(40, none), (32, none)] (o := [!(decide ((s : Int) < 1)), !(decide ((s : Int) > 256)), true, decide ((s : Int) ≤ s), decide ((s : Int) ≤ 1099511627776)]) (by kernel_rfl) (by kernel_rfl) (by kernel_rfl) (by kernel_rfl) (by kernel_rfl) (by kernel_rfl)
    (ocons (by simp; omega) (ocons (by simp; omega) (ocons rfl (ocons (by simp) (ocons (by simp; omega) onil)))))
theorem s55_bad (s : Int) (h : s < 1 ∨ s > 256) : Sx.Spec Try.prog 55 [W.int .i64 s] [] ⟨nilP, [], []⟩ := by
  by_cases c1 : s < 1
  · exact spec_of_whole (tab_ok (.nil _)) mixed Try.func55 [(4, true)] 1000000 [] (o := [decide (s < 1)]) (by kernel_rfl) (by kernel_rfl) (by kernel_rfl) (by kernel_rfl) (by kernel_rfl) (by kernel_rfl) (ocons (by simpa using c1) onil)
  · exact spec_of_whole (tab_ok (.nil _)) mixed Try.func55 [(4, false), (7, true)] 1000000 [] (o := [!(decide (s < 1)), decide (s > 256)]) (by kernel_rfl) (by kernel_rfl) (by kernel_rfl) (by kernel_rfl) (by kernel_rfl) (by kernel_rfl) (ocons (by simpa using c1) (ocons (by simp; omega) onil))

/-! Rest, Len -/
theorem s52 (m s : Nat) (n : Int) (l : List Int) (h0 : m ≤ s) (h1 : l.length = s) : Sx.Spec Try.prog 52 [.c (.ptr 0 0)] [bufB m n 1, rowB s l] ⟨V.str (strOf (l.take m)), [], []⟩ :=
  spec_of_whole (tab_ok (.nil _)) mixed Try.func52 [] 1000000 [(0, none), (1, none)] (o := [true, true, decide ((m : Int) ≤ m), decide ((m : Int) ≤ s), Nat.ble (0 + m) l.length]) (by kernel_rfl) (by kernel_rfl) (by kernel_rfl) (by kernel_rfl) (by kernel_rfl) (by kernel_rfl)
    (ocons rfl (ocons rfl (ocons (by simp) (ocons (by simp; omega) (ocons (by simp; omega) onil)))))
theorem s52_nil : Sx.Spec Try.prog 52 [.c (.v (.pointer none))] [] ⟨V.str .empty, [], []⟩ :=
  spec_of_whole (tab_ok (.nil _)) mixed Try.func52 [] 1000000 [] (o := []) (by kernel_rfl) (by kernel_rfl) (by kernel_rfl) (by kernel_rfl) (by kernel_rfl) (by kernel_rfl) onil
theorem s53 (m n : Int) (s : Nat) (l : List Int) : Sx.Spec Try.prog 53 [.c (.ptr 0 0)] [bufB m n 1, rowB s l] ⟨V.int .i64 n, [], []⟩ :=
  spec_of_whole (tab_ok (.nil _)) mixed Try.func53 [] 1000000 [(0, none), (1, none)] (o := []) (by kernel_rfl) (by kernel_rfl) (by kernel_rfl) (by kernel_rfl) (by kernel_rfl) (by kernel_rfl) onil
theorem s53_nil : Sx.Spec Try.prog 53 [.c (.v (.pointer none))] [] ⟨V.int .i64 0, [], []⟩ :=
  spec_of_whole (tab_ok (.nil _)) mixed Try.func53 [] 1000000 [] (o := []) (by kernel_rfl) (by kernel_rfl) (by kernel_rfl) (by kernel_rfl) (by kernel_rfl) (by kernel_rfl) onil

/-! Copy -/
theorem copy_row (s : Nat) (l : List Int) (h : l.length = s) : putL (List.replicate s 0) 0 ((l.take s).take s) = l := by
  simp [putL, List.take_of_length_le (Nat.le_of_eq h), h]
theorem s54 (m n : Int) (s : Nat) (l : List Int) (h0 : s ≤ 256) (h1 : l.length = s) : Sx.Spec Try.prog 54 [.c (.ptr 0 0)] [bufB m n 1, rowB s l] ⟨.w (.c (.ptr 2 0)), [], [bufB m n 3, rowB s l]⟩ := by
  have e := copy_row s l h1
  have key : Sx.Spec Try.prog 54 [.c (.ptr 0 0)] [bufB m n 1, rowB s l] ⟨.w (.c (.ptr 2 0)), [], [bufB m n 3, rowB s (putL (List.replicate s 0) 0 ((l.take s).take s))]⟩ :=
    spec_of_whole (tab_ok (.nil _)) mixed Try.func54 [] 1000000 [(0, none), (1, none), (26, none), (54, none)] (o := [true, true, decide ((s : Int) ≤ s), decide ((s : Int) ≤ 1099511627776), true, Nat.ble (0 + s) (List.replicate s (0 : Int)).length, Nat.ble (0 + s) l.length]) (by kernel_rfl) (by kernel_rfl) (by kernel_rfl) (by kernel_rfl) (by kernel_rfl) (by kernel_rfl)
      (ocons rfl (ocons rfl (ocons (by simp) (ocons (by simp; omega) (ocons rfl (ocons (by simp) (ocons (by simp; omega) onil)))))))
  rw [e] at key
  exact key
theorem s54_nil : Sx.Spec Try.prog 54 [.c (.v (.pointer none))] [] ⟨nilP, [], []⟩ :=
  spec_of_whole (tab_ok (.nil _)) mixed Try.func54 [] 1000000 [] (o := []) (by kernel_rfl) (by kernel_rfl) (by kernel_rfl) (by kernel_rfl) (by kernel_rfl) (by kernel_rfl) onil
end Go.Proofs.Ytmjejlbmcefaoaa
