/- The library of wide, and its reference; the examples. -/
import Derived.Test.YtmjejlbmcefaoaaWnH
namespace Go.Proofs.Ytmjejlbmcefaoaa
open Go Sx

def libW0 : List (Nat × Entry) := [(83, numsE [1] r83), (84, numsE [1, 1] r84), (85, roE [.ints .u64, .ints .u64] e85), (86, roE [.ints .u64, .val] e86), (87, numsE [1, 1] r87), (88, roE [.ints .u64, .ints .u64] e88), (89, numsE [1, 1] r89), (90, roE [.ints .u64, .ints .u64] e90),
  (91, numsE [1, 1] r91), (93, numsE [1, 1, 1] r93), (94, numsE [1] r94), (96, e96n), (97, numsE [1] r97), (98, roE [.ints .u64, .val] e98), (100, numsE [1] r100), (101, e101n), (102, e102n), (221, roE [.ints .u64, .ints .u64] e221)]
theorem libW0_ok : AllOk Try.prog libW0 := .cons e83n_ok (.cons e84n_ok (.cons (roE_ok e85_ok) (.cons (roE_ok e86_ok) (.cons e87n_ok (.cons (roE_ok e88_ok) (.cons e89n_ok (.cons (roE_ok e90_ok)
  (.cons e91n_ok (.cons e93n_ok (.cons e94n_ok (.cons e96n_ok (.cons e97n_ok (.cons (roE_ok e98_ok) (.cons e100n_ok (.cons e101n_ok (.cons e102n_ok (.cons (roE_ok e221_ok) (.nil _))))))))))))))))))
def e92 : Entry := fun args ms => match args, ms with
  | [], [] => some (⟨V.bool true, [], []⟩, [])
  | _, _ => none
theorem s92_1 : Sx.Spec Try.prog 92 [] [] ⟨V.bool true, [], []⟩ :=
  spec_of_whole (tab_ok libW0_ok) mixed Try.func92 [] 1000000 [] (by kernel_rfl) (by kernel_rfl) (by kernel_rfl) (by kernel_rfl) (by kernel_rfl) (by kernel_rfl)
    (ocons rfl (ocons rfl (ocons rfl (ocons rfl (ocons rfl (ocons rfl (ocons rfl (ocons rfl (ocons rfl (ocons rfl (ocons rfl (ocons rfl (ocons rfl (ocons rfl (ocons rfl (ocons rfl (ocons rfl (ocons rfl onil))))))))))))))))))
theorem e92_ok : EntryOk Try.prog 92 e92 := by
  intro args ms r obs h ho
  unfold e92 at h
  split at h
  · cases h
    exact s92_1
  · cases h
def libW : List (Nat × Entry) := (92, e92) :: libW0
theorem libW_ok : AllOk Try.prog libW := .cons e92_ok libW0_ok
theorem arr_num {l : List Int} (hl : l.length = 4) (hw : ∀ n ∈ l, (Lit.int .u64 n).wf = true) : ∃ n, n < P256 ∧ ∀ ρ y, RW ρ (.agg (l.map (C.int .u64))) y → RW ρ (.agg (numC n)) y := by
  match l, hl with
  | [a, b, c, d], _ =>
    have rg : ∀ x ∈ [a, b, c, d], 0 ≤ x ∧ x < 18446744073709551616 := fun x hx => by
      obtain ⟨m, rfl, h⟩ := nat_of_wf64 (hw x hx)
      omega
    have ha := rg a (by simp); have hb := rg b (by simp); have hc := rg c (by simp); have hd := rg d (by simp)
    obtain ⟨h1, _, h3⟩ := num_ok (l := [.v (.int .u64 a), .v (.int .u64 b), .v (.int .u64 c), .v (.int .u64 d)]) rfl (by
      intro x hx
      simp only [List.cons_append, List.nil_append, List.mem_cons, List.not_mem_nil, or_false] at hx
      rcases hx with rfl | rfl | rfl | rfl <;> simp [*])
    refine ⟨_, h1, fun ρ y hy => ?_⟩
    obtain ⟨cs, rfl, hcs⟩ := hy
    exact ⟨cs, rfl, h3 ρ cs hcs ρ⟩
end Go.Proofs.Ytmjejlbmcefaoaa
