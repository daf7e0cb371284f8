/- bits.Mul64, wide.Mul. -/
import Derived.Test.YtmjejlbmcefaoaaWidC
namespace Go.Proofs.Ytmjejlbmcefaoaa
open Go Sx

def e218 : Entry := fun args ms => match args, ms with
  | [.c (.v (.int .u64 x)), .c (.v (.int .u64 y))], [] => some (⟨.tup [.c (.v (.int .u64 (x * y / 18446744073709551616))), .c (.v (.int .u64 (x * y % 18446744073709551616)))], [], []⟩, [w64 x, w64 y])
  | _, _ => none
def libwd : List (Nat × Entry) := [(218, e218)]
theorem s218_1 (x : Int) (y : Int) : Sx.Spec Try.prog 218 [W.int IntKind.u64 x, W.int IntKind.u64 y] [] ⟨V.tup [W.int IntKind.u64 (IntKind.wrap IntKind.u64 (IntKind.wrap IntKind.u64 (IntKind.wrap IntKind.u64 (Int.fdiv x 4294967296 * Int.fdiv y 4294967296) + Int.fdiv (IntKind.wrap IntKind.u64 (IntKind.wrap IntKind.u64 (Int.fdiv x 4294967296 * andI IntKind.u64 y 4294967295) + Int.fdiv (IntKind.wrap IntKind.u64 (andI IntKind.u64 x 4294967295 * andI IntKind.u64 y 4294967295)) 4294967296)) 4294967296) + Int.fdiv (IntKind.wrap IntKind.u64 (andI IntKind.u64 (IntKind.wrap IntKind.u64 (IntKind.wrap IntKind.u64 (Int.fdiv x 4294967296 * andI IntKind.u64 y 4294967295) + Int.fdiv (IntKind.wrap IntKind.u64 (andI IntKind.u64 x 4294967295 * andI IntKind.u64 y 4294967295)) 4294967296)) 4294967295 + IntKind.wrap IntKind.u64 (andI IntKind.u64 x 4294967295 * Int.fdiv y 4294967296))) 4294967296)), W.int IntKind.u64 (IntKind.wrap IntKind.u64 (x * y))], [], []⟩ :=
  spec_of_whole (tab_ok libn_ok) mixed Try.func218 [] 1000000 [] (by kernel_rfl) (by kernel_rfl) (by kernel_rfl) (by kernel_rfl) (by kernel_rfl) (by kernel_rfl)
    (ocons rfl (ocons rfl (ocons rfl (ocons rfl (ocons rfl onil)))))

theorem and32 {x : Int} (h0 : 0 ≤ x) (h1 : x < 18446744073709551616) : andI IntKind.u64 x 4294967295 = x % 4294967296 := by
  obtain ⟨n, rfl⟩ := nat_of h0
  have hn : n < 2 ^ 64 := by omega
  have := andI_nat un64 (a := n) (b := 4294967295) hn (by decide)
  rw [show ((4294967295 : Int)) = ((4294967295 : Nat) : Int) from rfl, this, show (4294967295 : Nat) = 2 ^ 32 - 1 from rfl, Nat.and_two_pow_sub_one_eq_mod]
  simp
theorem mulParts {x y x0 x1 y0 y1 p00 p10 p01 p11 : Int} (hx0 : x0 = x % 4294967296) (hx1 : x1 = x / 4294967296) (hy0 : y0 = y % 4294967296) (hy1 : y1 = y / 4294967296) (h00 : p00 = x0 * y0) (h10 : p10 = x1 * y0) (h01 : p01 = x0 * y1) (h11 : p11 = x1 * y1) :
    x * y = p11 * 18446744073709551616 + (p10 + p01) * 4294967296 + p00 := by
  have ex : x = x1 * 4294967296 + x0 := by omega
  have ey : y = y1 * 4294967296 + y0 := by omega
  rw [ex, ey, h00, h10, h01, h11]
  grind
theorem mulBound {a b : Int} (ha : 0 ≤ a ∧ a ≤ 4294967295) (hb : 0 ≤ b ∧ b ≤ 4294967295) : 0 ≤ a * b ∧ a * b ≤ 18446744065119617025 := by
  refine ⟨Int.mul_nonneg ha.1 hb.1, ?_⟩
  have := Int.mul_le_mul ha.2 hb.2 hb.1 (by omega)
  omega
theorem wU (n : Int) : IntKind.wrap IntKind.u64 n = n % 18446744073709551616 := wrap_u64 n
theorem s218 {x y : Int} (hx : 0 ≤ x ∧ x < 18446744073709551616) (hy : 0 ≤ y ∧ y < 18446744073709551616) :
    Sx.Spec Try.prog 218 [W.int .u64 x, W.int .u64 y] [] ⟨.tup [.c (.v (.int .u64 (x * y / 18446744073709551616))), .c (.v (.int .u64 (x * y % 18446744073709551616)))], [], []⟩ := by
  refine spec_res (s218_1 x y) ?_
  have hm := mulParts (x := x) (y := y) rfl rfl rfl rfl rfl rfl rfl rfl
  have b00 := mulBound (a := x % 4294967296) (b := y % 4294967296) (by omega) (by omega)
  have b10 := mulBound (a := x / 4294967296) (b := y % 4294967296) (by omega) (by omega)
  have b01 := mulBound (a := x % 4294967296) (b := y / 4294967296) (by omega) (by omega)
  have b11 := mulBound (a := x / 4294967296) (b := y / 4294967296) (by omega) (by omega)
  rw [and32 hx.1 hx.2, and32 hy.1 hy.2, Int.fdiv_eq_ediv_of_nonneg x (by omega), Int.fdiv_eq_ediv_of_nonneg y (by omega)]
  have hp : 0 ≤ x * y := Int.mul_nonneg hx.1 hy.1
  generalize x % 4294967296 * (y % 4294967296) = p00 at *
  generalize x / 4294967296 * (y % 4294967296) = p10 at *
  generalize x % 4294967296 * (y / 4294967296) = p01 at *
  generalize x / 4294967296 * (y / 4294967296) = p11 at *
  generalize x * y = p at *
  have e1 : IntKind.wrap IntKind.u64 p00 = p00 := (wU _).trans (by omega)
  have e2 : IntKind.wrap IntKind.u64 p10 = p10 := (wU _).trans (by omega)
  have e3 : IntKind.wrap IntKind.u64 p01 = p01 := (wU _).trans (by omega)
  have e4 : IntKind.wrap IntKind.u64 p11 = p11 := (wU _).trans (by omega)
  rw [e1, e2, e3, e4, Int.fdiv_eq_ediv_of_nonneg p00 (by omega)]
  have e5 : IntKind.wrap IntKind.u64 (p10 + p00 / 4294967296) = p10 + p00 / 4294967296 := (wU _).trans (by omega)
  rw [e5, and32 (by omega) (by omega), Int.fdiv_eq_ediv_of_nonneg (p10 + p00 / 4294967296) (by omega)]
  have e6 : IntKind.wrap IntKind.u64 ((p10 + p00 / 4294967296) % 4294967296 + p01) = (p10 + p00 / 4294967296) % 4294967296 + p01 := (wU _).trans (by omega)
  rw [e6, Int.fdiv_eq_ediv_of_nonneg _ (by omega)]
  have e7 : IntKind.wrap IntKind.u64 (p11 + (p10 + p00 / 4294967296) / 4294967296) = p11 + (p10 + p00 / 4294967296) / 4294967296 := (wU _).trans (by omega)
  rw [e7]
  have e8 : IntKind.wrap IntKind.u64 (p11 + (p10 + p00 / 4294967296) / 4294967296 + ((p10 + p00 / 4294967296) % 4294967296 + p01) / 4294967296) = p / 18446744073709551616 := (wU _).trans (by omega)
  rw [e8, wU]
theorem e218_ok : EntryOk Try.prog 218 e218 := by
  intro args ms r obs h ho
  unfold e218 at h
  split at h
  · cases h
    exact s218 (w64_of (ohead ho)) (w64_of (ohead (otail ho)))
  · cases h
theorem libwd_ok : AllOk Try.prog libwd := .cons e218_ok (.nil _)
end Go.Proofs.Ytmjejlbmcefaoaa
