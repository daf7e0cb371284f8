/- A symbolic executor, checked once, and what it shows of the functions: part 1. -/
namespace Go.Proofs.Ytmjejlbmcefaoaa

section
variable {n : Nat} [NeZero n]

/-- what is used of the field. -/
structure Fld (n : Nat) [NeZero n] (inv : Fin n → Fin n) : Prop where
  nz : ∀ a b : Fin n, a * b = 0 → a = 0 ∨ b = 0
  inv : ∀ a : Fin n, a ≠ 0 → a * inv a = 1
  one : (1 : Fin n) ≠ 0

theorem Fld.cancel {inv : Fin n → Fin n} (F : Fld n inv) {a b c : Fin n} (hc : c ≠ 0) (h : a * c = b * c) : a = b := by
  have h1 : (a - b) * c = 0 := by grind
  rcases F.nz _ _ h1 with h2 | h2
  · grind
  · exact absurd h2 hc
theorem Fld.mul_ne {inv : Fin n → Fin n} (F : Fld n inv) {a b : Fin n} (ha : a ≠ 0) (hb : b ≠ 0) : a * b ≠ 0 := by
  intro h
  rcases F.nz _ _ h with h | h
  · exact ha h
  · exact hb h

def OnC (d x y : Fin n) : Prop := y*y - x*x - 1 - d*x*x*y*y = 0

theorem nonexc {inv : Fin n → Fin n} (F : Fld n inv) {d i : Fin n} (hi : i*i = -1) (hd : ∀ s, s*s ≠ d) {x1 y1 x2 y2 e : Fin n} (h1 : OnC d x1 y1) (h2 : OnC d x2 y2) (he : e*e = 1) : d*x1*x2*y1*y2 ≠ e := by
  intro h
  unfold OnC at h1 h2
  have he0 : e ≠ 0 := by
    intro h0
    rw [h0] at he
    exact F.one (by grind)
  have hx1 : x1 ≠ 0 := by rintro rfl; apply he0; grind
  have hy1 : y1 ≠ 0 := by rintro rfl; apply he0; grind
  have key : ∀ s : Fin n, s*s = 1 → d*(x1*y1*(i*x2+s*y2))*(x1*y1*(i*x2+s*y2)) = (i*x1+s*e*y1)*(i*x1+s*e*y1) := by
    intro s hs
    grind
  have sq : ∀ s : Fin n, s*s = 1 → i*x2+s*y2 = 0 := by
    intro s hs
    apply Classical.byContradiction
    intro hne
    have hm : x1*y1*(i*x2+s*y2) ≠ 0 := F.mul_ne (F.mul_ne hx1 hy1) hne
    have hk := key s hs
    generalize x1*y1*(i*x2+s*y2) = m at hm hk
    generalize i*x1+s*e*y1 = u at hk
    have hinv := F.inv m hm
    apply hd (u * inv m)
    generalize inv m = v at hinv
    grind
  have s1 := sq 1 (by grind)
  have s2 := sq (-1) (by grind)
  apply he0
  -- twice i x2 is 0, twice y2 is 0
  have hy : (i*x2)*y2 = -(y2*y2) := by grind
  have hy' : (i*x2)*y2 = y2*y2 := by grind
  have hx : (i*x2)*(i*x2) = y2*y2 := by grind
  have : e * e = 0 := by
    rw [← h]
    grind
  grind

theorem den_ne {inv : Fin n → Fin n} (F : Fld n inv) {d i : Fin n} (hi : i*i = -1) (hd : ∀ s, s*s ≠ d) {x1 y1 x2 y2 : Fin n} (h1 : OnC d x1 y1) (h2 : OnC d x2 y2) : 1 + d*x1*x2*y1*y2 ≠ 0 ∧ 1 - d*x1*x2*y1*y2 ≠ 0 := by
  refine ⟨fun h => ?_, fun h => ?_⟩
  · exact nonexc F hi hd h1 h2 (e := -1) (by grind) (by grind)
  · exact nonexc F hi hd h1 h2 (e := 1) (by grind) (by grind)

theorem closed_id (x1 y1 x2 y2 d : Fin n) : (y1*y2+x1*x2)*(y1*y2+x1*x2)*((1+d*x1*x2*y1*y2)*(1+d*x1*x2*y1*y2)) - (x1*y2+x2*y1)*(x1*y2+x2*y1)*((1-d*x1*x2*y1*y2)*(1-d*x1*x2*y1*y2)) - (1+d*x1*x2*y1*y2)*(1+d*x1*x2*y1*y2)*((1-d*x1*x2*y1*y2)*(1-d*x1*x2*y1*y2)) - d*(x1*y2+x2*y1)*(x1*y2+x2*y1)*(y1*y2+x1*x2)*(y1*y2+x1*x2) =
    (x1*x1*y1*y1*x2*x2*x2*x2*y2*y2*y2*y2*d*d*d - x1*x1*x2*x2*x2*x2*y2*y2*y2*y2*d*d - x1*x1*x2*x2*x2*x2*y2*y2*d + x1*x1*x2*x2*y2*y2*y2*y2*d + y1*y1*x2*x2*x2*x2*y2*y2*y2*y2*d*d + y1*y1*x2*x2*x2*x2*y2*y2*d - y1*y1*x2*x2*y2*y2*y2*y2*d - x2*x2*x2*x2*y2*y2*y2*y2*d*d - 2*x2*x2*x2*x2*y2*y2*y2*y2*d - 2*x2*x2*x2*x2*y2*y2 + x2*x2*x2*x2 + 2*x2*x2*y2*y2*y2*y2 - 2*x2*x2*y2*y2*d - 4*x2*x2*y2*y2 + y2*y2*y2*y2) * (y1*y1 - x1*x1 - 1 - d*x1*x1*y1*y1) + (x1*x1*x1*x1*x2*x2*y2*y2*d + 2*x1*x1*x2*x2*y2*y2*d + 2*x1*x1*x2*x2*y2*y2 - x1*x1*x2*x2 + x1*x1*y2*y2 + y1*y1*y1*y1*x2*x2*y2*y2*d - 2*y1*y1*x2*x2*y2*y2*d - 2*y1*y1*x2*x2*y2*y2 + y1*y1*x2*x2 - y1*y1*y2*y2 + x2*x2*y2*y2*d + 2*x2*x2*y2*y2 - x2*x2 + y2*y2 + 1) * (y2*y2 - x2*x2 - 1 - d*x2*x2*y2*y2) := by grind

theorem assoc_x_id (x1 y1 x2 y2 x3 y3 d : Fin n) : ((x1*y2+x2*y1)*(1-d*x1*x2*y1*y2)*y3+x3*(y1*y2+x1*x2)*(1+d*x1*x2*y1*y2))*((1+d*x2*x3*y2*y3)*(1-d*x2*x3*y2*y3)+d*x1*y1*(x2*y3+x3*y2)*(y2*y3+x2*x3)) - (x1*(y2*y3+x2*x3)*(1+d*x2*x3*y2*y3)+(x2*y3+x3*y2)*(1-d*x2*x3*y2*y3)*y1)*((1+d*x1*x2*y1*y2)*(1-d*x1*x2*y1*y2)+d*(x1*y2+x2*y1)*(y1*y2+x1*x2)*x3*y3) =
    (-x1*x2*x2*x2*x2*y2*y2*y2*x3*x3*y3*d*d - x1*x2*x2*x2*x2*y2*x3*x3*y3*d - x1*x2*x2*x2*y2*y2*y2*y2*x3*y3*y3*d*d - x1*x2*x2*x2*y2*y2*x3*x3*x3*d - x1*x2*x2*x2*y2*y2*x3*d + x1*x2*x2*y2*y2*y2*y3*y3*y3*d - x1*x2*x2*y2*y2*y2*y3*d + x1*x2*y2*y2*y2*y2*x3*y3*y3*d + y1*x2*x2*x2*x2*y2*y2*y2*x3*y3*y3*d*d + y1*x2*x2*x2*x2*y2*x3*y3*y3*d + y1*x2*x2*x2*y2*y2*y2*y2*x3*x3*y3*d*d + y1*x2*x2*x2*y2*y2*y3*y3*y3*d - y1*x2*x2*x2*y2*y2*y3*d - y1*x2*x2*y2*y2*y2*x3*x3*x3*d - y1*x2*x2*y2*y2*y2*x3*d - y1*x2*y2*y2*y2*y2*x3*x3*y3*d) * (y1*y1 - x1*x1 - 1 - d*x1*x1*y1*y1) + (x1*x1*x1*x2*x2*y2*x3*x3*y3*d + x1*x1*x1*x2*y2*y2*x3*y3*y3*d + x1*x1*x1*x2*x3*x3*x3*y3*y3*d + x1*x1*x1*x2*x3*x3*x3 - x1*x1*x1*x2*x3*y3*y3 + x1*x1*x1*x2*x3 + x1*x1*x1*y2*x3*x3*y3*y3*y3*d + x1*x1*x1*y2*x3*x3*y3 - x1*x1*x1*y2*y3*y3*y3 + x1*x1*x1*y2*y3 + x1*x1*y1*x2*x2*y2*x3*x3*x3*y3*y3*d*d - x1*x1*y1*x2*x2*y2*x3*y3*y3*d - x1*x1*y1*x2*y2*y2*x3*x3*y3*y3*y3*d*d - x1*x1*y1*x2*y2*y2*x3*x3*y3*d + x1*x1*y1*x2*x3*x3*y3*y3*y3*d + x1*x1*y1*x2*x3*x3*y3 - x1*x1*y1*x2*y3*y3*y3 + x1*x1*y1*x2*y3 + x1*x1*y1*y2*x3*x3*x3*y3*y3*d + x1*x1*y1*y2*x3*x3*x3 - x1*x1*y1*y2*x3*y3*y3 + x1*x1*y1*y2*x3 - x1*y1*y1*x2*x2*y2*x3*x3*y3*y3*y3*d*d - x1*y1*y1*x2*x2*y2*x3*x3*y3*d + x1*y1*y1*x2*y2*y2*x3*x3*x3*y3*y3*d*d - x1*y1*y1*x2*y2*y2*x3*y3*y3*d - x1*y1*y1*x2*x3*x3*x3*y3*y3*d - x1*y1*y1*x2*x3*x3*x3 + x1*y1*y1*x2*x3*y3*y3 - x1*y1*y1*x2*x3 - x1*y1*y1*y2*x3*x3*y3*y3*y3*d - x1*y1*y1*y2*x3*x3*y3 + x1*y1*y1*y2*y3*y3*y3 - x1*y1*y1*y2*y3 + x1*x2*x2*y2*x3*x3*y3*d + x1*x2*y2*y2*x3*y3*y3*d + x1*x2*x3*x3*x3*y3*y3*d + x1*x2*x3*x3*x3 - x1*x2*x3*y3*y3 + x1*x2*x3 + x1*y2*x3*x3*y3*y3*y3*d + x1*y2*x3*x3*y3 - x1*y2*y3*y3*y3 + x1*y2*y3 + y1*y1*y1*x2*x2*y2*x3*y3*y3*d + y1*y1*y1*x2*y2*y2*x3*x3*y3*d - y1*y1*y1*x2*x3*x3*y3*y3*y3*d - y1*y1*y1*x2*x3*x3*y3 + y1*y1*y1*x2*y3*y3*y3 - y1*y1*y1*x2*y3 - y1*y1*y1*y2*x3*x3*x3*y3*y3*d - y1*y1*y1*y2*x3*x3*x3 + y1*y1*y1*y2*x3*y3*y3 - y1*y1*y1*y2*x3 - y1*x2*x2*y2*x3*y3*y3*d - y1*x2*y2*y2*x3*x3*y3*d + y1*x2*x3*x3*y3*y3*y3*d + y1*x2*x3*x3*y3 - y1*x2*y3*y3*y3 + y1*x2*y3 + y1*y2*x3*x3*x3*y3*y3*d + y1*y2*x3*x3*x3 - y1*y2*x3*y3*y3 + y1*y2*x3) * (y2*y2 - x2*x2 - 1 - d*x2*x2*y2*y2) + (-x1*x1*x1*x2*x2*x2*x3 - x1*x1*x1*x2*x2*y2*y3 + x1*x1*x1*x2*y2*y2*x3 - x1*x1*x1*x2*x3 + x1*x1*x1*y2*y2*y2*y3 - x1*x1*x1*y2*y3 - x1*x1*y1*x2*x2*x2*y3 - x1*x1*y1*x2*x2*y2*x3*d - x1*x1*y1*x2*x2*y2*x3 + x1*x1*y1*x2*y2*y2*y3*d + x1*x1*y1*x2*y2*y2*y3 - x1*x1*y1*x2*y3 + x1*x1*y1*y2*y2*y2*x3 - x1*x1*y1*y2*x3 + x1*y1*y1*x2*x2*x2*x3 + x1*y1*y1*x2*x2*y2*y3*d + x1*y1*y1*x2*x2*y2*y3 - x1*y1*y1*x2*y2*y2*x3*d - x1*y1*y1*x2*y2*y2*x3 + x1*y1*y1*x2*x3 - x1*y1*y1*y2*y2*y2*y3 + x1*y1*y1*y2*y3 - x1*x2*x2*x2*x3 - x1*x2*x2*y2*y3 + x1*x2*y2*y2*x3 - x1*x2*x3 + x1*y2*y2*y2*y3 - x1*y2*y3 + y1*y1*y1*x2*x2*x2*y3 + y1*y1*y1*x2*x2*y2*x3 - y1*y1*y1*x2*y2*y2*y3 + y1*y1*y1*x2*y3 - y1*y1*y1*y2*y2*y2*x3 + y1*y1*y1*y2*x3 - y1*x2*x2*x2*y3 - y1*x2*x2*y2*x3 + y1*x2*y2*y2*y3 - y1*x2*y3 + y1*y2*y2*y2*x3 - y1*y2*x3) * (y3*y3 - x3*x3 - 1 - d*x3*x3*y3*y3) := by grind

theorem assoc_y_id (x1 y1 x2 y2 x3 y3 d : Fin n) : ((y1*y2+x1*x2)*(1+d*x1*x2*y1*y2)*y3+x3*(x1*y2+x2*y1)*(1-d*x1*x2*y1*y2))*((1+d*x2*x3*y2*y3)*(1-d*x2*x3*y2*y3)-d*x1*y1*(x2*y3+x3*y2)*(y2*y3+x2*x3)) - (y1*(y2*y3+x2*x3)*(1+d*x2*x3*y2*y3)+x1*(x2*y3+x3*y2)*(1-d*x2*x3*y2*y3))*((1+d*x1*x2*y1*y2)*(1-d*x1*x2*y1*y2)-d*(x1*y2+x2*y1)*(y1*y2+x1*x2)*x3*y3) =
    (x1*x2*x2*x2*x2*y2*y2*y2*x3*y3*y3*d*d + x1*x2*x2*x2*x2*y2*x3*y3*y3*d + x1*x2*x2*x2*y2*y2*y2*y2*x3*x3*y3*d*d + x1*x2*x2*x2*y2*y2*y3*y3*y3*d - x1*x2*x2*x2*y2*y2*y3*d - x1*x2*x2*y2*y2*y2*x3*x3*x3*d - x1*x2*x2*y2*y2*y2*x3*d - x1*x2*y2*y2*y2*y2*x3*x3*y3*d - y1*x2*x2*x2*x2*y2*y2*y2*x3*x3*y3*d*d - y1*x2*x2*x2*x2*y2*x3*x3*y3*d - y1*x2*x2*x2*y2*y2*y2*y2*x3*y3*y3*d*d - y1*x2*x2*x2*y2*y2*x3*x3*x3*d - y1*x2*x2*x2*y2*y2*x3*d + y1*x2*x2*y2*y2*y2*y3*y3*y3*d - y1*x2*x2*y2*y2*y2*y3*d + y1*x2*y2*y2*y2*y2*x3*y3*y3*d) * (y1*y1 - x1*x1 - 1 - d*x1*x1*y1*y1) + (-x1*x1*x1*x2*x2*y2*x3*y3*y3*d - x1*x1*x1*x2*y2*y2*x3*x3*y3*d + x1*x1*x1*x2*x3*x3*y3*y3*y3*d + x1*x1*x1*x2*x3*x3*y3 - x1*x1*x1*x2*y3*y3*y3 + x1*x1*x1*x2*y3 + x1*x1*x1*y2*x3*x3*x3*y3*y3*d + x1*x1*x1*y2*x3*x3*x3 - x1*x1*x1*y2*x3*y3*y3 + x1*x1*x1*y2*x3 + x1*x1*y1*x2*x2*y2*x3*x3*y3*y3*y3*d*d + x1*x1*y1*x2*x2*y2*x3*x3*y3*d - x1*x1*y1*x2*y2*y2*x3*x3*x3*y3*y3*d*d + x1*x1*y1*x2*y2*y2*x3*y3*y3*d + x1*x1*y1*x2*x3*x3*x3*y3*y3*d + x1*x1*y1*x2*x3*x3*x3 - x1*x1*y1*x2*x3*y3*y3 + x1*x1*y1*x2*x3 + x1*x1*y1*y2*x3*x3*y3*y3*y3*d + x1*x1*y1*y2*x3*x3*y3 - x1*x1*y1*y2*y3*y3*y3 + x1*x1*y1*y2*y3 - x1*y1*y1*x2*x2*y2*x3*x3*x3*y3*y3*d*d + x1*y1*y1*x2*x2*y2*x3*y3*y3*d + x1*y1*y1*x2*y2*y2*x3*x3*y3*y3*y3*d*d + x1*y1*y1*x2*y2*y2*x3*x3*y3*d - x1*y1*y1*x2*x3*x3*y3*y3*y3*d - x1*y1*y1*x2*x3*x3*y3 + x1*y1*y1*x2*y3*y3*y3 - x1*y1*y1*x2*y3 - x1*y1*y1*y2*x3*x3*x3*y3*y3*d - x1*y1*y1*y2*x3*x3*x3 + x1*y1*y1*y2*x3*y3*y3 - x1*y1*y1*y2*x3 - x1*x2*x2*y2*x3*y3*y3*d - x1*x2*y2*y2*x3*x3*y3*d + x1*x2*x3*x3*y3*y3*y3*d + x1*x2*x3*x3*y3 - x1*x2*y3*y3*y3 + x1*x2*y3 + x1*y2*x3*x3*x3*y3*y3*d + x1*y2*x3*x3*x3 - x1*y2*x3*y3*y3 + x1*y2*x3 - y1*y1*y1*x2*x2*y2*x3*x3*y3*d - y1*y1*y1*x2*y2*y2*x3*y3*y3*d - y1*y1*y1*x2*x3*x3*x3*y3*y3*d - y1*y1*y1*x2*x3*x3*x3 + y1*y1*y1*x2*x3*y3*y3 - y1*y1*y1*x2*x3 - y1*y1*y1*y2*x3*x3*y3*y3*y3*d - y1*y1*y1*y2*x3*x3*y3 + y1*y1*y1*y2*y3*y3*y3 - y1*y1*y1*y2*y3 + y1*x2*x2*y2*x3*x3*y3*d + y1*x2*y2*y2*x3*y3*y3*d + y1*x2*x3*x3*x3*y3*y3*d + y1*x2*x3*x3*x3 - y1*x2*x3*y3*y3 + y1*x2*x3 + y1*y2*x3*x3*y3*y3*y3*d + y1*y2*x3*x3*y3 - y1*y2*y3*y3*y3 + y1*y2*y3) * (y2*y2 - x2*x2 - 1 - d*x2*x2*y2*y2) + (-x1*x1*x1*x2*x2*x2*y3 - x1*x1*x1*x2*x2*y2*x3 + x1*x1*x1*x2*y2*y2*y3 - x1*x1*x1*x2*y3 + x1*x1*x1*y2*y2*y2*x3 - x1*x1*x1*y2*x3 - x1*x1*y1*x2*x2*x2*x3 - x1*x1*y1*x2*x2*y2*y3*d - x1*x1*y1*x2*x2*y2*y3 + x1*x1*y1*x2*y2*y2*x3*d + x1*x1*y1*x2*y2*y2*x3 - x1*x1*y1*x2*x3 + x1*x1*y1*y2*y2*y2*y3 - x1*x1*y1*y2*y3 + x1*y1*y1*x2*x2*x2*y3 + x1*y1*y1*x2*x2*y2*x3*d + x1*y1*y1*x2*x2*y2*x3 - x1*y1*y1*x2*y2*y2*y3*d - x1*y1*y1*x2*y2*y2*y3 + x1*y1*y1*x2*y3 - x1*y1*y1*y2*y2*y2*x3 + x1*y1*y1*y2*x3 - x1*x2*x2*x2*y3 - x1*x2*x2*y2*x3 + x1*x2*y2*y2*y3 - x1*x2*y3 + x1*y2*y2*y2*x3 - x1*y2*x3 + y1*y1*y1*x2*x2*x2*x3 + y1*y1*y1*x2*x2*y2*y3 - y1*y1*y1*x2*y2*y2*x3 + y1*y1*y1*x2*x3 - y1*y1*y1*y2*y2*y2*y3 + y1*y1*y1*y2*y3 - y1*x2*x2*x2*x3 - y1*x2*x2*y2*y3 + y1*x2*y2*y2*x3 - y1*x2*x3 + y1*y2*y2*y2*y3 - y1*y2*y3) * (y3*y3 - x3*x3 - 1 - d*x3*x3*y3*y3) := by grind

end
end Go.Proofs.Ytmjejlbmcefaoaa
namespace Go.Proofs.Ytmjejlbmcefaoaa

section
variable {n : Nat} [NeZero n]

/-- what is used of a curve. -/
structure Crv (n : Nat) [NeZero n] (inv : Fin n → Fin n) (d i : Fin n) : Prop extends Fld n inv where
  hi : i*i = -1
  hd : ∀ s, s*s ≠ d

def addX (inv : Fin n → Fin n) (d x1 y1 x2 y2 : Fin n) : Fin n := (x1*y2+x2*y1) * inv (1+d*x1*x2*y1*y2)
def addY (inv : Fin n → Fin n) (d x1 y1 x2 y2 : Fin n) : Fin n := (y1*y2+x1*x2) * inv (1-d*x1*x2*y1*y2)

variable {inv : Fin n → Fin n} {d i : Fin n}

theorem addX_mul (K : Crv n inv d i) {x1 y1 x2 y2 : Fin n} (h1 : OnC d x1 y1) (h2 : OnC d x2 y2) : addX inv d x1 y1 x2 y2 * (1+d*x1*x2*y1*y2) = x1*y2+x2*y1 := by
  have := K.inv _ (den_ne K.toFld K.hi K.hd h1 h2).1
  unfold addX
  generalize inv (1+d*x1*x2*y1*y2) = v at this ⊢
  generalize 1+d*x1*x2*y1*y2 = u at this ⊢
  grind
theorem addY_mul (K : Crv n inv d i) {x1 y1 x2 y2 : Fin n} (h1 : OnC d x1 y1) (h2 : OnC d x2 y2) : addY inv d x1 y1 x2 y2 * (1-d*x1*x2*y1*y2) = y1*y2+x1*x2 := by
  have := K.inv _ (den_ne K.toFld K.hi K.hd h1 h2).2
  unfold addY
  generalize inv (1-d*x1*x2*y1*y2) = v at this ⊢
  generalize 1-d*x1*x2*y1*y2 = u at this ⊢
  grind

theorem frac_id (X Y A B C D d : Fin n) (hA : X * B = A) (hC : Y * D = C) : (Y*Y - X*X - 1 - d*X*X*Y*Y) * (B*B*(D*D)) = C*C*(B*B) - A*A*(D*D) - B*B*(D*D) - d*A*A*C*C := by
  subst hA; subst hC; grind

theorem z2 (a b : Fin n) : a * 0 + b * 0 = 0 := by grind
theorem z3 (a b c : Fin n) : a * 0 + b * 0 + c * 0 = 0 := by grind

theorem add_on (K : Crv n inv d i) {x1 y1 x2 y2 : Fin n} (h1 : OnC d x1 y1) (h2 : OnC d x2 y2) : OnC d (addX inv d x1 y1 x2 y2) (addY inv d x1 y1 x2 y2) := by
  have hden := den_ne K.toFld K.hi K.hd h1 h2
  have e := frac_id _ _ _ _ _ _ d (addX_mul K h1 h2) (addY_mul K h1 h2)
  have c := closed_id x1 y1 x2 y2 d
  unfold OnC at h1 h2 ⊢
  rw [h1, h2] at c
  have z : (addY inv d x1 y1 x2 y2*addY inv d x1 y1 x2 y2 - addX inv d x1 y1 x2 y2*addX inv d x1 y1 x2 y2 - 1 - d*addX inv d x1 y1 x2 y2*addX inv d x1 y1 x2 y2*addY inv d x1 y1 x2 y2*addY inv d x1 y1 x2 y2) * ((1+d*x1*x2*y1*y2)*(1+d*x1*x2*y1*y2)*((1-d*x1*x2*y1*y2)*(1-d*x1*x2*y1*y2))) = 0 := by
    rw [e, c]; exact z2 _ _
  rcases K.nz _ _ z with h | h
  · exact h
  · exact absurd h (K.mul_ne (K.mul_ne hden.1 hden.1) (K.mul_ne hden.2 hden.2))

theorem nest_idX (X Y A B C D x3 y3 d U : Fin n) (hA : X * B = A) (hC : Y * D = C) (hU : U * (1 + d*X*x3*Y*y3) = X*y3 + x3*Y) : U * (B*D + d*A*C*x3*y3) = A*D*y3 + x3*C*B := by
  subst hA; subst hC
  have : U * (B*D + d*(X*B)*(Y*D)*x3*y3) = U * (1 + d*X*x3*Y*y3) * (B*D) := by grind
  rw [this, hU]; grind
theorem nest_idX' (X Y A B C D x1 y1 d U : Fin n) (hA : X * B = A) (hC : Y * D = C) (hU : U * (1 + d*x1*X*y1*Y) = x1*Y + X*y1) : U * (B*D + d*x1*y1*A*C) = x1*C*B + A*D*y1 := by
  subst hA; subst hC
  have : U * (B*D + d*x1*y1*(X*B)*(Y*D)) = U * (1 + d*x1*X*y1*Y) * (B*D) := by grind
  rw [this, hU]; grind
theorem nest_idY (X Y A B C D x3 y3 d U : Fin n) (hA : X * B = A) (hC : Y * D = C) (hU : U * (1 - d*X*x3*Y*y3) = Y*y3 + X*x3) : U * (B*D - d*A*C*x3*y3) = C*B*y3 + x3*A*D := by
  subst hA; subst hC
  have : U * (B*D - d*(X*B)*(Y*D)*x3*y3) = U * (1 - d*X*x3*Y*y3) * (B*D) := by grind
  rw [this, hU]; grind
theorem nest_idY' (X Y A B C D x1 y1 d U : Fin n) (hA : X * B = A) (hC : Y * D = C) (hU : U * (1 - d*x1*X*y1*Y) = y1*Y + x1*X) : U * (B*D - d*x1*y1*A*C) = y1*C*B + x1*A*D := by
  subst hA; subst hC
  have : U * (B*D - d*x1*y1*(X*B)*(Y*D)) = U * (1 - d*x1*X*y1*Y) * (B*D) := by grind
  rw [this, hU]; grind
theorem nest_denP (X Y A B C D x3 y3 d : Fin n) (hA : X * B = A) (hC : Y * D = C) : B*D + d*A*C*x3*y3 = (1 + d*X*x3*Y*y3) * (B*D) := by subst hA; subst hC; grind
theorem nest_denM (X Y A B C D x3 y3 d : Fin n) (hA : X * B = A) (hC : Y * D = C) : B*D - d*A*C*x3*y3 = (1 - d*X*x3*Y*y3) * (B*D) := by subst hA; subst hC; grind
theorem nest_denP' (X Y A B C D x1 y1 d : Fin n) (hA : X * B = A) (hC : Y * D = C) : B*D + d*x1*y1*A*C = (1 + d*x1*X*y1*Y) * (B*D) := by subst hA; subst hC; grind
theorem nest_denM' (X Y A B C D x1 y1 d : Fin n) (hA : X * B = A) (hC : Y * D = C) : B*D - d*x1*y1*A*C = (1 - d*x1*X*y1*Y) * (B*D) := by subst hA; subst hC; grind

theorem fin_eq (K : Fld n inv) {U V D1 D2 N1 N2 : Fin n} (h1 : U * D1 = N1) (h2 : V * D2 = N2) (hd1 : D1 ≠ 0) (hd2 : D2 ≠ 0) (h : N1 * D2 - N2 * D1 = 0) : U = V := by
  apply K.cancel (K.mul_ne hd1 hd2)
  subst h1; subst h2
  grind

theorem assocX (K : Crv n inv d i) {x1 y1 x2 y2 x3 y3 : Fin n} (h1 : OnC d x1 y1) (h2 : OnC d x2 y2) (h3 : OnC d x3 y3) :
    addX inv d (addX inv d x1 y1 x2 y2) (addY inv d x1 y1 x2 y2) x3 y3 = addX inv d x1 y1 (addX inv d x2 y2 x3 y3) (addY inv d x2 y2 x3 y3) := by
  have o12 := add_on K h1 h2
  have o23 := add_on K h2 h3
  have a12 := addX_mul K h1 h2
  have b12 := addY_mul K h1 h2
  have a23 := addX_mul K h2 h3
  have b23 := addY_mul K h2 h3
  have d12 := den_ne K.toFld K.hi K.hd h1 h2
  have d23 := den_ne K.toFld K.hi K.hd h2 h3
  have u := nest_idX _ _ _ _ _ _ x3 y3 d _ a12 b12 (addX_mul K o12 h3)
  have v := nest_idX' _ _ _ _ _ _ x1 y1 d _ a23 b23 (addX_mul K h1 o23)
  have du : (1+d*x1*x2*y1*y2)*(1-d*x1*x2*y1*y2) + d*(x1*y2+x2*y1)*(y1*y2+x1*x2)*x3*y3 ≠ 0 := by
    rw [nest_denP _ _ _ _ _ _ x3 y3 d a12 b12]
    exact K.mul_ne (den_ne K.toFld K.hi K.hd o12 h3).1 (K.mul_ne d12.1 d12.2)
  have dv : (1+d*x2*x3*y2*y3)*(1-d*x2*x3*y2*y3) + d*x1*y1*(x2*y3+x3*y2)*(y2*y3+x2*x3) ≠ 0 := by
    rw [nest_denP' _ _ _ _ _ _ x1 y1 d a23 b23]
    exact K.mul_ne (den_ne K.toFld K.hi K.hd h1 o23).1 (K.mul_ne d23.1 d23.2)
  refine fin_eq K.toFld u v du dv ?_
  have := assoc_x_id x1 y1 x2 y2 x3 y3 d
  unfold OnC at h1 h2 h3
  rw [h1, h2, h3] at this
  rw [this]; exact z3 _ _ _
theorem assocY (K : Crv n inv d i) {x1 y1 x2 y2 x3 y3 : Fin n} (h1 : OnC d x1 y1) (h2 : OnC d x2 y2) (h3 : OnC d x3 y3) :
    addY inv d (addX inv d x1 y1 x2 y2) (addY inv d x1 y1 x2 y2) x3 y3 = addY inv d x1 y1 (addX inv d x2 y2 x3 y3) (addY inv d x2 y2 x3 y3) := by
  have o12 := add_on K h1 h2
  have o23 := add_on K h2 h3
  have a12 := addX_mul K h1 h2
  have b12 := addY_mul K h1 h2
  have a23 := addX_mul K h2 h3
  have b23 := addY_mul K h2 h3
  have d12 := den_ne K.toFld K.hi K.hd h1 h2
  have d23 := den_ne K.toFld K.hi K.hd h2 h3
  have u := nest_idY _ _ _ _ _ _ x3 y3 d _ a12 b12 (addY_mul K o12 h3)
  have v := nest_idY' _ _ _ _ _ _ x1 y1 d _ a23 b23 (addY_mul K h1 o23)
  have du : (1+d*x1*x2*y1*y2)*(1-d*x1*x2*y1*y2) - d*(x1*y2+x2*y1)*(y1*y2+x1*x2)*x3*y3 ≠ 0 := by
    rw [nest_denM _ _ _ _ _ _ x3 y3 d a12 b12]
    exact K.mul_ne (den_ne K.toFld K.hi K.hd o12 h3).2 (K.mul_ne d12.1 d12.2)
  have dv : (1+d*x2*x3*y2*y3)*(1-d*x2*x3*y2*y3) - d*x1*y1*(x2*y3+x3*y2)*(y2*y3+x2*x3) ≠ 0 := by
    rw [nest_denM' _ _ _ _ _ _ x1 y1 d a23 b23]
    exact K.mul_ne (den_ne K.toFld K.hi K.hd h1 o23).2 (K.mul_ne d23.1 d23.2)
  refine fin_eq K.toFld u v du dv ?_
  have := assoc_y_id x1 y1 x2 y2 x3 y3 d
  unfold OnC at h1 h2 h3
  rw [h1, h2, h3] at this
  rw [this]; exact z3 _ _ _

theorem addX_comm (d x1 y1 x2 y2 : Fin n) : addX inv d x1 y1 x2 y2 = addX inv d x2 y2 x1 y1 := by
  unfold addX
  have h1 : x1*y2+x2*y1 = x2*y1+x1*y2 := by grind
  have h2 : d*x1*x2*y1*y2 = d*x2*x1*y2*y1 := by grind
  rw [h1, h2]
theorem addY_comm (d x1 y1 x2 y2 : Fin n) : addY inv d x1 y1 x2 y2 = addY inv d x2 y2 x1 y1 := by
  unfold addY
  have h1 : y1*y2+x1*x2 = y2*y1+x2*x1 := by grind
  have h2 : d*x1*x2*y1*y2 = d*x2*x1*y2*y1 := by grind
  rw [h1, h2]

/-- a point. -/
structure Pt (d : Fin n) where
  x : Fin n
  y : Fin n
  on : OnC d x y

theorem Pt.ext' {P Q : Pt d} (hx : P.x = Q.x) (hy : P.y = Q.y) : P = Q := by
  cases P; cases Q; cases hx; cases hy; rfl

def Pt.zero : Pt d := ⟨0, 1, by unfold OnC; grind⟩
def Pt.add (K : Crv n inv d i) (P Q : Pt d) : Pt d := ⟨addX inv d P.x P.y Q.x Q.y, addY inv d P.x P.y Q.x Q.y, add_on K P.on Q.on⟩

theorem Pt.assoc (K : Crv n inv d i) (P Q R : Pt d) : Pt.add K (Pt.add K P Q) R = Pt.add K P (Pt.add K Q R) := Pt.ext' (assocX K P.on Q.on R.on) (assocY K P.on Q.on R.on)
theorem Pt.comm (K : Crv n inv d i) (P Q : Pt d) : Pt.add K P Q = Pt.add K Q P := Pt.ext' (addX_comm ..) (addY_comm ..)
theorem Fld.inv_one (F : Fld n inv) : inv 1 = 1 := by
  have := F.inv 1 F.one
  grind
theorem Pt.zero_add (K : Crv n inv d i) (P : Pt d) : Pt.add K Pt.zero P = P := by
  have h1 := K.toFld.inv_one
  apply Pt.ext'
  · show (0*P.y + P.x*1) * inv (1+d*0*P.x*1*P.y) = P.x
    have : 1+d*0*P.x*1*P.y = 1 := by grind
    rw [this, h1]; grind
  · show (1*P.y + 0*P.x) * inv (1-d*0*P.x*1*P.y) = P.y
    have : 1-d*0*P.x*1*P.y = 1 := by grind
    rw [this, h1]; grind
theorem Pt.add_zero (K : Crv n inv d i) (P : Pt d) : Pt.add K P Pt.zero = P := by rw [Pt.comm, Pt.zero_add]
/-- so many times a point. -/
def Pt.times (K : Crv n inv d i) (P : Pt d) : Nat → Pt d
  | 0 => Pt.zero
  | k + 1 => Pt.add K (Pt.times K P k) P
theorem Pt.times_add (K : Crv n inv d i) (P : Pt d) (a : Nat) : ∀ b, Pt.times K P (a + b) = Pt.add K (Pt.times K P a) (Pt.times K P b)
  | 0 => by rw [Nat.add_zero]; exact (Pt.add_zero K _).symm
  | b + 1 => by rw [← Nat.add_assoc]; simp only [Pt.times]; rw [Pt.times_add K P a b, Pt.assoc]
theorem Pt.times_mul (K : Crv n inv d i) (P : Pt d) (a : Nat) : ∀ b, Pt.times K P (a * b) = Pt.times K (Pt.times K P a) b
  | 0 => rfl
  | b + 1 => by rw [Nat.mul_succ, Pt.times_add, Pt.times_mul K P a b]; rfl
theorem Pt.times_sum (K : Crv n inv d i) (P Q : Pt d) : ∀ a, Pt.times K (Pt.add K P Q) a = Pt.add K (Pt.times K P a) (Pt.times K Q a)
  | 0 => (Pt.zero_add K _).symm
  | a + 1 => by
    simp only [Pt.times]
    rw [Pt.times_sum K P Q a, Pt.assoc, Pt.assoc, ← Pt.assoc K (Pt.times K Q a) P Q, Pt.comm K (Pt.times K Q a) P, Pt.assoc]
theorem Pt.times_zero (K : Crv n inv d i) : ∀ a, Pt.times K (Pt.zero (d := d)) a = Pt.zero
  | 0 => rfl
  | a + 1 => by simp only [Pt.times]; rw [Pt.times_zero K a, Pt.zero_add]
theorem Pt.times_one (K : Crv n inv d i) (P : Pt d) : Pt.times K P 1 = P := Pt.zero_add K P
/-- by rests: where L times is zero. -/
theorem Pt.times_mod (K : Crv n inv d i) {P : Pt d} {L : Nat} (h : Pt.times K P L = Pt.zero) (a : Nat) : Pt.times K P (a % L) = Pt.times K P a := by
  have e := Nat.div_add_mod a L
  have : Pt.times K P a = Pt.add K (Pt.times K P (L * (a / L))) (Pt.times K P (a % L)) := by rw [← Pt.times_add, e]
  rw [this, Pt.times_mul, h, Pt.times_zero, Pt.zero_add]
end
end Go.Proofs.Ytmjejlbmcefaoaa
