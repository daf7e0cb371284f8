/- The sum of points of a twisted Edwards curve: it has no exceptions, is on the curve, does not hang on the order. -/
namespace Go.Proofs.Ytmjejlbmcefaoaa

section
variable {n : Nat} [NeZero n]

/-- what is used of the field. -/
structure Fld (n : Nat) [NeZero n] (inv : Fin n → Fin n) : Prop where
  nz : ∀ a b : Fin n, a * b = 0 → a = 0 ∨ b = 0
  inv : ∀ a : Fin n, a ≠ 0 → a * inv a = 1
  one : (1 : Fin n) ≠ 0

theorem Fld.cancel {inv : Fin n → Fin n} (F : Fld n inv) {a b c : Fin n} (hc : c ≠ 0) (h : a * c = b * c) : a = b := by
  have h1 : (a - b) * c = 0 := by grind
  rcases F.nz _ _ h1 with h2 | h2
  · grind
  · exact absurd h2 hc
theorem Fld.mul_ne {inv : Fin n → Fin n} (F : Fld n inv) {a b : Fin n} (ha : a ≠ 0) (hb : b ≠ 0) : a * b ≠ 0 := by
  intro h
  rcases F.nz _ _ h with h | h
  · exact ha h
  · exact hb h

def OnC (d x y : Fin n) : Prop := y*y - x*x - 1 - d*x*x*y*y = 0

theorem nonexc {inv : Fin n → Fin n} (F : Fld n inv) {d i : Fin n} (hi : i*i = -1) (hd : ∀ s, s*s ≠ d) {x1 y1 x2 y2 e : Fin n} (h1 : OnC d x1 y1) (h2 : OnC d x2 y2) (he : e*e = 1) : d*x1*x2*y1*y2 ≠ e := by
  intro h
  unfold OnC at h1 h2
  have he0 : e ≠ 0 := by
    intro h0
    rw [h0] at he
    exact F.one (by grind)
  have hx1 : x1 ≠ 0 := by rintro rfl; apply he0; grind
  have hy1 : y1 ≠ 0 := by rintro rfl; apply he0; grind
  have key : ∀ s : Fin n, s*s = 1 → d*(x1*y1*(i*x2+s*y2))*(x1*y1*(i*x2+s*y2)) = (i*x1+s*e*y1)*(i*x1+s*e*y1) := by
    intro s hs
    grind
  have sq : ∀ s : Fin n, s*s = 1 → i*x2+s*y2 = 0 := by
    intro s hs
    apply Classical.byContradiction
    intro hne
    have hm : x1*y1*(i*x2+s*y2) ≠ 0 := F.mul_ne (F.mul_ne hx1 hy1) hne
    have hk := key s hs
    generalize x1*y1*(i*x2+s*y2) = m at hm hk
    generalize i*x1+s*e*y1 = u at hk
    have hinv := F.inv m hm
    apply hd (u * inv m)
    generalize inv m = v at hinv
    grind
  have s1 := sq 1 (by grind)
  have s2 := sq (-1) (by grind)
  apply he0
  -- twice i x2 is 0, twice y2 is 0
  have hy : (i*x2)*y2 = -(y2*y2) := by grind
  have hy' : (i*x2)*y2 = y2*y2 := by grind
  have hx : (i*x2)*(i*x2) = y2*y2 := by grind
  have : e * e = 0 := by
    rw [← h]
    grind
  grind

theorem den_ne {inv : Fin n → Fin n} (F : Fld n inv) {d i : Fin n} (hi : i*i = -1) (hd : ∀ s, s*s ≠ d) {x1 y1 x2 y2 : Fin n} (h1 : OnC d x1 y1) (h2 : OnC d x2 y2) : 1 + d*x1*x2*y1*y2 ≠ 0 ∧ 1 - d*x1*x2*y1*y2 ≠ 0 := by
  refine ⟨fun h => ?_, fun h => ?_⟩
  · exact nonexc F hi hd h1 h2 (e := -1) (by grind) (by grind)
  · exact nonexc F hi hd h1 h2 (e := 1) (by grind) (by grind)

theorem closed_id (x1 y1 x2 y2 d : Fin n) : (y1*y2+x1*x2)*(y1*y2+x1*x2)*((1+d*x1*x2*y1*y2)*(1+d*x1*x2*y1*y2)) - (x1*y2+x2*y1)*(x1*y2+x2*y1)*((1-d*x1*x2*y1*y2)*(1-d*x1*x2*y1*y2)) - (1+d*x1*x2*y1*y2)*(1+d*x1*x2*y1*y2)*((1-d*x1*x2*y1*y2)*(1-d*x1*x2*y1*y2)) - d*(x1*y2+x2*y1)*(x1*y2+x2*y1)*(y1*y2+x1*x2)*(y1*y2+x1*x2) =
    (x1*x1*y1*y1*x2*x2*x2*x2*y2*y2*y2*y2*d*d*d - x1*x1*x2*x2*x2*x2*y2*y2*y2*y2*d*d - x1*x1*x2*x2*x2*x2*y2*y2*d + x1*x1*x2*x2*y2*y2*y2*y2*d + y1*y1*x2*x2*x2*x2*y2*y2*y2*y2*d*d + y1*y1*x2*x2*x2*x2*y2*y2*d - y1*y1*x2*x2*y2*y2*y2*y2*d - x2*x2*x2*x2*y2*y2*y2*y2*d*d - 2*x2*x2*x2*x2*y2*y2*y2*y2*d - 2*x2*x2*x2*x2*y2*y2 + x2*x2*x2*x2 + 2*x2*x2*y2*y2*y2*y2 - 2*x2*x2*y2*y2*d - 4*x2*x2*y2*y2 + y2*y2*y2*y2) * (y1*y1 - x1*x1 - 1 - d*x1*x1*y1*y1) + (x1*x1*x1*x1*x2*x2*y2*y2*d + 2*x1*x1*x2*x2*y2*y2*d + 2*x1*x1*x2*x2*y2*y2 - x1*x1*x2*x2 + x1*x1*y2*y2 + y1*y1*y1*y1*x2*x2*y2*y2*d - 2*y1*y1*x2*x2*y2*y2*d - 2*y1*y1*x2*x2*y2*y2 + y1*y1*x2*x2 - y1*y1*y2*y2 + x2*x2*y2*y2*d + 2*x2*x2*y2*y2 - x2*x2 + y2*y2 + 1) * (y2*y2 - x2*x2 - 1 - d*x2*x2*y2*y2) := by grind

theorem assoc_x_id (x1 y1 x2 y2 x3 y3 d : Fin n) : ((x1*y2+x2*y1)*(1-d*x1*x2*y1*y2)*y3+x3*(y1*y2+x1*x2)*(1+d*x1*x2*y1*y2))*((1+d*x2*x3*y2*y3)*(1-d*x2*x3*y2*y3)+d*x1*y1*(x2*y3+x3*y2)*(y2*y3+x2*x3)) - (x1*(y2*y3+x2*x3)*(1+d*x2*x3*y2*y3)+(x2*y3+x3*y2)*(1-d*x2*x3*y2*y3)*y1)*((1+d*x1*x2*y1*y2)*(1-d*x1*x2*y1*y2)+d*(x1*y2+x2*y1)*(y1*y2+x1*x2)*x3*y3) =
    (-x1*x2*x2*x2*x2*y2*y2*y2*x3*x3*y3*d*d - x1*x2*x2*x2*x2*y2*x3*x3*y3*d - x1*x2*x2*x2*y2*y2*y2*y2*x3*y3*y3*d*d - x1*x2*x2*x2*y2*y2*x3*x3*x3*d - x1*x2*x2*x2*y2*y2*x3*d + x1*x2*x2*y2*y2*y2*y3*y3*y3*d - x1*x2*x2*y2*y2*y2*y3*d + x1*x2*y2*y2*y2*y2*x3*y3*y3*d + y1*x2*x2*x2*x2*y2*y2*y2*x3*y3*y3*d*d + y1*x2*x2*x2*x2*y2*x3*y3*y3*d + y1*x2*x2*x2*y2*y2*y2*y2*x3*x3*y3*d*d + y1*x2*x2*x2*y2*y2*y3*y3*y3*d - y1*x2*x2*x2*y2*y2*y3*d - y1*x2*x2*y2*y2*y2*x3*x3*x3*d - y1*x2*x2*y2*y2*y2*x3*d - y1*x2*y2*y2*y2*y2*x3*x3*y3*d) * (y1*y1 - x1*x1 - 1 - d*x1*x1*y1*y1) + (x1*x1*x1*x2*x2*y2*x3*x3*y3*d + x1*x1*x1*x2*y2*y2*x3*y3*y3*d + x1*x1*x1*x2*x3*x3*x3*y3*y3*d + x1*x1*x1*x2*x3*x3*x3 - x1*x1*x1*x2*x3*y3*y3 + x1*x1*x1*x2*x3 + x1*x1*x1*y2*x3*x3*y3*y3*y3*d + x1*x1*x1*y2*x3*x3*y3 - x1*x1*x1*y2*y3*y3*y3 + x1*x1*x1*y2*y3 + x1*x1*y1*x2*x2*y2*x3*x3*x3*y3*y3*d*d - x1*x1*y1*x2*x2*y2*x3*y3*y3*d - x1*x1*y1*x2*y2*y2*x3*x3*y3*y3*y3*d*d - x1*x1*y1*x2*y2*y2*x3*x3*y3*d + x1*x1*y1*x2*x3*x3*y3*y3*y3*d + x1*x1*y1*x2*x3*x3*y3 - x1*x1*y1*x2*y3*y3*y3 + x1*x1*y1*x2*y3 + x1*x1*y1*y2*x3*x3*x3*y3*y3*d + x1*x1*y1*y2*x3*x3*x3 - x1*x1*y1*y2*x3*y3*y3 + x1*x1*y1*y2*x3 - x1*y1*y1*x2*x2*y2*x3*x3*y3*y3*y3*d*d - x1*y1*y1*x2*x2*y2*x3*x3*y3*d + x1*y1*y1*x2*y2*y2*x3*x3*x3*y3*y3*d*d - x1*y1*y1*x2*y2*y2*x3*y3*y3*d - x1*y1*y1*x2*x3*x3*x3*y3*y3*d - x1*y1*y1*x2*x3*x3*x3 + x1*y1*y1*x2*x3*y3*y3 - x1*y1*y1*x2*x3 - x1*y1*y1*y2*x3*x3*y3*y3*y3*d - x1*y1*y1*y2*x3*x3*y3 + x1*y1*y1*y2*y3*y3*y3 - x1*y1*y1*y2*y3 + x1*x2*x2*y2*x3*x3*y3*d + x1*x2*y2*y2*x3*y3*y3*d + x1*x2*x3*x3*x3*y3*y3*d + x1*x2*x3*x3*x3 - x1*x2*x3*y3*y3 + x1*x2*x3 + x1*y2*x3*x3*y3*y3*y3*d + x1*y2*x3*x3*y3 - x1*y2*y3*y3*y3 + x1*y2*y3 + y1*y1*y1*x2*x2*y2*x3*y3*y3*d + y1*y1*y1*x2*y2*y2*x3*x3*y3*d - y1*y1*y1*x2*x3*x3*y3*y3*y3*d - y1*y1*y1*x2*x3*x3*y3 + y1*y1*y1*x2*y3*y3*y3 - y1*y1*y1*x2*y3 - y1*y1*y1*y2*x3*x3*x3*y3*y3*d - y1*y1*y1*y2*x3*x3*x3 + y1*y1*y1*y2*x3*y3*y3 - y1*y1*y1*y2*x3 - y1*x2*x2*y2*x3*y3*y3*d - y1*x2*y2*y2*x3*x3*y3*d + y1*x2*x3*x3*y3*y3*y3*d + y1*x2*x3*x3*y3 - y1*x2*y3*y3*y3 + y1*x2*y3 + y1*y2*x3*x3*x3*y3*y3*d + y1*y2*x3*x3*x3 - y1*y2*x3*y3*y3 + y1*y2*x3) * (y2*y2 - x2*x2 - 1 - d*x2*x2*y2*y2) + (-x1*x1*x1*x2*x2*x2*x3 - x1*x1*x1*x2*x2*y2*y3 + x1*x1*x1*x2*y2*y2*x3 - x1*x1*x1*x2*x3 + x1*x1*x1*y2*y2*y2*y3 - x1*x1*x1*y2*y3 - x1*x1*y1*x2*x2*x2*y3 - x1*x1*y1*x2*x2*y2*x3*d - x1*x1*y1*x2*x2*y2*x3 + x1*x1*y1*x2*y2*y2*y3*d + x1*x1*y1*x2*y2*y2*y3 - x1*x1*y1*x2*y3 + x1*x1*y1*y2*y2*y2*x3 - x1*x1*y1*y2*x3 + x1*y1*y1*x2*x2*x2*x3 + x1*y1*y1*x2*x2*y2*y3*d + x1*y1*y1*x2*x2*y2*y3 - x1*y1*y1*x2*y2*y2*x3*d - x1*y1*y1*x2*y2*y2*x3 + x1*y1*y1*x2*x3 - x1*y1*y1*y2*y2*y2*y3 + x1*y1*y1*y2*y3 - x1*x2*x2*x2*x3 - x1*x2*x2*y2*y3 + x1*x2*y2*y2*x3 - x1*x2*x3 + x1*y2*y2*y2*y3 - x1*y2*y3 + y1*y1*y1*x2*x2*x2*y3 + y1*y1*y1*x2*x2*y2*x3 - y1*y1*y1*x2*y2*y2*y3 + y1*y1*y1*x2*y3 - y1*y1*y1*y2*y2*y2*x3 + y1*y1*y1*y2*x3 - y1*x2*x2*x2*y3 - y1*x2*x2*y2*x3 + y1*x2*y2*y2*y3 - y1*x2*y3 + y1*y2*y2*y2*x3 - y1*y2*x3) * (y3*y3 - x3*x3 - 1 - d*x3*x3*y3*y3) := by grind

theorem assoc_y_id (x1 y1 x2 y2 x3 y3 d : Fin n) : ((y1*y2+x1*x2)*(1+d*x1*x2*y1*y2)*y3+x3*(x1*y2+x2*y1)*(1-d*x1*x2*y1*y2))*((1+d*x2*x3*y2*y3)*(1-d*x2*x3*y2*y3)-d*x1*y1*(x2*y3+x3*y2)*(y2*y3+x2*x3)) - (y1*(y2*y3+x2*x3)*(1+d*x2*x3*y2*y3)+x1*(x2*y3+x3*y2)*(1-d*x2*x3*y2*y3))*((1+d*x1*x2*y1*y2)*(1-d*x1*x2*y1*y2)-d*(x1*y2+x2*y1)*(y1*y2+x1*x2)*x3*y3) =
    (x1*x2*x2*x2*x2*y2*y2*y2*x3*y3*y3*d*d + x1*x2*x2*x2*x2*y2*x3*y3*y3*d + x1*x2*x2*x2*y2*y2*y2*y2*x3*x3*y3*d*d + x1*x2*x2*x2*y2*y2*y3*y3*y3*d - x1*x2*x2*x2*y2*y2*y3*d - x1*x2*x2*y2*y2*y2*x3*x3*x3*d - x1*x2*x2*y2*y2*y2*x3*d - x1*x2*y2*y2*y2*y2*x3*x3*y3*d - y1*x2*x2*x2*x2*y2*y2*y2*x3*x3*y3*d*d - y1*x2*x2*x2*x2*y2*x3*x3*y3*d - y1*x2*x2*x2*y2*y2*y2*y2*x3*y3*y3*d*d - y1*x2*x2*x2*y2*y2*x3*x3*x3*d - y1*x2*x2*x2*y2*y2*x3*d + y1*x2*x2*y2*y2*y2*y3*y3*y3*d - y1*x2*x2*y2*y2*y2*y3*d + y1*x2*y2*y2*y2*y2*x3*y3*y3*d) * (y1*y1 - x1*x1 - 1 - d*x1*x1*y1*y1) + (-x1*x1*x1*x2*x2*y2*x3*y3*y3*d - x1*x1*x1*x2*y2*y2*x3*x3*y3*d + x1*x1*x1*x2*x3*x3*y3*y3*y3*d + x1*x1*x1*x2*x3*x3*y3 - x1*x1*x1*x2*y3*y3*y3 + x1*x1*x1*x2*y3 + x1*x1*x1*y2*x3*x3*x3*y3*y3*d + x1*x1*x1*y2*x3*x3*x3 - x1*x1*x1*y2*x3*y3*y3 + x1*x1*x1*y2*x3 + x1*x1*y1*x2*x2*y2*x3*x3*y3*y3*y3*d*d + x1*x1*y1*x2*x2*y2*x3*x3*y3*d - x1*x1*y1*x2*y2*y2*x3*x3*x3*y3*y3*d*d + x1*x1*y1*x2*y2*y2*x3*y3*y3*d + x1*x1*y1*x2*x3*x3*x3*y3*y3*d + x1*x1*y1*x2*x3*x3*x3 - x1*x1*y1*x2*x3*y3*y3 + x1*x1*y1*x2*x3 + x1*x1*y1*y2*x3*x3*y3*y3*y3*d + x1*x1*y1*y2*x3*x3*y3 - x1*x1*y1*y2*y3*y3*y3 + x1*x1*y1*y2*y3 - x1*y1*y1*x2*x2*y2*x3*x3*x3*y3*y3*d*d + x1*y1*y1*x2*x2*y2*x3*y3*y3*d + x1*y1*y1*x2*y2*y2*x3*x3*y3*y3*y3*d*d + x1*y1*y1*x2*y2*y2*x3*x3*y3*d - x1*y1*y1*x2*x3*x3*y3*y3*y3*d - x1*y1*y1*x2*x3*x3*y3 + x1*y1*y1*x2*y3*y3*y3 - x1*y1*y1*x2*y3 - x1*y1*y1*y2*x3*x3*x3*y3*y3*d - x1*y1*y1*y2*x3*x3*x3 + x1*y1*y1*y2*x3*y3*y3 - x1*y1*y1*y2*x3 - x1*x2*x2*y2*x3*y3*y3*d - x1*x2*y2*y2*x3*x3*y3*d + x1*x2*x3*x3*y3*y3*y3*d + x1*x2*x3*x3*y3 - x1*x2*y3*y3*y3 + x1*x2*y3 + x1*y2*x3*x3*x3*y3*y3*d + x1*y2*x3*x3*x3 - x1*y2*x3*y3*y3 + x1*y2*x3 - y1*y1*y1*x2*x2*y2*x3*x3*y3*d - y1*y1*y1*x2*y2*y2*x3*y3*y3*d - y1*y1*y1*x2*x3*x3*x3*y3*y3*d - y1*y1*y1*x2*x3*x3*x3 + y1*y1*y1*x2*x3*y3*y3 - y1*y1*y1*x2*x3 - y1*y1*y1*y2*x3*x3*y3*y3*y3*d - y1*y1*y1*y2*x3*x3*y3 + y1*y1*y1*y2*y3*y3*y3 - y1*y1*y1*y2*y3 + y1*x2*x2*y2*x3*x3*y3*d + y1*x2*y2*y2*x3*y3*y3*d + y1*x2*x3*x3*x3*y3*y3*d + y1*x2*x3*x3*x3 - y1*x2*x3*y3*y3 + y1*x2*x3 + y1*y2*x3*x3*y3*y3*y3*d + y1*y2*x3*x3*y3 - y1*y2*y3*y3*y3 + y1*y2*y3) * (y2*y2 - x2*x2 - 1 - d*x2*x2*y2*y2) + (-x1*x1*x1*x2*x2*x2*y3 - x1*x1*x1*x2*x2*y2*x3 + x1*x1*x1*x2*y2*y2*y3 - x1*x1*x1*x2*y3 + x1*x1*x1*y2*y2*y2*x3 - x1*x1*x1*y2*x3 - x1*x1*y1*x2*x2*x2*x3 - x1*x1*y1*x2*x2*y2*y3*d - x1*x1*y1*x2*x2*y2*y3 + x1*x1*y1*x2*y2*y2*x3*d + x1*x1*y1*x2*y2*y2*x3 - x1*x1*y1*x2*x3 + x1*x1*y1*y2*y2*y2*y3 - x1*x1*y1*y2*y3 + x1*y1*y1*x2*x2*x2*y3 + x1*y1*y1*x2*x2*y2*x3*d + x1*y1*y1*x2*x2*y2*x3 - x1*y1*y1*x2*y2*y2*y3*d - x1*y1*y1*x2*y2*y2*y3 + x1*y1*y1*x2*y3 - x1*y1*y1*y2*y2*y2*x3 + x1*y1*y1*y2*x3 - x1*x2*x2*x2*y3 - x1*x2*x2*y2*x3 + x1*x2*y2*y2*y3 - x1*x2*y3 + x1*y2*y2*y2*x3 - x1*y2*x3 + y1*y1*y1*x2*x2*x2*x3 + y1*y1*y1*x2*x2*y2*y3 - y1*y1*y1*x2*y2*y2*x3 + y1*y1*y1*x2*x3 - y1*y1*y1*y2*y2*y2*y3 + y1*y1*y1*y2*y3 - y1*x2*x2*x2*x3 - y1*x2*x2*y2*y3 + y1*x2*y2*y2*x3 - y1*x2*x3 + y1*y2*y2*y2*y3 - y1*y2*y3) * (y3*y3 - x3*x3 - 1 - d*x3*x3*y3*y3) := by grind

end
end Go.Proofs.Ytmjejlbmcefaoaa
