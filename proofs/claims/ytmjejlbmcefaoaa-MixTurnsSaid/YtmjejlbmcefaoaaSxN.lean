/- The symbolic executor, part N: a region, in the text's order and in any order. -/
import Derived.Test.YtmjejlbmcefaoaaSxM
namespace Sx
open Go Go.RowKit

theorem Sim.mono {P : Program} {I : Nat × Env} {F : Nat → Prop} {w0 w : World} {U U' : Nat → Prop} {ρ : Env} {t : Tms} {M : Mem} {n : Nat} {a : Act} (h : Sim P I F w0 U ρ t M n a w) (hU : ∀ id, U id → U' id) : Sim P I F w0 U' ρ t M n a w :=
  ⟨h.tm, h.sz, h.df, h.mem, h.lo, h.fr, fun x v hx id hid => hU _ (h.ut x v hx id hid), fun id b hb => hU _ (h.um id b hb), fun id b hb j hj => hU _ (h.uk id b hb j hj), h.ini, fun i hi => hU _ (h.ui i hi)⟩

def evalL (P : Program) (tab : Tab) (as : List (Nat × Bool)) (nx : Nat) (gd : Nat → Option Nat) : Nat → List Oper → Tms → Mem → Option (List Eff × Tms × Mem)
  | _, [], t, M => some ([], t, M)
  | i, o :: r, t, M =>
    match evalOp P tab as (nx + 4 * i) gd o t M with
    | some e =>
      match evalL P tab as nx gd (i + 1) r (putT t o.dst e.v) (putM M e.upd) with
      | some (es, t', M') => some (e :: es, t', M')
      | none => none
    | none => none

def dstOk (n : Nat) (o : Oper) : Bool := match o.dst with | some d => Nat.blt d n | none => true

def allObs : List Eff → List Bool
  | [] => []
  | e :: r => e.obs ++ allObs r

theorem seq_ok {P : Program} {tab : Tab} (hT : TabOk P tab) {as : List (Nat × Bool)} {nx : Nat} {gd : Nat → Option Nat} {I : Nat × Env} {F : Nat → Prop} {w0 : World} {n : Nat} {ops : Array Oper} {Q : Exit → Act → World → Prop}
    (hgd : ∀ j, gd j = (ops[j]?).bind (·.dst)) : ∀ (r : List Oper) (i : Nat) (t : Tms) (M : Mem) (es : List Eff) (t' : Tms) (M' : Mem) (ρ : Env) (a : Act) (w : World), (∀ j, r[j]? = ops[i + j]?) → evalL P tab as nx gd i r t M = some (es, t', M') →
      (∀ b ∈ allObs es, b = true) → (∀ o ∈ r, dstOk n o = true) → Sim P I F w0 (fun id => id < nx + 4 * i) ρ t M n a w →
      (∀ a' w' ρ', Sim P I F w0 (fun id => id < nx + 4 * (i + r.length)) ρ' t' M' n a' w' → Q .normal a' w') → wpOps P ops Q (List.range' i r.length) a w
  | [], i, t, M, es, t', M', ρ, a, w, _, h, _, _, hs, hQ => by
    simp only [evalL, Option.some.injEq, Prod.mk.injEq] at h
    obtain ⟨rfl, rfl, rfl⟩ := h
    exact hQ a w ρ (by simpa using hs)
  | o :: r, i, t, M, es, t', M', ρ, a, w, hr, h, ho, hd, hs, hQ => by
    simp only [evalL] at h
    cases he : evalOp P tab as (nx + 4 * i) gd o t M with
    | none => simp [he] at h
    | some e =>
      simp only [he] at h
      cases hl : evalL P tab as nx gd (i + 1) r (putT t o.dst e.v) (putM M e.upd) with
      | none => simp [hl] at h
      | some p =>
        obtain ⟨es2, t2, M2⟩ := p
        simp only [hl, Option.some.injEq, Prod.mk.injEq] at h
        obtain ⟨rfl, rfl, rfl⟩ := h
        have hoi : ops[i]? = some o := by have := hr 0; simpa using this.symm
        have key := evalOp_ok hT (ops := ops) (K := wpOps P ops Q (List.range' (i + 1) r.length)) (Q := Q) he (fun b hb => ho b (by simp [allObs, hb])) hs (fun id h1 h2 => by unfold inR at h2; omega) hgd
          (fun d hdd => by have := hd o (by simp); unfold dstOk at this; rw [hdd] at this; simpa using this)
          (fun a' w' ρ' hs' => seq_ok hT hgd r (i + 1) _ _ es2 _ _ ρ' a' w' (fun j => by have := hr (j + 1); simpa [Nat.add_assoc, Nat.add_comm 1 j] using this) hl (fun b hb => ho b (by simp [allObs, hb]))
            (fun o ho => hd o (by simp [ho])) (hs'.mono fun id h => by rcases h with h | h; omega; unfold inR at h; omega)
            (fun a' w' ρ' h => hQ a' w' ρ' (h.mono fun id hid => by simp only [List.length_cons]; omega)))
        simp only [List.length_cons, List.range'_succ, wpOps, hoi]
        split
        · rename_i hw; rw [if_pos hw] at key; exact .inl key
        · rename_i hw; rw [if_neg hw] at key; exact key

theorem evw_congr {t t1 : Tms} {x : Operand} (h : ev t1 x = ev t x) : evw t1 x = evw t x := by unfold evw; rw [h]
theorem evws_congr {t t1 : Tms} : ∀ {l : List Operand}, (∀ x ∈ l, ev t1 x = ev t x) → evws t1 l = evws t l
  | [], _ => rfl
  | x :: l, h => by simp only [evws]; rw [evw_congr (h x (by simp)), evws_congr fun y hy => h y (by simp [hy])]
theorem evParts_congr {t t1 : Tms} : ∀ {l : List (Nat × Operand)}, (∀ x ∈ l, ev t1 x.2 = ev t x.2) → evParts t1 l = evParts t l
  | [], _ => rfl
  | (i, x) :: l, h => by simp only [evParts]; rw [evw_congr (h (i, x) (by simp)), evParts_congr fun y hy => h y (by simp [hy])]
theorem oev_congr {t t1 : Tms} {x : Option Operand} (h : ∀ y, x = some y → ev t1 y = ev t y) : oev t1 x = oev t x := by
  cases x with
  | none => rfl
  | some y => simp only [oev]; rw [evw_congr (h y rfl)]

theorem core_congr {P : Program} {tab : Tab} {base : Nat} {o : Oper} {t t1 : Tms} {M : Mem} (h : ∀ x ∈ o.op.operands, ev t1 x = ev t x) : core P tab base o t1 M = core P tab base o t M := by
  unfold core
  split
  all_goals try rename_i hop
  all_goals try rw [hop] at h
  all_goals try simp only [Op.operands, Call.operands] at h
  · rw [h _ (by simp)]
  · rw [h _ (by simp)]
  · rename_i c a b
    rw [h c (by simp), h a (by simp), h b (by simp)]
  · rw [evw_congr (h _ (by simp))]
  · rename_i ps
    rw [evParts_congr (l := ps.toList) fun x hx => h x.2 (by simp; exact ⟨x.1, by simpa using hx⟩)]
  · rename_i ps
    rw [evParts_congr (l := ps.toList) fun x hx => h x.2 (by simp; exact ⟨x.1, by simpa using hx⟩)]
  · rw [evw_congr (h _ (by simp))]
  · rename_i x v
    rw [evw_congr (h x (by simp)), evw_congr (h v (by simp))]
  · rw [h _ (by simp)]
  · rename_i x y _
    rw [evw_congr (h x (by simp)), evw_congr (h y (by simp))]
  · rw [evw_congr (h _ (by simp))]
  · rw [evw_congr (h _ (by simp))]
  · rename_i first caps
    rw [evws_congr (l := first.toList) fun x hx => h x (by simp; exact .inl (by simpa using hx)), evws_congr (l := caps.toList) fun x hx => h x (by simp; exact .inr (by simpa using hx))]
  · rename_i x y
    rw [evw_congr (h x (by simp)), evw_congr (h y (by simp))]
  · rename_i x lo hi mx
    rw [evw_congr (h x (by simp)), oev_congr (x := lo) fun y hy => h y (by simp [hy]), oev_congr (x := hi) fun y hy => h y (by simp [hy]), oev_congr (x := mx) fun y hy => h y (by simp [hy])]
  · rw [evw_congr (h _ (by simp))]
  · rw [evw_congr (h _ (by simp))]
  · rename_i x y
    rw [evw_congr (h x (by simp)), evw_congr (h y (by simp))]
  · rename_i x y
    rw [evw_congr (h x (by simp)), evw_congr (h y (by simp))]
  · rw [h _ (by simp)]
  · rename_i args _
    rw [evws_congr (l := args.toList) fun x hx => h x (by simpa using hx)]
  · rename_i f args _
    rw [evw_congr (h f (by simp)), evws_congr (l := args.toList) fun x hx => h x (by simp; exact .inr (by simpa using hx))]
  · rfl

end Sx
