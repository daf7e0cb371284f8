/- The symbolic executor, part O: a region that draws its order. -/
import Derived.Test.YtmjejlbmcefaoaaSxN
namespace Sx
open Go Go.RowKit

theorem goOp_congr {P : Program} {tab : Tab} {as : List (Nat × Bool)} {base : Nat} {o : Oper} {t t1 : Tms} {M M1 : Mem} {e : Eff} (h : goOp P tab as base o t M = some e)
    (ht : ∀ x ∈ o.op.operands, ev t1 x = ev t x) (hM : ∀ id ∈ e.acc, M1 id = M id) : goOp P tab as base o t1 M1 = some e := by
  have hids : opIds t1 o.op.operands.toList = opIds t o.op.operands.toList := by
    unfold opIds
    have : ∀ l : List Operand, (∀ x ∈ l, ev t1 x = ev t x) → (l.flatMap fun x => match ev t1 x with | some v => v.ids | none => []) = (l.flatMap fun x => match ev t x with | some v => v.ids | none => []) := by
      intro l hl
      induction l with
      | nil => rfl
      | cons x l ih => simp only [List.flatMap_cons]; rw [hl x (by simp), ih fun y hy => hl y (by simp [hy])]
    exact this _ fun x hx => ht x (by simpa using hx)
  have hacc : e.acc = reach M 3 (opIds t o.op.operands.toList) := by
    unfold goOp at h
    split at h
    · rename_i out _
      cases hc : chkOut (reach M 3 (opIds t o.op.operands.toList)) base out with
      | false => simp [hc] at h
      | true => simp only [hc, cond_true, Option.some.injEq] at h; subst h; rfl
    · cases h
  rw [hacc] at hM
  have hreach := reach_congr (M := M) (M1 := M1) 3 (opIds t o.op.operands.toList) hM
  have hrestrict : restrict M1 (reach M 3 (opIds t o.op.operands.toList)) = restrict M (reach M 3 (opIds t o.op.operands.toList)) := by
    funext id
    unfold restrict
    cases hm : memB id (reach M 3 (opIds t o.op.operands.toList)) with
    | true => simp only [cond_true]; exact hM id (memB_iff.1 hm)
    | false => rfl
  unfold goOp at *
  rw [hids, hreach, hrestrict, core_congr ht]
  exact h

theorem evalOp_congr {P : Program} {tab : Tab} {as : List (Nat × Bool)} {base : Nat} {gd : Nat → Option Nat} {o : Oper} {t t1 : Tms} {M M1 : Mem} {e : Eff} (h : evalOp P tab as base gd o t M = some e)
    (ht : ∀ x ∈ looks gd o, t1 x = t x) (hM : ∀ id ∈ e.acc, M1 id = M id) : evalOp P tab as base gd o t1 M1 = some e := by
  have hops : ∀ x ∈ o.op.operands, ev t1 x = ev t x := by
    intro x hx
    cases x with
    | tmp y =>
      refine ht y ?_
      simp only [looks, List.mem_append, List.mem_filterMap]
      exact .inl ⟨.tmp y, by simpa using hx, rfl⟩
    | _ => rfl
  unfold evalOp at *
  split
  · rename_i hg
    simp only [hg] at h
    exact goOp_congr h hops hM
  · rename_i j want hg
    simp only [hg] at h
    cases hd : gd j with
    | none => rw [hd] at h; cases h
    | some d =>
      have htd : t1 d = t d := ht d (by simp only [looks, hg, hd, List.mem_append]; exact .inr (by simp))
      rw [hd] at h
      simp only at h
      show (match t1 d with
        | some (.w (.c (.v (.bool b)))) => bif same2 b want then goOp P tab as base o t1 M1 else some ⟨none, [], [], []⟩
        | _ => none) = some e
      rw [htd]
      split at h
      · rename_i b hb
        simp only [hb]
        cases hs : same2 b want with
        | true => simp only [hs, cond_true] at h ⊢; exact goOp_congr h hops hM
        | false => simp only [hs, cond_false] at h ⊢; exact h
      · cases h

def updIds (e : Eff) : List Nat := e.upd.map (·.1)
def disj (a b : List Nat) : Bool := a.all fun x => !(memB x b)

theorem disj_ok {a b : List Nat} (h : disj a b = true) : ∀ x ∈ a, x ∉ b := by
  intro x hx hb
  simp only [disj, List.all_eq_true, Bool.not_eq_true'] at h
  have := h x hx
  rw [memB_iff.2 hb] at this
  cases this

def indep (gd : Nat → Option Nat) (oi : Oper) (ei : Eff) (oj : Oper) (ej : Eff) : Bool :=
  (match oi.dst with
    | some d => !(memB d (looks gd oj)) && (match oj.dst with | some d' => !(Nat.beq d d') | none => true)
    | none => true) &&
  ((match oj.dst with | some d => !(memB d (looks gd oi)) | none => true) &&
  (disj (updIds ei) ej.acc && (disj (updIds ej) ei.acc && disj (updIds ei) (updIds ej))))

structure Indep (gd : Nat → Option Nat) (oi : Oper) (ei : Eff) (oj : Oper) (ej : Eff) : Prop where
  a : ∀ d, oi.dst = some d → d ∉ looks gd oj
  b : ∀ d, oj.dst = some d → d ∉ looks gd oi
  c : ∀ d, oi.dst = some d → oj.dst ≠ some d
  d : ∀ x ∈ updIds ei, x ∉ ej.acc
  e : ∀ x ∈ updIds ej, x ∉ ei.acc
  f : ∀ x ∈ updIds ei, x ∉ updIds ej

theorem indep_ok {gd : Nat → Option Nat} {oi oj : Oper} {ei ej : Eff} (h : indep gd oi ei oj ej = true) : Indep gd oi ei oj ej := by
  simp only [indep, Bool.and_eq_true] at h
  obtain ⟨h1, h2, h3, h4, h5⟩ := h
  refine ⟨?_, ?_, ?_, disj_ok h3, disj_ok h4, disj_ok h5⟩
  · intro d hd hm
    rw [hd] at h1
    simp only [Bool.and_eq_true, Bool.not_eq_true'] at h1
    rw [memB_iff.2 hm] at h1
    cases h1.1
  · intro d hd hm
    rw [hd] at h2
    simp only [Bool.not_eq_true'] at h2
    rw [memB_iff.2 hm] at h2
    cases h2
  · intro d hd hd'
    rw [hd, hd'] at h1
    simp at h1

theorem putM_notin : ∀ (u : List (Nat × Option Blk)) (M : Mem) (x : Nat), x ∉ u.map (·.1) → putM M u x = M x
  | [], M, x, _ => rfl
  | (id, b) :: r, M, x, h => by
    simp only [List.map_cons, List.mem_cons, not_or] at h
    simp only [putM]
    rw [putM_notin r _ x h.2]
    have : Nat.beq x id = false := by rw [← Bool.not_eq_true, Nat.beq_eq]; exact h.1
    simp [this]

theorem putM_in : ∀ (u : List (Nat × Option Blk)) (M M' : Mem) (x : Nat), x ∈ u.map (·.1) → putM M u x = putM M' u x
  | [], M, M', x, h => by simp at h
  | (id, b) :: r, M, M', x, h => by
    simp only [putM]
    by_cases hr : x ∈ r.map (·.1)
    · exact putM_in r _ _ x hr
    · rw [putM_notin r _ x hr, putM_notin r _ x hr]
      simp only [List.map_cons, List.mem_cons] at h
      have : x = id := h.resolve_right hr
      subst this
      simp

theorem putM_comm {u v : List (Nat × Option Blk)} (h : ∀ x ∈ u.map (·.1), x ∉ v.map (·.1)) (M : Mem) : putM (putM M u) v = putM (putM M v) u := by
  funext x
  by_cases hu : x ∈ u.map (·.1)
  · have hv := h x hu
    rw [putM_notin v _ x hv, putM_in u (putM M v) M x hu]
  · rw [putM_notin u _ x hu]
    by_cases hv : x ∈ v.map (·.1)
    · exact putM_in v _ _ x hv
    · rw [putM_notin v _ x hv, putM_notin v _ x hv, putM_notin u _ x hu]

theorem putT_get (t : Tms) (dst : Option Nat) (v : Option V) (x : Nat) : putT t dst v x = if dst = some x then v else t x := by
  unfold putT
  cases dst with
  | none => simp
  | some d =>
    simp only [Option.some.injEq]
    by_cases hx : x = d
    · subst hx; simp
    · have : Nat.beq x d = false := by rw [← Bool.not_eq_true, Nat.beq_eq]; exact hx
      simp [this, Ne.symm hx]

theorem putT_comm {d d' : Option Nat} (h : ∀ x, d = some x → d' ≠ some x) (t : Tms) (v v' : Option V) : putT (putT t d v) d' v' = putT (putT t d' v') d v := by
  funext x
  simp only [putT_get]
  by_cases h1 : d = some x
  · have := h x h1
    simp [h1, this]
  · simp [h1]

section
variable (P : Program) (tab : Tab) (as : List (Nat × Bool)) (nx : Nat) (gd : Nat → Option Nat) (l : List Oper) (es : List Eff)

def Runs : List Nat → Tms → Mem → Prop
  | [], _, _ => True
  | i :: L, t, M => ∃ o e, l[i]? = some o ∧ es[i]? = some e ∧ evalOp P tab as (nx + 4 * i) gd o t M = some e ∧ Runs L (putT t o.dst e.v) (putM M e.upd)

def fin : List Nat → Tms → Mem → Tms × Mem
  | [], t, M => (t, M)
  | i :: L, t, M =>
    match l[i]?, es[i]? with
    | some o, some e => fin L (putT t o.dst e.v) (putM M e.upd)
    | _, _ => fin L t M

def IndepAt (j x : Nat) : Prop := ∀ oj ej ox ex, l[j]? = some oj → es[j]? = some ej → l[x]? = some ox → es[x]? = some ex → Indep gd oj ej ox ex

theorem move (x : Nat) (L2 : List Nat) : ∀ (L1 : List Nat) (t : Tms) (M : Mem), (∀ j ∈ L1, IndepAt gd l es j x) → Runs P tab as nx gd l es (L1 ++ x :: L2) t M →
    ∃ o e, l[x]? = some o ∧ es[x]? = some e ∧ evalOp P tab as (nx + 4 * x) gd o t M = some e ∧ Runs P tab as nx gd l es (L1 ++ L2) (putT t o.dst e.v) (putM M e.upd) ∧
      fin l es (L1 ++ x :: L2) t M = fin l es (L1 ++ L2) (putT t o.dst e.v) (putM M e.upd)
  | [], t, M, _, h => by
    obtain ⟨o, e, ho, he, hev, hr⟩ := h
    exact ⟨o, e, ho, he, hev, hr, by simp only [List.nil_append, fin, ho, he]⟩
  | j :: L1, t, M, hi, h => by
    obtain ⟨oj, ej, hoj, hej, hevj, hr⟩ := h
    obtain ⟨o, e, ho, he, hev, hr2, hf⟩ := move x L2 L1 _ _ (fun k hk => hi k (by simp [hk])) hr
    have hind := hi j (by simp) oj ej o e hoj hej ho he
    have hevx : evalOp P tab as (nx + 4 * x) gd o t M = some e := by
      refine evalOp_congr hev (fun y hy => ?_) (fun id hid => ?_)
      · rw [putT_get, if_neg fun hd => hind.a y hd hy]
      · rw [putM_notin _ _ _ fun hm => hind.d id hm hid]
    have hevj' : evalOp P tab as (nx + 4 * j) gd oj (putT t o.dst e.v) (putM M e.upd) = some ej := by
      refine evalOp_congr hevj (fun y hy => ?_) (fun id hid => ?_)
      · rw [putT_get, if_neg fun hd => hind.b y hd hy]
      · rw [putM_notin _ _ _ fun hm => hind.e id hm hid]
    have ct := putT_comm (d := oj.dst) (d' := o.dst) (fun y hy => hind.c y hy) t ej.v e.v
    have cm := putM_comm (u := ej.upd) (v := e.upd) hind.f M
    refine ⟨o, e, ho, he, hevx, ⟨oj, ej, hoj, hej, hevj', ?_⟩, ?_⟩
    · rw [← ct, ← cm]; exact hr2
    · simp only [List.cons_append, fin, hoj, hej]
      rw [hf, ct, cm]

theorem evalL_runs : ∀ (r : List Oper) (i : Nat) (t : Tms) (M : Mem) (es' : List Eff) (t' : Tms) (M' : Mem), (∀ j, r[j]? = l[i + j]?) → (∀ j, es'[j]? = es[i + j]?) → evalL P tab as nx gd i r t M = some (es', t', M') →
    Runs P tab as nx gd l es (List.range' i r.length) t M ∧ fin l es (List.range' i r.length) t M = (t', M') ∧ es'.length = r.length
  | [], i, t, M, es', t', M', _, _, h => by
    simp only [evalL, Option.some.injEq, Prod.mk.injEq] at h
    obtain ⟨rfl, rfl, rfl⟩ := h
    exact ⟨trivial, rfl, rfl⟩
  | o :: r, i, t, M, es', t', M', hr, he, h => by
    simp only [evalL] at h
    cases hev : evalOp P tab as (nx + 4 * i) gd o t M with
    | none => simp [hev] at h
    | some e =>
      simp only [hev] at h
      cases hl : evalL P tab as nx gd (i + 1) r (putT t o.dst e.v) (putM M e.upd) with
      | none => simp [hl] at h
      | some p =>
        obtain ⟨es2, t2, M2⟩ := p
        simp only [hl, Option.some.injEq, Prod.mk.injEq] at h
        obtain ⟨rfl, rfl, rfl⟩ := h
        have hoi : l[i]? = some o := by have := hr 0; simpa using this.symm
        have hei : es[i]? = some e := by have := he 0; simpa using this.symm
        obtain ⟨a, b, c⟩ := evalL_runs r (i + 1) _ _ es2 t2 M2 (fun j => by have := hr (j + 1); simpa [Nat.add_assoc, Nat.add_comm 1 j] using this) (fun j => by have := he (j + 1); simpa [Nat.add_assoc, Nat.add_comm 1 j] using this) hl
        simp only [List.length_cons, List.range'_succ]
        exact ⟨⟨o, e, hoi, hei, hev, a⟩, by simp only [fin, hoi, hei]; exact b, by simp [c]⟩
end

/-- the operations that stand before one of a region, by its edges. -/
def edgesOf (o : Oper) : List Nat := o.after.toList.filterMap fun e => bif Region.binds .any e then some e.on else none

def orAll (acc : List Nat) : List Nat → Nat
  | [] => 0
  | k :: r => ((1 <<< k) ||| acc.getD k 0) ||| orAll acc r

def masks : List Oper → List Nat → List Nat
  | [], acc => acc
  | o :: r, acc => masks r (acc ++ [orAll acc (edgesOf o)])

theorem orAll_bit (acc : List Nat) (j : Nat) : ∀ l, (orAll acc l).testBit j = true → ∃ k ∈ l, j = k ∨ (acc.getD k 0).testBit j = true
  | [], h => by simp [orAll] at h
  | k :: r, h => by
    simp only [orAll, Nat.testBit_or, Bool.or_eq_true] at h
    rcases h with (h | h) | h
    · refine ⟨k, by simp, .inl ?_⟩
      rw [Nat.one_shiftLeft, Nat.testBit_two_pow] at h
      simpa using (of_decide_eq_true h).symm
    · exact ⟨k, by simp, .inr h⟩
    · obtain ⟨k', hk, hh⟩ := orAll_bit acc j r h
      exact ⟨k', by simp [hk], hh⟩

theorem masks_prefix : ∀ (l : List Oper) (acc : List Nat), ∃ tl, masks l acc = acc ++ tl
  | [], acc => ⟨[], by simp [masks]⟩
  | o :: r, acc => by
    obtain ⟨tl, h⟩ := masks_prefix r (acc ++ [orAll acc (edgesOf o)])
    exact ⟨orAll acc (edgesOf o) :: tl, by simp [masks, h]⟩

theorem masks_bit : ∀ (l : List Oper) (acc : List Nat) (i : Nat) (o : Oper) (j : Nat), l[i]? = some o → ((masks l acc).getD (acc.length + i) 0).testBit j = true →
    ∃ k ∈ edgesOf o, j = k ∨ ((masks l acc).getD k 0).testBit j = true
  | [], acc, i, o, j, h, _ => by simp at h
  | o' :: r, acc, 0, o, j, h, hb => by
    simp at h
    subst h
    obtain ⟨tl, ht⟩ := masks_prefix r (acc ++ [orAll acc (edgesOf o')])
    have e : masks (o' :: r) acc = acc ++ [orAll acc (edgesOf o')] ++ tl := by simp [masks, ht]
    rw [e] at hb ⊢
    have : (acc ++ [orAll acc (edgesOf o')] ++ tl).getD (acc.length + 0) 0 = orAll acc (edgesOf o') := by simp [List.getD]
    rw [this] at hb
    obtain ⟨k, hk, hh⟩ := orAll_bit acc j _ hb
    refine ⟨k, hk, hh.imp id fun hh => ?_⟩
    by_cases hka : k < acc.length
    · have : (acc ++ [orAll acc (edgesOf o')] ++ tl).getD k 0 = acc.getD k 0 := by simp [List.getD, List.getElem?_append, hka, Nat.lt_succ_of_lt hka]
      rw [this]; exact hh
    · have : acc.getD k 0 = 0 := by simp [List.getD, List.getElem?_eq_none (Nat.le_of_not_lt hka)]
      rw [this] at hh
      simp at hh
  | o' :: r, acc, i + 1, o, j, h, hb => by
    have := masks_bit r (acc ++ [orAll acc (edgesOf o')]) i o j (by simpa using h) (by simp only [List.length_append, List.length_singleton]; rw [show acc.length + 1 + i = acc.length + (i + 1) by omega]; exact hb)
    exact this

def pairOk (gd : Nat → Option Nat) (i : Nat) (o : Oper) (e : Eff) : List (Oper × Eff × Nat) → Bool
  | [] => true
  | (o', e', m) :: r => (Nat.testBit m i || indep gd o e o' e') && pairOk gd i o e r

def pairsOk (gd : Nat → Option Nat) : Nat → List (Oper × Eff × Nat) → Bool
  | _, [] => true
  | i, (o, e, _) :: r => pairOk gd i o e r && pairsOk gd (i + 1) r

def edgesOk : Nat → List Oper → Bool
  | _, [] => true
  | i, o :: r => ((edgesOf o).all fun k => Nat.blt k i) && edgesOk (i + 1) r

def zip3 : List Oper → List Eff → List Nat → List (Oper × Eff × Nat)
  | o :: l, e :: es, m :: ms => (o, e, m) :: zip3 l es ms
  | _, _, _ => []

def regOk (gd : Nat → Option Nat) (l : List Oper) (es : List Eff) : Bool :=
  edgesOk 0 l && pairsOk gd 0 (zip3 l es (masks l []))

theorem edgesOk_ok : ∀ (l : List Oper) (i : Nat), edgesOk i l = true → ∀ j o, l[j]? = some o → ∀ k ∈ edgesOf o, k < i + j
  | [], _, _, j, o, h => by simp at h
  | o' :: r, i, hh, 0, o, h => by
    simp at h; subst h
    simp only [edgesOk, Bool.and_eq_true, List.all_eq_true] at hh
    intro k hk
    have := hh.1 k hk
    simpa using this
  | o' :: r, i, hh, j + 1, o, h => by
    simp only [edgesOk, Bool.and_eq_true] at hh
    intro k hk
    have := edgesOk_ok r (i + 1) hh.2 j o (by simpa using h) k hk
    omega

theorem pairOk_ok {gd : Nat → Option Nat} {i : Nat} {o : Oper} {e : Eff} : ∀ (r : List (Oper × Eff × Nat)), pairOk gd i o e r = true → ∀ (j : Nat) o' e' m, r[j]? = some (o', e', m) → Nat.testBit m i = true ∨ Indep gd o e o' e'
  | [], _, j, o', e', m, h => by simp at h
  | (a, b, c) :: r, hh, j, o', e', m, h => by
    simp only [pairOk, Bool.and_eq_true, Bool.or_eq_true] at hh
    cases j with
    | zero => simp at h; obtain ⟨rfl, rfl, rfl⟩ := h; exact hh.1.imp id indep_ok
    | succ j => exact pairOk_ok r hh.2 j o' e' m (by simpa using h)

theorem pairsOk_ok {gd : Nat → Option Nat} : ∀ (r : List (Oper × Eff × Nat)) (i : Nat), pairsOk gd i r = true → ∀ (x y : Nat) o e mo o' e' m, x < y → r[x]? = some (o, e, mo) → r[y]? = some (o', e', m) → Nat.testBit m (i + x) = true ∨ Indep gd o e o' e'
  | [], i, _, x, y, o, e, mo, o', e', m, _, h, _ => by simp at h
  | (a, b, c) :: r, i, hh, x, y, o, e, mo, o', e', m, hxy, hx, hy => by
    simp only [pairsOk, Bool.and_eq_true] at hh
    cases y with
    | zero => omega
    | succ y =>
      cases x with
      | zero =>
        simp at hx; obtain ⟨rfl, rfl, rfl⟩ := hx
        exact pairOk_ok r hh.1 y o' e' m (by simpa using hy)
      | succ x =>
        have := pairsOk_ok r (i + 1) hh.2 x y o e mo o' e' m (by omega) (by simpa using hx) (by simpa using hy)
        rw [show i + 1 + x = i + (x + 1) by omega] at this
        exact this

theorem zip3_get : ∀ (l : List Oper) (es : List Eff) (ms : List Nat) (i : Nat) o e m, l[i]? = some o → es[i]? = some e → ms[i]? = some m → (zip3 l es ms)[i]? = some (o, e, m)
  | o' :: l, e' :: es, m' :: ms, 0, o, e, m, h1, h2, h3 => by simp at h1 h2 h3; subst h1; subst h2; subst h3; simp [zip3]
  | o' :: l, e' :: es, m' :: ms, i + 1, o, e, m, h1, h2, h3 => by
    simp only [zip3, List.getElem?_cons_succ] at *
    exact zip3_get l es ms i o e m h1 h2 h3
  | [], _, _, i, o, e, m, h1, _, _ => by simp at h1
  | _ :: _, [], _, i, o, e, m, _, h2, _ => by simp at h2
  | _ :: _, _ :: _, [], i, o, e, m, _, _, h3 => by simp at h3

theorem masks_length : ∀ (l : List Oper) (acc : List Nat), (masks l acc).length = acc.length + l.length
  | [], acc => by simp [masks]
  | o :: r, acc => by simp [masks, masks_length r]; omega

end Sx
