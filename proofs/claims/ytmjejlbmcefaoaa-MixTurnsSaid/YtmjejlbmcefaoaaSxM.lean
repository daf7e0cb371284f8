/- The symbolic executor, part M: one operation of a region, its guard, what is assumed of its result; the relation of a symbolic state to a world. -/
import Derived.Test.YtmjejlbmcefaoaaSxL
namespace Sx
open Go Go.RowKit

def memB (id : Nat) : List Nat → Bool
  | [] => false
  | x :: r => bif Nat.beq id x then true else memB id r

theorem memB_iff {id : Nat} {l : List Nat} : memB id l = true ↔ id ∈ l := by
  induction l with
  | nil => simp [memB]
  | cons x r ih =>
    simp only [memB, List.mem_cons]
    cases h : Nat.beq id x with
    | true => simp only [cond_true, true_iff]; left; exact Nat.beq_eq.mp h
    | false =>
      simp only [cond_false, ih]
      constructor
      · exact .inr
      · rintro (rfl | h')
        · simp at h
        · exact h'

def reach (M : Mem) : Nat → List Nat → List Nat
  | 0, l => l
  | n + 1, l => l ++ reach M n (l.flatMap fun id => match M id with | some b => b.k.ids | none => [])

def opIds (t : Tms) (l : List Operand) : List Nat :=
  l.flatMap fun x => match ev t x with | some v => v.ids | none => []

def restrict (M : Mem) (acc : List Nat) : Mem := fun id => bif memB id acc then M id else none

structure Eff where
  v : Option V
  upd : List (Nat × Option Blk)
  obs : List Bool
  acc : List Nat

def inRb (base id : Nat) : Bool := Nat.ble base id && Nat.blt id (base + 4)

theorem inRb_iff {base id : Nat} : inRb base id = true ↔ inR base id := by simp [inRb, inR]

def okId (acc : List Nat) (base id : Nat) : Bool := memB id acc || inRb base id

def chkOut (acc : List Nat) (base : Nat) (o : Out) : Bool :=
  (match o.v with | some v => v.ids.all (okId acc base) | none => true) &&
  o.upd.all fun p => okId acc base p.1 && (match p.2 with | some b => b.k.ids.all (okId acc base) | none => true)

def lookAs : List (Nat × Bool) → Nat → Option Bool
  | [], _ => none
  | (x, b) :: r, d => bif Nat.beq x d then some b else lookAs r d

def same2 (a b : Bool) : Bool := match b with | true => a | false => !a

def assumeV (as : List (Nat × Bool)) (dst : Option Nat) (o : Out) : Option V × List Bool :=
  match dst with
  | some d => match lookAs as d with
    | some bv => match o.v with
      | some (.w (.c (.v (.bool b)))) => (some (V.bool bv), o.obs ++ [same2 b bv])
      | _ => (o.v, o.obs)
    | none => (o.v, o.obs)
  | none => (o.v, o.obs)

def goOp (P : Program) (tab : Tab) (as : List (Nat × Bool)) (base : Nat) (o : Oper) (t : Tms) (M : Mem) : Option Eff :=
  match core P tab base o t (restrict M (reach M 3 (opIds t o.op.operands.toList))) with
  | some out =>
    bif chkOut (reach M 3 (opIds t o.op.operands.toList)) base out then
      some ⟨(assumeV as o.dst out).1, out.upd, (assumeV as o.dst out).2, reach M 3 (opIds t o.op.operands.toList)⟩
    else none
  | none => none

/-- one operation; gd: the temporary that its guard looks at. -/
def evalOp (P : Program) (tab : Tab) (as : List (Nat × Bool)) (base : Nat) (gd : Nat → Option Nat) (o : Oper) (t : Tms) (M : Mem) : Option Eff :=
  match o.guard with
  | none => goOp P tab as base o t M
  | some (j, want) =>
    match gd j with
    | some d => match t d with
      | some (.w (.c (.v (.bool b)))) => bif same2 b want then goOp P tab as base o t M else some ⟨none, [], [], []⟩
      | _ => none
    | none => none

/-- what an operation looks at. -/
def looks (gd : Nat → Option Nat) (o : Oper) : List Nat :=
  (o.op.operands.toList.filterMap fun | .tmp t => some t | _ => none) ++
  (match o.guard with | some (j, _) => (gd j).toList | none => [])

theorem Env.same.trans {a b c : Env} {i : Nat} (h : a.same b i) (k : b.same c i) : a.same c i := ⟨k.b.trans h.b, k.o.trans h.o, k.val.trans h.val⟩

structure Sim (P : Program) (I : Nat × Env) (F : Nat → Prop) (w0 : World) (U : Nat → Prop) (ρ : Env) (t : Tms) (M : Mem) (n : Nat) (a : Act) (w : World) : Prop where
  tm : ∀ x v, t x = some v → ∃ y, a.tmps[x]? = some y ∧ RV ρ v y
  sz : a.tmps.size = n
  df : a.defers = []
  mem : MemOk P ρ M w
  lo : ∀ id blk, M id = some blk → live ρ id blk → w0.heap.size ≤ ρ.b id ∨ F (ρ.b id)
  fr : Fr F w0 w
  ut : ∀ x v, t x = some v → ∀ id ∈ v.ids, U id
  um : ∀ id blk, M id = some blk → U id
  uk : ∀ id blk, M id = some blk → ∀ j ∈ blk.k.ids, U j
  ini : ∀ i, i < I.1 → I.2.same ρ i
  ui : ∀ i, i < I.1 → U i

theorem ev_ok {P : Program} {I : Nat × Env} {F : Nat → Prop} {w0 w : World} {U : Nat → Prop} {ρ : Env} {t : Tms} {M : Mem} {n : Nat} {a : Act} (h : Sim P I F w0 U ρ t M n a w) : ∀ x v, ev t x = some v → RV ρ v (a.eval x) := by
  intro x v hx
  cases x with
  | tmp x =>
    obtain ⟨y, hy, hr⟩ := h.tm x v hx
    simpa [Act.eval, hy] using hr
  | const c => simp only [ev, Option.some.injEq] at hx; subst hx; exact litV_ok ρ c
  | global g => simp [ev] at hx
  | func f => simp only [ev, Option.some.injEq] at hx; subst hx; rfl

theorem ev_ids {P : Program} {I : Nat × Env} {F : Nat → Prop} {w0 w : World} {U : Nat → Prop} {ρ : Env} {t : Tms} {M : Mem} {n : Nat} {a : Act} (h : Sim P I F w0 U ρ t M n a w) : ∀ x v, ev t x = some v → ∀ id ∈ v.ids, U id := by
  intro x v hx
  cases x with
  | tmp x => exact h.ut x v hx
  | const c => simp only [ev, Option.some.injEq] at hx; subst hx; rw [litV_ids]; simp
  | global g => simp [ev] at hx
  | func f => simp only [ev, Option.some.injEq] at hx; subst hx; simp [V.ids, W.ids, C.ids]

theorem reach_used {M : Mem} {U : Nat → Prop} (uk : ∀ id blk, M id = some blk → ∀ j ∈ blk.k.ids, U j) : ∀ n l, (∀ id ∈ l, U id) → ∀ id ∈ reach M n l, U id
  | 0, l, h => h
  | n + 1, l, h => by
    intro id hid
    simp only [reach, List.mem_append] at hid
    rcases hid with hid | hid
    · exact h id hid
    · refine reach_used uk n _ ?_ id hid
      intro j hj
      simp only [List.mem_flatMap] at hj
      obtain ⟨x, hx, hj⟩ := hj
      cases hm : M x with
      | none => simp [hm] at hj
      | some b => simp [hm] at hj; exact uk x b hm j hj

theorem reach_congr {M M1 : Mem} : ∀ n l, (∀ id ∈ reach M n l, M1 id = M id) → reach M1 n l = reach M n l
  | 0, l, _ => rfl
  | n + 1, l, h => by
    simp only [reach]
    have e : (l.flatMap fun id => match M1 id with | some b => b.k.ids | none => []) = (l.flatMap fun id => match M id with | some b => b.k.ids | none => []) := by
      have hl : ∀ id ∈ l, M1 id = M id := fun id hid => h id (by simp [reach, hid])
      clear h
      induction l with
      | nil => rfl
      | cons x r ih =>
        simp only [List.flatMap_cons]
        rw [hl x (by simp), ih fun id hid => hl id (by simp [hid])]
    rw [e, reach_congr n _ fun id hid => h id (by simp [reach, hid])]

theorem same2_iff {a b : Bool} : same2 a b = true ↔ a = b := by cases a <;> cases b <;> simp [same2]

theorem assumeV_ok {as : List (Nat × Bool)} {dst : Option Nat} {o : Out} (h : ∀ b ∈ (assumeV as dst o).2, b = true) : (∀ b ∈ o.obs, b = true) ∧ (assumeV as dst o).1 = o.v := by
  unfold assumeV at *
  split at h
  · split at h
    · split at h
      · rename_i b hb
        have := h _ (List.mem_append.2 (.inr (List.mem_singleton.2 rfl)))
        have := same2_iff.1 this
        subst this
        refine ⟨fun b hb => h b (List.mem_append.2 (.inl hb)), ?_⟩
        simp_all
      · exact ⟨h, by simp_all⟩
    · exact ⟨h, by simp_all⟩
  · exact ⟨h, by simp_all⟩

theorem putM_get (M : Mem) : ∀ (u : List (Nat × Option Blk)) (x : Nat) (b : Blk), putM M u x = some b → (x, some b) ∈ u ∨ M x = some b
  | [], x, b, h => .inr h
  | (id, v) :: r, x, b, h => by
    simp only [putM] at h
    rcases putM_get _ r x b h with h' | h'
    · exact .inl (List.mem_cons_of_mem _ h')
    · cases hb : Nat.beq x id with
      | true =>
        simp only [hb, cond_true] at h'
        have := Nat.beq_eq.mp hb
        subst this
        subst h'
        exact .inl (List.mem_cons_self ..)
      | false => simp only [hb, cond_false] at h'; exact .inr h'

/-- an operation's soundness, with its guard. -/
theorem evalOp_ok {P : Program} {tab : Tab} (hT : TabOk P tab) {as : List (Nat × Bool)} {base : Nat} {gd : Nat → Option Nat} {o : Oper} {t : Tms} {M : Mem} {e : Eff} {I : Nat × Env} {F : Nat → Prop} {w0 w : World} {U : Nat → Prop} {ρ : Env} {n : Nat} {a : Act} {ops : Array Oper}
    (h : evalOp P tab as base gd o t M = some e) (ho : ∀ b ∈ e.obs, b = true) (hs : Sim P I F w0 U ρ t M n a w) (hU : ∀ id, U id → ¬ inR base id) (hgd : ∀ j, gd j = (ops[j]?).bind (·.dst)) (hd : ∀ d, o.dst = some d → d < n)
    {K : Act → World → Prop} {Q : Exit → Act → World → Prop}
    (hK : ∀ a' w' ρ', Sim P I F w0 (fun id => U id ∨ inR base id) ρ' (putT t o.dst e.v) (putM M e.upd) n a' w' → K a' w') :
    if Region.wanted o (yielded ops a.tmps) then o.wp P a w K Q else K (a.put o.dst undef) w := by
  have hput : ∀ (y : Value) (x : Nat), (a.put o.dst y).tmps[x]? = if o.dst = some x then (if x < n then some y else none) else a.tmps[x]? := by
    intro y x
    unfold Act.put
    cases hdst : o.dst with
    | none => simp
    | some d =>
      simp only [Array.getElem?_setIfInBounds, Option.some.injEq, hs.sz]
      by_cases hdx : d = x
      · subst hdx; rfl
      · simp [hdx]
  have hputT : ∀ (v : Option V) (x : Nat), putT t o.dst v x = if o.dst = some x then v else t x := by
    intro v x
    unfold putT
    cases hdst : o.dst with
    | none => simp
    | some d =>
      simp only [Option.some.injEq]
      by_cases hx : x = d
      · subst hx; simp
      · have : Nat.beq x d = false := by rw [← Bool.not_eq_true, Nat.beq_eq]; exact hx
        simp [this, Ne.symm hx]
  have hsz : ∀ y, (a.put o.dst y).tmps.size = n := by
    intro y; unfold Act.put; cases o.dst <;> simp [hs.sz]
  have hdf : ∀ y, (a.put o.dst y).defers = [] := by
    intro y; unfold Act.put; cases o.dst <;> simp [hs.df]
  -- where it is carried out
  have main : goOp P tab as base o t M = some e → o.wp P a w K Q := by
    intro h
    unfold goOp at h
    split at h
    · rename_i out hcore
      cases hchk : chkOut (reach M 3 (opIds t o.op.operands.toList)) base out with
      | false => simp [hchk] at h
      | true =>
        simp only [hchk, cond_true, Option.some.injEq] at h
        subst h
        obtain ⟨hobs, hv⟩ := assumeV_ok ho
        have hacc : ∀ id ∈ reach M 3 (opIds t o.op.operands.toList), U id := by
          refine reach_used hs.uk 3 _ ?_
          intro id hid
          simp only [opIds, List.mem_flatMap] at hid
          obtain ⟨x, _, hid⟩ := hid
          cases hx : ev t x with
          | none => simp [hx] at hid
          | some v => simp [hx] at hid; exact ev_ids hs x v hx id hid
        have hF : Fresh M base := ⟨fun id blk hb => hU id (hs.um id blk hb), fun id blk hb j hj => hU j (hs.uk id blk hb j hj)⟩
        have hMs : ∀ id b, restrict M (reach M 3 (opIds t o.op.operands.toList)) id = some b → M id = some b := by
          intro id b hb
          unfold restrict at hb
          cases hm : memB id (reach M 3 (opIds t o.op.operands.toList)) with
          | true => simpa [hm] using hb
          | false => simp [hm] at hb
        refine core_ok hT hcore hobs hMs hs.mem hF (ev_ok hs) (fun x v hx id hid => hU id (ev_ids hs x v hx id hid)) K Q ?_
        rintro y w' ⟨ρ', hg⟩
        refine hK _ w' ρ' ?_
        rw [hv]
        have hokid : ∀ id, okId (reach M 3 (opIds t o.op.operands.toList)) base id = true → U id ∨ inR base id := by
          intro id hid
          simp only [okId, Bool.or_eq_true] at hid
          rcases hid with hid | hid
          · exact .inl (hacc id (memB_iff.1 hid))
          · exact .inr (inRb_iff.1 hid)
        simp only [chkOut, Bool.and_eq_true, List.all_eq_true] at hchk
        obtain ⟨hc1, hc2⟩ := hchk
        have hget : ∀ id b, putM M out.upd id = some b → (id, some b) ∈ out.upd ∨ M id = some b := fun id b h => putM_get M out.upd id b h
        refine ⟨?_, hsz y, hdf y, hg.mem, ?_, ?_, ?_, ?_, ?_, fun i hi => (hs.ini i hi).trans (hg.env i (hU i (hs.ui i hi))), fun i hi => .inl (hs.ui i hi)⟩
        · intro x v hx
          rw [hputT] at hx
          rw [hput]
          by_cases hxd : o.dst = some x
          · simp only [hxd, if_true] at hx ⊢
            rw [if_pos (hd x hxd)]
            exact ⟨y, rfl, hg.val v hx⟩
          · simp only [hxd, if_false] at hx ⊢
            obtain ⟨y', hy', hr⟩ := hs.tm x v hx
            exact ⟨y', hy', hr.env fun id hid => hg.env id (hU id (hs.ut x v hx id hid))⟩
        · intro id blk hb hl
          rcases hg.lo id blk hb hl with h | ⟨j, bj, hj, hlj, e⟩
          · exact .inl (Nat.le_trans hs.fr.size h)
          · rw [← e]; exact hs.lo j bj hj hlj
        · refine ⟨hg.fr.os.trans hs.fr.os, hg.fr.tape.trans hs.fr.tape, hg.fr.output.trans hs.fr.output, Nat.le_trans hs.fr.size hg.fr.size, fun b hb hF => ?_⟩
          refine (hg.fr.block b (Nat.lt_of_lt_of_le hb hs.fr.size) ?_).trans (hs.fr.block b hb hF)
          rintro ⟨id, blk, hid, hl, rfl⟩
          rcases hs.lo id blk hid hl with h | h
          · omega
          · exact hF h
        · intro x v hx
          rw [hputT] at hx
          by_cases hxd : o.dst = some x
          · simp only [hxd, if_true] at hx
            rw [hx] at hc1
            intro id hid
            exact hokid id (by simpa using (List.all_eq_true.1 hc1) id hid)
          · simp only [hxd, if_false] at hx
            exact fun id hid => .inl (hs.ut x v hx id hid)
        · intro id blk hb
          rcases hget id blk hb with h | h
          · exact hokid id (hc2 _ h).1
          · exact .inl (hs.um id blk h)
        · intro id blk hb j hj
          rcases hget id blk hb with h | h
          · have := (hc2 _ h).2
            simp only at this
            exact hokid j (List.all_eq_true.1 this j hj)
          · exact .inl (hs.uk id blk h j hj)
    · cases h
  unfold evalOp at h
  split at h
  · rename_i hgu
    rw [if_pos (by simp [Region.wanted, hgu])]
    exact main h
  · rename_i j want hgu
    split at h
    · rename_i d hgj
      split at h
      · rename_i b htd
        obtain ⟨y, hy, hr⟩ := hs.tm d _ htd
        simp only [RV, RW, RC] at hr
        subst hr
        have hyl : yielded ops a.tmps j = some b := by
          unfold yielded
          rw [← hgd j, hgj]
          simp [hy]
        have hw : Region.wanted o (yielded ops a.tmps) = (b == want) := by
          simp [Region.wanted, hgu, hyl]
        cases hsame : same2 b want with
        | true =>
          simp only [hsame, cond_true] at h
          have := same2_iff.1 hsame
          subst this
          rw [hw]
          simp only [beq_self_eq_true, if_true]
          exact main h
        | false =>
          simp only [hsame, cond_false, Option.some.injEq] at h
          subst h
          have hne : (b == want) = false := by
            cases b <;> cases want <;> simp [same2] at hsame <;> rfl
          rw [hw, hne]
          simp only [Bool.false_eq_true, if_false]
          refine hK _ w ρ ⟨?_, hsz _, hdf _, hs.mem, hs.lo, hs.fr, ?_, fun id blk hb => .inl (hs.um id blk hb), fun id blk hb j hj => .inl (hs.uk id blk hb j hj), hs.ini, fun i hi => .inl (hs.ui i hi)⟩
          · intro x v hx
            rw [hputT] at hx
            rw [hput]
            by_cases hxd : o.dst = some x
            · simp [hxd] at hx
            · simp only [hxd, if_false] at hx ⊢
              exact hs.tm x v hx
          · intro x v hx
            rw [hputT] at hx
            by_cases hxd : o.dst = some x
            · simp [hxd] at hx
            · simp only [hxd, if_false] at hx
              exact fun id hid => .inl (hs.ut x v hx id hid)
      · cases h
    · cases h

end Sx
