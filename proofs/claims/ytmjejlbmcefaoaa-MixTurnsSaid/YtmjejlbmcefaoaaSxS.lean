/- The symbolic executor, part S: cuts, loops' heads, a function's end, contracts. -/
import Derived.Test.YtmjejlbmcefaoaaSxR
namespace Sx
open Go Go.RowKit

def tOf : List Nat → List V → Tms
  | x :: xs, v :: vs => fun y => bif Nat.beq y x then some v else tOf xs vs y
  | _, _ => fun _ => none

def mOf : List Blk → Mem
  | [] => fun _ => none
  | b :: r => fun id => match id with | 0 => some b | i + 1 => mOf r i

theorem mOf_get : ∀ (l : List Blk) (i : Nat), mOf l i = l[i]?
  | [], i => by simp [mOf]
  | b :: r, 0 => by simp [mOf]
  | b :: r, i + 1 => by simp [mOf, mOf_get r i]

def projT (σ : List Nat) (t : Tms) : List Nat → Option (List V)
  | [] => some []
  | x :: r =>
    match t x with
    | some v => match v.ren σ with
      | some v' => match projT σ t r with
        | some l => some (v' :: l)
        | none => none
      | none => none
    | none => none

def projM (σ : List Nat) (m : Mem) : List (Nat × Option IntKind) → Option (List Blk)
  | [] => some []
  | (id, v) :: r =>
    match m id with
    | some b => match b.ren σ with
      | some b' => match viewK v b'.k with
        | some k => match projM σ m r with
          | some l => some (⟨b'.ty, b'.mode, k⟩ :: l)
          | none => none
        | none => none
      | none => none
    | none => none

def nodupB : List Nat → Bool
  | [] => true
  | x :: r => !(memB x r) && nodupB r

theorem nodupB_ok : ∀ {l : List Nat}, nodupB l = true → l.Nodup
  | [], _ => List.nodup_nil
  | x :: r, h => by
    simp only [nodupB, Bool.and_eq_true, Bool.not_eq_true'] at h
    refine List.nodup_cons.2 ⟨fun hm => ?_, nodupB_ok h.2⟩
    rw [memB_iff.2 hm] at h
    cases h.1

/-- σ begins with 0, 1, .. m0 - 1. -/
def startsB : Nat → Nat → List Nat → Bool
  | _, 0, _ => true
  | i, n + 1, x :: r => Nat.beq x i && startsB (i + 1) n r
  | _, _ + 1, [] => false

theorem startsB_ok : ∀ (n i : Nat) (l : List Nat), startsB i n l = true → ∀ j, j < n → l[j]? = some (i + j)
  | 0, i, l, _, j, hj => by omega
  | n + 1, i, [], h, j, hj => by simp [startsB] at h
  | n + 1, i, x :: r, h, j, hj => by
    simp only [startsB, Bool.and_eq_true] at h
    cases j with
    | zero => have := Nat.beq_eq.mp h.1; subst this; simp
    | succ j =>
      have := startsB_ok n (i + 1) r h.2 j (by omega)
      simp only [List.getElem?_cons_succ, this]
      congr 1
      omega

def sigOk (m0 : Nat) (σ : List Nat) : Bool := nodupB σ && startsB 0 m0 σ

theorem tOf_get : ∀ (xs : List Nat) (vs : List V) (x : Nat) (v : V), tOf xs vs x = some v → ∃ i : Nat, xs[i]? = some x ∧ vs[i]? = some v
  | [], vs, x, v, h => by simp [tOf] at h
  | _ :: _, [], x, v, h => by simp [tOf] at h
  | y :: xs, u :: vs, x, v, h => by
    simp only [tOf] at h
    cases hb : Nat.beq x y with
    | true =>
      simp [hb] at h
      subst h
      exact ⟨0, by have := Nat.beq_eq.mp hb; simp [this], by simp⟩
    | false =>
      simp only [hb, cond_false] at h
      obtain ⟨i, h1, h2⟩ := tOf_get xs vs x v h
      exact ⟨i + 1, by simpa using h1, by simpa using h2⟩

theorem projT_get {σ : List Nat} {t : Tms} : ∀ {xs : List Nat} {vs : List V}, projT σ t xs = some vs → ∀ (i : Nat) x v, xs[i]? = some x → vs[i]? = some v → ∃ u, t x = some u ∧ u.ren σ = some v
  | [], vs, h, i, x, v, hx, _ => by simp at hx
  | y :: xs, vs, h, i, x, v, hx, hv => by
    simp only [projT] at h
    cases ht : t y with
    | none => simp [ht] at h
    | some u =>
      simp only [ht] at h
      cases hr : u.ren σ with
      | none => simp [hr] at h
      | some u' =>
        simp only [hr] at h
        cases hp : projT σ t xs with
        | none => simp [hp] at h
        | some l =>
          simp [hp] at h
          subst h
          cases i with
          | zero => simp at hx hv; subst hx; subst hv; exact ⟨u, ht, hr⟩
          | succ i => exact projT_get hp i x v (by simpa using hx) (by simpa using hv)

theorem projM_get {σ : List Nat} {m : Mem} : ∀ {ms : List (Nat × Option IntKind)} {bs : List Blk}, projM σ m ms = some bs → bs.length = ms.length ∧ ∀ (i : Nat) b, bs[i]? = some b →
    ∃ p b0 b1, ms[i]? = some p ∧ m p.1 = some b0 ∧ b0.ren σ = some b1 ∧ viewK p.2 b1.k = some b.k ∧ b.ty = b1.ty ∧ b.mode = b1.mode
  | [], bs, h => by simp [projM] at h; subst h; simp
  | (id, v) :: r, bs, h => by
    simp only [projM] at h
    cases hm : m id with
    | none => simp [hm] at h
    | some b0 =>
      simp only [hm] at h
      cases hr : b0.ren σ with
      | none => simp [hr] at h
      | some b1 =>
        simp only [hr] at h
        cases hv : viewK v b1.k with
        | none => simp [hv] at h
        | some k =>
          simp only [hv] at h
          cases hp : projM σ m r with
          | none => simp [hp] at h
          | some l =>
            simp [hp] at h
            subst h
            obtain ⟨h1, h2⟩ := projM_get hp
            refine ⟨by simp [h1], fun i b hb => ?_⟩
            cases i with
            | zero => simp at hb; subst hb; exact ⟨(id, v), b0, b1, by simp, hm, hr, hv, rfl, rfl⟩
            | succ i => exact h2 i b (by simpa using hb)

/-- what a block is, seen otherwise. -/
theorem BlkRel.view {P : Program} {ρ : Env} {id : Nat} {b b' : Blk} {w : World} (h : BlkRel P ρ id b w) (hty : b'.ty = b.ty) (hm : b'.mode = b.mode) (hl : b'.k.len = b.k.len) (hk : ∀ read, b.k.Is ρ read → b'.k.Is ρ read) : BlkRel P ρ id b' w := by
  unfold BlkRel at *
  rw [hm]
  split at h
  · exact ⟨hk _ h.1, by rw [hl]; exact h.2⟩
  · obtain ⟨arr, h1, h2⟩ := h; exact ⟨arr, by rw [hty]; exact h1, hk _ h2⟩
  · obtain ⟨h0, h1, xs, h2, h3, h4⟩ := h; exact ⟨h0, h1, xs, by rw [hty]; exact h2, h3.trans hl.symm, hk _ h4⟩

theorem nodup_inj : ∀ {l : List Nat}, l.Nodup → ∀ (i j x : Nat), l[i]? = some x → l[j]? = some x → i = j
  | [], _, i, j, x, h, _ => by simp at h
  | y :: r, h, i, j, x, hi, hj => by
    obtain ⟨h1, h2⟩ := List.nodup_cons.1 h
    cases i with
    | zero =>
      cases j with
      | zero => rfl
      | succ j => simp at hi hj; subst hi; exact absurd (List.mem_of_getElem? hj) h1
    | succ i =>
      cases j with
      | zero => simp at hi hj; subst hj; exact absurd (List.mem_of_getElem? hi) h1
      | succ j => rw [nodup_inj h2 i j x (by simpa using hi) (by simpa using hj)]

theorem Sim.proj {P : Program} {I : Nat × Env} {F : Nat → Prop} {w0 w : World} {U : Nat → Prop} {ρ : Env} {t : Tms} {M : Mem} {n : Nat} {a : Act} (h : Sim P I F w0 U ρ t M n a w) {ts : List Nat} {ms : List (Nat × Option IntKind)} {vs : List V} {bs : List Blk}
    (ht : projT (ms.map (·.1)) t ts = some vs) (hm : projM (ms.map (·.1)) M ms = some bs) (hσ : sigOk I.1 (ms.map (·.1)) = true) :
    Sim P I F w0 (fun id => id < ms.length) (ρ.pull (ms.map (·.1))) (tOf ts vs) (mOf bs) n a w := by
  simp only [sigOk, Bool.and_eq_true] at hσ
  have hnd := nodupB_ok hσ.1
  have hst := startsB_ok _ _ _ hσ.2
  obtain ⟨hlen, hget⟩ := projM_get hm
  have hlσ : (ms.map (·.1)).length = ms.length := by simp
  have hblk : ∀ id b, mOf bs id = some b → ∃ i0 b0, (ms.map (·.1))[id]? = some i0 ∧ M i0 = some b0 ∧ BlkRel P (ρ.pull (ms.map (·.1))) id b w ∧ b.mode = b0.mode ∧ b.k.len = b0.k.len ∧ (∀ j ∈ b.k.ids, j < (ms.map (·.1)).length) := by
    intro id b hb
    rw [mOf_get] at hb
    obtain ⟨p, b0, b1, hp, hM, hr, hv, hty, hmo⟩ := hget id b hb
    have hid : (ms.map (·.1))[id]? = some p.1 := by simp [hp]
    obtain ⟨h1, h2, h3⟩ := Blk.ren_ok (P := P) (ρ := ρ) (w := w) hr hid
    obtain ⟨h4, h5, h6⟩ := viewK_ok (ρ := ρ.pull (ms.map (·.1))) hv (fun _ => none)
    refine ⟨p.1, b0, hid, hM, ((h1.2 (h.mem.rel p.1 b0 hM)).view hty hmo h5 fun read => (viewK_ok hv read).1), hmo.trans h2, h5.trans h3, fun j hj => Blk.ren_ids hr j (h6 j hj)⟩
  revert hlσ hblk hst hnd ht hm
  generalize ms.map (·.1) = σ at *
  intro ht hm hnd hst hlσ hblk
  refine ⟨?_, h.sz, h.df, ⟨?_, ?_⟩, ?_, h.fr, ?_, ?_, ?_, ?_, ?_⟩
  · intro x v hx
    obtain ⟨i, h1, h2⟩ := tOf_get ts vs x v hx
    obtain ⟨u, hu, hr⟩ := projT_get ht i x v h1 h2
    obtain ⟨y, hy, hv⟩ := h.tm x u hu
    exact ⟨y, hy, (V.ren_ok hr y).2 hv⟩
  · intro id b hb
    obtain ⟨_, _, _, _, h, _⟩ := hblk id b hb
    exact h
  · intro i j bi bj hi hj hl hl' hij
    obtain ⟨i0, bi0, h1, h2, _, h3, h4, _⟩ := hblk i bi hi
    obtain ⟨j0, bj0, k1, k2, _, k3, k4, _⟩ := hblk j bj hj
    have hne : i0 ≠ j0 := by
      intro e
      subst e
      exact hij (nodup_inj hnd i j i0 h1 k1)
    have := h.mem.inj i0 j0 bi0 bj0 h2 k2 ((live_pull h1 h3).1 hl) (hl'.imp (live_pull k1 k3).1 fun ⟨ha, hb⟩ => ⟨(ro_mode k3).1 ha, by rw [← k4]; exact hb⟩) hne
    simpa [Env.pull, h1, k1] using this
  · intro id b hb hl
    obtain ⟨i0, b0, h1, h2, _, h3, _⟩ := hblk id b hb
    have := h.lo i0 b0 h2 ((live_pull h1 h3).1 hl)
    simpa [Env.pull, h1] using this
  · intro x v hx id hid
    obtain ⟨i, h1, h2⟩ := tOf_get ts vs x v hx
    obtain ⟨u, hu, hr⟩ := projT_get ht i x v h1 h2
    have := V.ren_ids hr id hid
    omega
  · intro id b hb
    rw [mOf_get] at hb
    have := (List.getElem?_eq_some_iff.1 hb).1
    omega
  · intro id b hb j hj
    obtain ⟨_, _, _, _, _, _, _, h⟩ := hblk id b hb
    have := h j hj
    omega
  · intro i hi
    have := hst i hi
    have := h.ini i hi
    exact ⟨by simp [Env.pull, hst i hi, this.b], by simp [Env.pull, hst i hi, this.o], by simp [Env.pull, hst i hi, this.val]⟩
  · intro i hi
    have := (List.getElem?_eq_some_iff.1 (hst i hi)).1
    omega

/-- a piece of the walk: from a state to the next cut. -/
def seg (P : Program) (tab : Tab) (as : List (Nat × Bool)) (n f heads : Nat) (ts : List Nat) (ms : List (Nat × Option IntKind)) (c : Cfg) : Option (List Item × List V × List Blk × List Bool) :=
  match run P tab as n f heads c with
  | some (c', o) => match projT (ms.map (·.1)) c'.t ts, projM (ms.map (·.1)) c'.m ms with
    | some vs, some bs => some (c'.k, vs, bs, o)
    | _, _ => none
  | none => none

/-- a state in its plain form. -/
def cfg (k : List Item) (ts : List Nat) (vs : List V) (bs : List Blk) : Cfg := ⟨k, tOf ts vs, mOf bs, bs.length⟩

theorem G.seg {X : Ctx} (hX : CtxOk X) {c : Cfg} (as : List (Nat × Bool)) (f heads : Nat) (ts : List Nat) (ms : List (Nat × Option IntKind)) {k : List Item} {vs : List V} {bs : List Blk} {o : List Bool}
    (h : seg X.P X.tab as X.fn.ntmps f heads ts ms c = some (k, vs, bs, o)) (hσ : sigOk X.I.1 (ms.map (·.1)) = true) (ho : ∀ b ∈ o, b = true) (hg : G X (cfg k ts vs bs)) : G X c := by
  unfold Sx.seg at h
  split at h
  · rename_i c' o' hrun
    split at h
    · rename_i vs' bs' hvs hbs
      simp only [Option.some.injEq, Prod.mk.injEq] at h
      obtain ⟨rfl, rfl, rfl, rfl⟩ := h
      refine run_ok hX f heads c c' o' hrun ho ?_
      intro ρ a w hs
      have := hs.proj hvs hbs hσ
      refine hg (ρ.pull (ms.map (·.1))) a w ?_
      have hl : bs'.length = ms.length := (projM_get hbs).1
      simpa [cfg, hl] using this
    · cases h
  · cases h

/-- What a call leaves: its result, the blocks that it was handed, new blocks. -/
structure Res where
  v : V
  upd : List (Nat × Blk)
  new : List Blk

def applyU : List Blk → List (Nat × Blk) → List Blk
  | l, [] => l
  | l, (i, b) :: r => applyU (l.set i b) r

def Post (P : Program) (ρ : Env) (ms : List Blk) (r : Res) (w : World) : Ending → World → Prop := fun e w' =>
  ∃ y ρ', e = .returned y ∧ RV ρ' r.v y ∧ (∀ i, i < ms.length → ρ.same ρ' i) ∧ MemOk P ρ' (mOf (applyU ms r.upd ++ r.new)) w' ∧
    Fr (fun b => ∃ id blk, mOf ms id = some blk ∧ live ρ id blk ∧ ρ.b id = b) w w' ∧
    (∀ i b, r.new[i]? = some b → ¬ b.ro ∧ (live ρ' (ms.length + i) b → w.heap.size ≤ ρ'.b (ms.length + i)))

/-- A function's contract at symbolic arguments. -/
def Spec (P : Program) (f : FuncId) (args : List W) (ms : List Blk) (r : Res) : Prop :=
  ∀ ρ vs w, RL (RW ρ) args vs → MemOk P ρ (mOf ms) w → Calls P f vs.toArray w (Post P ρ ms r w)

def resEv (P : Program) (c : Cfg) : ResultVar → Option (W × List Bool)
  | .tmp x => match c.t x with | some (.w w) => some (w, []) | _ => none
  | .cell a T => match c.t a with
    | some (.w x) => match loadEv P c.m T x with
      | some ⟨some (.w w), _, o⟩ => some (w, o)
      | _ => none
    | _ => none

def resEvs (P : Program) (c : Cfg) : List ResultVar → Option (List W × List Bool)
  | [] => some ([], [])
  | x :: r => match resEv P c x with
    | some (w, o) => match resEvs P c r with
      | some (l, o') => some (w :: l, o ++ o')
      | none => none
    | none => none

def retV : List W → V
  | [x] => .w x
  | l => .tup l

def atEnd : List Item → Bool
  | [] => true
  | .code .ret :: _ => true
  | _ => false

/-- the function's end: result, blocks. -/
def finish (P : Program) (rs : List ResultVar) (ms : List (Nat × Option IntKind)) (c : Cfg) : Option (V × List Blk × List Bool) :=
  bif atEnd c.k then
    match resEvs P c rs with
    | some (ws, o) => match (retV ws).ren (ms.map (·.1)), projM (ms.map (·.1)) c.m ms with
      | some v, some bs => some (v, bs, o)
      | _, _ => none
    | none => none
  else none

theorem resEv_ok {P : Program} {I : Nat × Env} {F : Nat → Prop} {w0 w : World} {U : Nat → Prop} {ρ : Env} {c : Cfg} {n : Nat} {a : Act} (h : Sim P I F w0 U ρ c.t c.m n a w) {x : ResultVar} {v : W} {o : List Bool}
    (he : resEv P c x = some (v, o)) (ho : ∀ b ∈ o, b = true) :
    ∃ y, RW ρ v y ∧ (match x with | .tmp t => (pure (a.tmps.getD t undef) : Sem Value) | .cell p t => (do loadVar t (← asAddr (a.tmps.getD p undef)))).run P w = .ok y w := by
  unfold resEv at he
  split at he
  · rename_i x
    split at he
    · rename_i v' hx
      simp only [Option.some.injEq, Prod.mk.injEq] at he
      obtain ⟨rfl, rfl⟩ := he
      obtain ⟨y, hy, hr⟩ := h.tm x _ hx
      exact ⟨y, hr, by simp [hy]⟩
    · cases he
  · rename_i p T
    split at he
    · rename_i x hx
      split at he
      · rename_i v' u o' hl
        simp only [Option.some.injEq, Prod.mk.injEq] at he
        obtain ⟨rfl, rfl⟩ := he
        obtain ⟨y, hy, hr⟩ := h.tm p _ hx
        obtain ⟨v2, r, he2, hr2, hrun⟩ := loadEv_ok hl ho (fun _ _ h => h) h.mem hr
        simp only [Out.mk.injEq, Option.some.injEq] at he2
        obtain ⟨rfl, _⟩ := he2
        refine ⟨r, hr2, ?_⟩
        have hp : ∃ id off, wPlace x = some (id, off) := by
          unfold loadEv at hl
          cases hw : wPlace x with
          | none => simp [hw] at hl
          | some q => exact ⟨q.1, q.2, rfl⟩
        obtain ⟨id, off, hp⟩ := hp
        have hyy := wPlace_ok hp hr
        subst hyy
        simp only [Instr.loadAt, Instr.sureAddr, Sem.run_bind, Sem.run_pure, Result.andThen_ok] at hrun
        simp [hy, asAddr, hrun]
      · cases he
    · cases he

theorem resEvs_ok {P : Program} {I : Nat × Env} {F : Nat → Prop} {w0 w : World} {U : Nat → Prop} {ρ : Env} {c : Cfg} {n : Nat} {a : Act} (h : Sim P I F w0 U ρ c.t c.m n a w) : ∀ {xs : List ResultVar} {vs : List W} {o : List Bool},
    resEvs P c xs = some (vs, o) → (∀ b ∈ o, b = true) → ∃ ys, RL (RW ρ) vs ys ∧ (xs.mapM fun (x : ResultVar) => (match x with | .tmp t => (pure (a.tmps.getD t undef) : Sem Value) | .cell p t => (do loadVar t (← asAddr (a.tmps.getD p undef))))).run P w = .ok ys w
  | [], vs, o, he, _ => by simp [resEvs] at he; obtain ⟨rfl, _⟩ := he; exact ⟨[], .nil, by simp⟩
  | x :: xs, vs, o, he, ho => by
    simp only [resEvs] at he
    cases h1 : resEv P c x with
    | none => simp [h1] at he
    | some p =>
      obtain ⟨v, o1⟩ := p
      simp only [h1] at he
      cases h2 : resEvs P c xs with
      | none => simp [h2] at he
      | some q =>
        obtain ⟨vs2, o2⟩ := q
        simp [h2] at he
        obtain ⟨rfl, rfl⟩ := he
        obtain ⟨y, hy, hr⟩ := resEv_ok h h1 (fun b hb => ho b (by simp [hb]))
        obtain ⟨ys, hys, hrs⟩ := resEvs_ok h h2 (fun b hb => ho b (by simp [hb]))
        refine ⟨y :: ys, .cons hy hys, ?_⟩
        simp only [List.mapM_cons, Sem.run_bind, hr, Result.andThen_ok, hrs, Sem.run_pure]

theorem retV_ok {ρ : Env} {vs : List W} {ys : List Value} (h : RL (RW ρ) vs ys) : RV ρ (retV vs) (if h : ys.toArray.size = 1 then ys.toArray[0] else .tuple ys.toArray) := by
  have hl := h.length
  cases h with
  | nil => exact ⟨[], rfl, .nil⟩
  | cons hx hr =>
    cases hr with
    | nil => exact hx
    | cons hy hr =>
      rw [dif_neg (by simp)]
      exact ⟨_, rfl, .cons hx (.cons hy hr)⟩

end Sx
