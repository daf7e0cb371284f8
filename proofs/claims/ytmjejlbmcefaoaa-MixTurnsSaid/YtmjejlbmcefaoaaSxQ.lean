/- The symbolic executor, part Q: the code of a function, run symbolically. -/
import Derived.Test.YtmjejlbmcefaoaaSxP
namespace Sx
open Go Go.RowKit

/-- From here on the frame comes to an end that the function's contract lets. -/
def Fin (P : Program) (fn : Func) (R : Ending → World → Prop) (k : List Item) (a : Act) (w : World) : Prop :=
  ∀ (b : Frame) (cs : List Frame), ∃ e a' w', bodyPost P fn R e a' w' ∧ Arrives P (lone (b.at a k) cs w) b [] cs e a' w'

theorem Fin.steps {P : Program} {fn : Func} {R : Ending → World → Prop} {k k1 : List Item} {a a1 : Act} {w w1 : World} (h : ∀ (b : Frame) (cs : List Frame), Steps P (lone (b.at a k) cs w) (lone (b.at a1 k1) cs w1))
    (h1 : Fin P fn R k1 a1 w1) : Fin P fn R k a w := by
  intro b cs
  obtain ⟨e, a', w', hq, harr⟩ := h1 b cs
  exact ⟨e, a', w', hq, .of_steps (h b cs) harr⟩

theorem Fin.region {P : Program} {fn : Func} {R : Ending → World → Prop} {k : List Item} {c : Code} {a : Act} {w : World} (h : c.wp P (fun e a w => e = .normal ∧ Fin P fn R k a w) a w) : Fin P fn R (.code c :: k) a w := by
  intro b cs
  obtain ⟨e, a1, w1, ⟨rfl, h1⟩, harr⟩ := h b k cs
  obtain ⟨e, a', w', hq, harr'⟩ := h1 b cs
  exact ⟨e, a', w', hq, .of_steps harr harr'⟩

theorem Fin.done {P : Program} {fn : Func} {R : Ending → World → Prop} {a : Act} {w : World} (h : bodyPost P fn R .normal a w) : Fin P fn R [] a w :=
  fun _ _ => ⟨.normal, a, w, h, .refl P _⟩

theorem Fin.ret {P : Program} {fn : Func} {R : Ending → World → Prop} {k : List Item} {a : Act} {w : World} (h : bodyPost P fn R .ret a w) : Fin P fn R (.code .ret :: k) a w :=
  fun _ _ => ⟨.ret, a, w, h, _, .one step_ret⟩

theorem calls_of_fin {P : Program} {f : FuncId} {fn : Func} {c : Code} {args : Array Value} {w : World} {R : Ending → World → Prop} (hf : P.funcs[f]? = some fn) (hb : fn.body = some c)
    (h : Fin P fn R [.code c] { tmps := args ++ Array.replicate (fn.ntmps - args.size) undef, defers := [] } w) : Calls P f args w R := by
  intro cs
  let b : Frame := { (default : Frame) with fn := f, kind := .normal }
  have henter : Frame.enter P f args .normal =
      b.at { tmps := args ++ Array.replicate (fn.ntmps - args.size) undef, defers := [] } [.code c] := by
    simp [Frame.enter, Frame.at, hf, hb, b]
  obtain ⟨e, a', w', hq, harr⟩ := h b cs
  rw [← henter] at harr
  cases e with
  | normal =>
    obtain ⟨hd, v, hr, hR⟩ := hq
    exact ⟨.returned v, w', _, hR, Steps.trans harr (.one step_end), rfl, rfl, hd, rfl, fn, hf, hr⟩
  | ret =>
    obtain ⟨hd, v, hr, hR⟩ := hq
    obtain ⟨todo, hs⟩ := harr
    exact ⟨.returned v, w', _, hR, hs, rfl, rfl, hd, rfl, fn, hf, hr⟩
  | panic chain =>
    obtain ⟨hd, hR⟩ := hq
    obtain ⟨todo, hs⟩ := harr
    exact ⟨.panicked chain, w', _, hR, hs, rfl, rfl, hd, fn, hf⟩
  | exit id => exact hq.elim
  | goto l => exact hq.elim
  | outgrown => exact ⟨.outgrown, w', b, hq, harr.resolve_left (by simp [b]), rfl, trivial⟩

structure Cfg where
  k : List Item
  t : Tms
  m : Mem
  nx : Nat

def gdOf : List Oper → Nat → Option Nat
  | [], _ => none
  | o :: _, 0 => o.dst
  | _ :: r, j + 1 => gdOf r j

theorem gdOf_ok : ∀ (l : List Oper) (j : Nat), gdOf l j = (l[j]?).bind (·.dst)
  | [], j => by simp [gdOf]
  | o :: r, 0 => by simp [gdOf]
  | o :: r, j + 1 => by simp [gdOf, gdOf_ok r j]

def drawOk (draw : Bool) (gd : Nat → Option Nat) (l : List Oper) (es : List Eff) : Bool :=
  match draw with
  | true => regOk gd l es
  | false => true

def regEv (P : Program) (tab : Tab) (as : List (Nat × Bool)) (n : Nat) (l : List Oper) (draw : Bool) (c : Cfg) (k : List Item) : Option (Cfg × List Bool) :=
  match evalL P tab as c.nx (gdOf l) 0 l c.t c.m with
  | some (es, t', m') =>
    bif l.all (dstOk n) && drawOk draw (gdOf l) l es then some (⟨k, t', m', c.nx + 4 * l.length⟩, allObs es) else none
  | none => none

/-- runs on till the function returns, a loop's head has been met 'heads' + 1 times, or the fuel is used up. -/
def run (P : Program) (tab : Tab) (as : List (Nat × Bool)) (n : Nat) : Nat → Nat → Cfg → Option (Cfg × List Bool)
  | 0, _, c => some (c, [])
  | f + 1, heads, c =>
    match c.k with
    | [] => some (c, [])
    | .code (.region _ ops draw) :: k =>
      match regEv P tab as n ops.toList draw c k with
      | some (c', o) =>
        match run P tab as n f heads c' with
        | some (c'', o') => some (c'', o ++ o')
        | none => none
      | none => none
    | .code (.seq x y) :: k => run P tab as n f heads { c with k := .code x :: .code y :: k }
    | .code .skip :: k => run P tab as n f heads { c with k := k }
    | .code (.label _) :: k => run P tab as n f heads { c with k := k }
    | .code (.cond x a b) :: k =>
      match ev c.t x with
      | some (.w (.c (.v (.bool v)))) =>
        match v with
        | true => run P tab as n f heads { c with k := .code a :: k }
        | false => run P tab as n f heads { c with k := .code b :: k }
      | _ => none
    | .code (.block id x) :: k => run P tab as n f heads { c with k := .code x :: .inBlock id :: k }
    | .inBlock _ :: k => run P tab as n f heads { c with k := k }
    | .code (.loop x) :: k =>
      match heads with
      | 0 => some ({ c with k := .code x :: .inLoop x :: k }, [])
      | h + 1 => run P tab as n f h { c with k := .code x :: .inLoop x :: k }
    | .inLoop x :: k =>
      match heads with
      | 0 => some ({ c with k := .code x :: .inLoop x :: k }, [])
      | h + 1 => run P tab as n f h { c with k := .code x :: .inLoop x :: k }
    | .code (.exit id) :: k =>
      match exitTo id k with
      | some k' => run P tab as n f heads { c with k := k' }
      | none => none
    | .code .ret :: _ => some (c, [])
    | _ => none

/-- The walk's surroundings: what does not change while a function is walked. -/
structure Ctx where
  P : Program
  tab : Tab
  fn : Func
  R : Ending → World → Prop
  I : Nat × Env
  F : Nat → Prop
  w0 : World

structure CtxOk (X : Ctx) : Prop where
  tab : TabOk X.P X.tab
  mixed : X.P.follows .mixedOrders = true

/-- 'from this symbolic state on all goes well'. -/
def G (X : Ctx) (c : Cfg) : Prop :=
  ∀ ρ a w, Sim X.P X.I X.F X.w0 (fun id => id < c.nx) ρ c.t c.m X.fn.ntmps a w → Fin X.P X.fn X.R c.k a w

theorem G.of_step {X : Ctx} {c : Cfg} {k : List Item} (h : ∀ (b : Frame) (a : Act) (w : World) (cs : List Frame), step X.P (lone (b.at a c.k) cs w) = .next (lone (b.at a k) cs w)) (hg : G X { c with k := k }) : G X c :=
  fun ρ a w hs => Fin.steps (fun b cs => .one (h b a w cs)) (hg ρ a w hs)

theorem regEv_ok {X : Ctx} (hX : CtxOk X) {as : List (Nat × Bool)} {ops : Array Oper} {draw : Bool} {c c' : Cfg} {k : List Item} {o : List Bool} {id : Nat} (hc : c.k = .code (.region id ops draw) :: k)
    (h : regEv X.P X.tab as X.fn.ntmps ops.toList draw c k = some (c', o)) (ho : ∀ b ∈ o, b = true) (hg : G X c') : G X c := by
  unfold regEv at h
  split at h
  · rename_i es t' m' hev
    cases hb : (ops.toList.all (dstOk X.fn.ntmps) && drawOk draw (gdOf ops.toList) ops.toList es) with
    | false => simp only [hb, cond_false] at h; cases h
    | true =>
      simp only [hb, cond_true, Option.some.injEq, Prod.mk.injEq] at h
      obtain ⟨rfl, rfl⟩ := h
      simp only [Bool.and_eq_true, List.all_eq_true] at hb
      obtain ⟨hd, hdraw⟩ := hb
      have hgd : ∀ j, gdOf ops.toList j = (ops[j]?).bind (·.dst) := by intro j; rw [gdOf_ok]; simp
      intro ρ a w hs
      rw [hc]
      refine Fin.region ?_
      have hlen : ops.toList.length = ops.size := by simp
      cases draw with
      | false =>
        refine wp_region ?_
        rw [List.range_eq_range']
        have := seq_ok hX.tab (ops := ops) (Q := fun e a w => e = .normal ∧ Fin X.P X.fn X.R k a w) hgd ops.toList 0 c.t c.m es t' m' ρ a w (fun j => by simp) hev ho hd (by simpa using hs)
          (fun a' w' ρ' hs' => ⟨rfl, hg ρ' a' w' (by simpa using hs')⟩)
        simpa using this
      | true =>
        refine wp_region_any hX.mixed ?_
        obtain ⟨hr, hf, hl⟩ := evalL_runs X.P X.tab as c.nx (gdOf ops.toList) ops.toList es ops.toList 0 c.t c.m es t' m' (fun j => by simp) (fun j => by simp) hev
        have hs' : Sim X.P X.I X.F X.w0 (usedIn c.nx ops.size (List.range' 0 ops.toList.length)) ρ c.t c.m X.fn.ntmps a { w with drawn := w.drawn + 1 } := by
          refine Sim.mono ⟨hs.tm, hs.sz, hs.df, ⟨fun id blk hb => (hs.mem.rel id blk hb).keep (fun _ => rfl) (Nat.le_refl _), hs.mem.inj⟩, hs.lo, ?_, hs.ut, hs.um, hs.uk, hs.ini, hs.ui⟩ fun id hid => .inl hid
          exact hs.fr.trans ⟨rfl, rfl, rfl, Nat.le_refl _, fun _ _ _ => rfl⟩
        refine any_ok hX.tab (Q := fun e a w => e = .normal ∧ Fin X.P X.fn X.R k a w) hgd (by rw [hl, hlen]) hdraw ho hd (fun a' w' ρ' hs' => ⟨rfl, hg ρ' a' w' (by simpa using hs')⟩)
          ops.size (List.range' 0 ops.toList.length) _ c.t c.m ρ a _ (by simp) ?_ (List.pairwise_lt_range' (s := 0)) hr hf ?_ (by simp) hs'
        · intro i
          simp only [List.mem_range', hlen]
          constructor
          · rintro ⟨j, hj, rfl⟩
            refine ⟨by omega, ?_⟩
            rw [Array.getD_eq_getD_getElem?, Array.getElem?_replicate]
            split <;> rfl
          · rintro ⟨hi, _⟩
            exact ⟨i, hi, by omega⟩
        · intro i oi hi hl k hk
          have : i < ops.size := by have := (List.getElem?_eq_some_iff.1 hi).1; omega
          simp [this] at hl
  · cases h

theorem run_ok {X : Ctx} (hX : CtxOk X) {as : List (Nat × Bool)} : ∀ (f heads : Nat) (c c' : Cfg) (o : List Bool), run X.P X.tab as X.fn.ntmps f heads c = some (c', o) → (∀ b ∈ o, b = true) → G X c' → G X c
  | 0, heads, c, c', o, h, _, hg => by
    simp only [run, Option.some.injEq, Prod.mk.injEq] at h
    obtain ⟨rfl, rfl⟩ := h
    exact hg
  | f + 1, heads, c, c', o, h, ho, hg => by
    obtain ⟨k0, t, m, nx⟩ := c
    unfold run at h
    split at h <;> rename_i hk <;> simp only at hk
    · simp only [Option.some.injEq, Prod.mk.injEq] at h
      obtain ⟨rfl, rfl⟩ := h
      exact hg
    · rename_i id ops draw k
      split at h
      · rename_i c1 o1 hreg
        split at h
        · rename_i c2 o2 hrun
          simp only [Option.some.injEq, Prod.mk.injEq] at h
          obtain ⟨rfl, rfl⟩ := h
          exact regEv_ok hX hk hreg (fun b hb => ho b (by simp [hb])) (run_ok hX f heads _ _ _ hrun (fun b hb => ho b (by simp [hb])) hg)
        · cases h
      · cases h
    · exact G.of_step (fun b a w cs => by rw [hk]; exact step_seq) (run_ok hX f heads _ _ _ h ho hg)
    · exact G.of_step (fun b a w cs => by rw [hk]; exact step_skip) (run_ok hX f heads _ _ _ h ho hg)
    · exact G.of_step (fun b a w cs => by rw [hk]; exact step_label) (run_ok hX f heads _ _ _ h ho hg)
    · rename_i x a b k
      split at h
      · rename_i v hv
        intro ρ ac w hs
        have hc := ev_ok hs x _ hv
        simp only [RV, RW, RC] at hc
        simp only [hk]
        split at h
        · exact Fin.steps (fun b' cs => .one (by have := step_cond (P := X.P) (b := b') (cs := cs) (w := w) (k := k) (x := a) (y := b) hc; simpa using this)) (run_ok hX f heads _ _ _ h ho hg ρ ac w hs)
        · exact Fin.steps (fun b' cs => .one (by have := step_cond (P := X.P) (b := b') (cs := cs) (w := w) (k := k) (x := a) (y := b) hc; simpa using this)) (run_ok hX f heads _ _ _ h ho hg ρ ac w hs)
      · cases h
    · exact G.of_step (fun b a w cs => by rw [hk]; exact step_block) (run_ok hX f heads _ _ _ h ho hg)
    · exact G.of_step (fun b a w cs => by rw [hk]; exact step_inBlock) (run_ok hX f heads _ _ _ h ho hg)
    · split at h
      · simp only [Option.some.injEq, Prod.mk.injEq] at h
        obtain ⟨rfl, rfl⟩ := h
        exact G.of_step (fun b a w cs => by rw [hk]; exact step_loop) hg
      · exact G.of_step (fun b a w cs => by rw [hk]; exact step_loop) (run_ok hX f _ _ _ _ h ho hg)
    · split at h
      · simp only [Option.some.injEq, Prod.mk.injEq] at h
        obtain ⟨rfl, rfl⟩ := h
        exact G.of_step (fun b a w cs => by rw [hk]; exact step_inLoop) hg
      · exact G.of_step (fun b a w cs => by rw [hk]; exact step_inLoop) (run_ok hX f _ _ _ _ h ho hg)
    · split at h
      · rename_i k' hex
        exact G.of_step (fun b a w cs => by rw [hk]; exact step_exit hex) (run_ok hX f heads _ _ _ h ho hg)
      · cases h
    · simp only [Option.some.injEq, Prod.mk.injEq] at h
      obtain ⟨rfl, rfl⟩ := h
      exact hg
    · cases h

end Sx
