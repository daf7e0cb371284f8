/- The symbolic executor, part D: each operation's result is right, first half (memory). -/
import Derived.Test.YtmjejlbmcefaoaaSxC
namespace Sx
open Go Go.RowKit

structure TabOk (P : Program) (tab : Tab) : Prop where
  ctr : ∀ f args look base out, tab.ctr f args look base = some out → (∀ b ∈ out.obs, b = true) →
    ∀ ρ vs M w, (∀ id b, look id = some b → M id = some b) → MemOk P ρ M w → Fresh M base → RL (RW ρ) args vs → (∀ x ∈ args, ∀ id ∈ x.ids, ¬ inR base id) →
      Calls P f vs.toArray w (fun e w' => ∃ y ρ', e = .returned y ∧ Good P ρ ρ' M base out w w' y)
  name : ∀ f fn args look base out, tab.ctr f args look base = some out → P.funcs[f]? = some fn → (fn.name == "runtime.NumGoroutine") = false
  ext : ∀ f args out, tab.ext f args = some out → (∀ b ∈ out.obs, b = true) → out.upd = [] ∧ ∀ ρ vs, RL (RW ρ) args vs → ∃ y, (∀ v, out.v = some v → RV ρ v y) ∧
    ∀ w, (callFunc f vs.toArray).run P w = .ok (.value y) w
  eqs : ∀ T l m r, codesOk (tab.eqs T) l = true → eqCells l m = some r → ∀ ρ cs ds, RL (RC ρ) l cs → RL (RC ρ) m ds → ∀ w,
    (Op.equal T (.agg cs.toArray) (.agg ds.toArray)).run P w = .ok r w ∧ P.eqGuardType P.depth T = false

def Does (P : Program) (o : Oper) (a : Act) (w : World) (post : Value → World → Prop) : Prop :=
  ∀ (K : Act → World → Prop) (Q : Exit → Act → World → Prop), (∀ y w', post y w' → K (a.put o.dst y) w') → o.wp P a w K Q

theorem Does.of_run {P : Program} {o : Oper} {a : Act} {w w' : World} {y : Value} {post : Value → World → Prop}
    (h : (execOp a.eval o).run P w = .ok (.value y) w') (hp : post y w') : Does P o a w post := by
  intro K Q hK
  unfold Oper.wp
  rw [h]
  exact hK _ _ hp

theorem Does.of_skip {P : Program} {o : Oper} {a : Act} {w w' : World} {post : Value → World → Prop}
    (h : (execOp a.eval o).run P w = .ok .skip w') (hp : post undef w') : Does P o a w post := by
  intro K Q hK
  unfold Oper.wp
  rw [h]
  exact hK _ _ hp

theorem info_of_hasT {P : Program} {T : TypeId} (h : hasT P T = true) : ∃ i, P.info? T = some i := by
  unfold hasT Program.underlying at h
  cases hi : P.info? T with
  | none => simp [hi] at h
  | some i => exact ⟨i, rfl⟩

theorem und_of_hasT {P : Program} {T : TypeId} (h : hasT P T = true) : ∃ d, P.underlying T = some d := by
  unfold hasT at h
  cases hi : P.underlying T with
  | none => simp [hi] at h
  | some i => exact ⟨i, rfl⟩

theorem info_of_und {P : Program} {T : TypeId} {d : TypeDesc} (h : P.underlying T = some d) : ∃ i, P.info? T = some i := by
  unfold Program.underlying at h
  cases hi : P.info? T with
  | none => simp [hi] at h
  | some i => exact ⟨i, rfl⟩

theorem run_sizeOf' {P : Program} {T : TypeId} {i : TypeInfo} (h : P.info? T = some i) (w : World) : (Go.sizeOf T).run P w = .ok (P.cellsOf T) w := by
  simp [Go.sizeOf, typeInfo, h, Program.cellsOf]

theorem run_isAgg' {P : Program} {T : TypeId} (h : hasT P T = true) (w : World) : (isAgg T).run P w = .ok (isAggT P T) w := by
  obtain ⟨d, hd⟩ := und_of_hasT h
  unfold isAgg isAggT
  rw [Sem.run_bind, run_underlying hd, hd]
  cases d <;> simp [Result.andThen]

theorem hasT_of_agg {P : Program} {T : TypeId} (h : isAggT P T = true) : hasT P T = true := by
  unfold isAggT at h
  unfold hasT
  cases hu : P.underlying T with
  | none => simp [hu] at h
  | some d => rfl

theorem add_at (b o n : Nat) : Addr.add ⟨b, o, none⟩ n = ⟨b, o + n, none⟩ := by
  unfold Addr.add; split
  · subst_vars; rfl
  · rfl

theorem RC.oneCell {ρ : Env} {c : C} {y : Value} (h : RC ρ c y) (hc : c.one = true) : y.oneCell' = true := by
  cases c with
  | v x => simp only [RC] at h; subst h; cases y <;> first | rfl | simp [C.one] at hc
  | ptr id off => simp only [RC] at h; subst h; rfl
  | sl id off len => obtain ⟨a, cap, rfl, _⟩ := h; rfl
  | own id => exact h.2
  | fn f caps => simp only [RC] at h; subst h; rfl

/-- the cells at an id's places, read in the world. -/
theorem BlkRel.cells {P : Program} {ρ : Env} {id : Nat} {blk : Blk} {w : World} (h : BlkRel P ρ id blk w) :
    K.Is ρ blk.k (fun i => w.cell? ⟨ρ.b id, ρ.o id + i, none⟩) := by
  unfold BlkRel at h
  split at h
  · exact h.1
  · obtain ⟨arr, ⟨fz, hr, _⟩, hi⟩ := h
    exact hi.read fun i y _ hy => by rw [cell_of_row w _ _ arr _ fz hr]; exact hy
  · rename_i n hm
    obtain ⟨ho, hg, xs, hx, hl, hi⟩ := h
    refine hi.read fun i y hlt hy => ?_
    cases hob : (ρ.val id).ownBlock with
    | none =>
      rcases hx.2 with ⟨hv, h0⟩ | ⟨g, cap, cur, hv, _⟩
      · have := hx.1; rw [h0] at this; simp at this; rw [this] at hl; simp at hl; omega
      · rw [hv] at hob; simp [Value.ownBlock] at hob
    | some g =>
      have := hx.cells hob i y hy
      rw [hg g hob, add_at, Nat.zero_add] at this
      rw [ho, Nat.zero_add]
      exact this

theorem K.at_ok {ρ : Env} {k : K} {read : Nat → Option Value} (h : k.Is ρ read) {i : Nat} {c : C} {o : List Bool} (ha : k.at i = some (c, o)) (ho : ∀ b ∈ o, b = true) :
    ∃ y, read i = some y ∧ RC ρ c y := by
  cases k with
  | cs l =>
    simp only [K.at] at ha
    cases hl : l[i]? with
    | none => simp [hl] at ha
    | some c' => simp [hl] at ha; obtain ⟨rfl, _⟩ := ha; exact h i c' hl
  | ints k l =>
    simp only [K.at, Option.some.injEq, Prod.mk.injEq] at ha
    obtain ⟨rfl, rfl⟩ := ha
    have := ho _ (List.mem_singleton.2 rfl)
    have : i < l.length := by simpa [Nat.blt_eq] using this
    exact ⟨_, h i this, rfl⟩
  | strs l =>
    simp only [K.at, Option.some.injEq, Prod.mk.injEq] at ha
    obtain ⟨rfl, rfl⟩ := ha
    have := ho _ (List.mem_singleton.2 rfl)
    have : i < l.length := by simpa [Nat.blt_eq] using this
    exact ⟨_, h i this, rfl⟩

theorem K.take_ok {ρ : Env} {k : K} {read : Nat → Option Value} (h : k.Is ρ read) : ∀ (n off j : Nat) (l : List C) (o : List Bool), k.take off j n = some (l, o) → (∀ b ∈ o, b = true) →
    ∃ cs : List Value, cs.length = n ∧ RL (RC ρ) l cs ∧ ∀ i v, cs[i]? = some v → read (off + (j + i)) = some v
  | 0, off, j, l, o, ht, _ => by
    simp only [K.take, Option.some.injEq, Prod.mk.injEq] at ht
    obtain ⟨rfl, rfl⟩ := ht
    exact ⟨[], rfl, .nil, by simp⟩
  | n + 1, off, j, l, o, ht, ho => by
    simp only [K.take] at ht
    cases ha : k.at (off + j) with
    | none => simp [ha] at ht
    | some p =>
      obtain ⟨c, o1⟩ := p
      simp only [ha] at ht
      cases hr : K.take k off (j + 1) n with
      | none => simp [hr] at ht
      | some q =>
        obtain ⟨l2, o2⟩ := q
        simp only [hr, Option.some.injEq, Prod.mk.injEq] at ht
        obtain ⟨rfl, rfl⟩ := ht
        obtain ⟨y, hy, hc⟩ := K.at_ok h ha (fun b hb => ho b (by simp [hb]))
        obtain ⟨cs, hlen, hrl, hg⟩ := K.take_ok h n off (j + 1) l2 o2 hr (fun b hb => ho b (by simp [hb]))
        refine ⟨y :: cs, by simp [hlen], .cons hc hrl, ?_⟩
        intro i v hv
        cases i with
        | zero => simp at hv; subst hv; simpa using hy
        | succ i =>
          have := hg i v (by simpa using hv)
          rw [show j + (i + 1) = j + 1 + i by omega]; exact this

theorem K.Is.ints {ρ : Env} {k : IntKind} {l : List Int} {read : Nat → Option Value} (h : K.Is ρ (.ints k l) read) : ∀ i v, (l.map (Value.int k))[i]? = some v → read i = some v := by
  intro i v hv
  rw [List.getElem?_map] at hv
  cases hl : l[i]? with
  | none => simp [hl] at hv
  | some n =>
    simp [hl] at hv
    subst hv
    have hlt : i < l.length := (List.getElem?_eq_some_iff.1 hl).1
    have := h i hlt
    rw [this]
    simp [List.getD, hl]

theorem run_loadVar_agg {P : Program} {T : TypeId} {w : World} {b o : Nat} {cs : List Value} (hT : isAggT P T = true) (hn : cs.length = P.cellsOf T)
    (h : ∀ i v, cs[i]? = some v → w.cell? ⟨b, o + i, none⟩ = some v) : (loadVar T ⟨b, o, none⟩).run P w = .ok (.agg cs.toArray) w := by
  have hh := hasT_of_agg hT
  obtain ⟨i, hi⟩ := info_of_hasT hh
  have hl := run_loadCells_list (P := P) w ⟨b, o, none⟩ cs (fun j v hv => by rw [add_at]; exact h j v hv)
  unfold loadVar
  simp [run_isAgg' hh, hT, run_sizeOf' hi, ← hn, hl]

theorem run_loadVar_one {P : Program} {T : TypeId} {w : World} {a : Addr} {v : Value} (hT : isAggT P T = false) (hh : hasT P T = true) (h : w.cell? a = some v) :
    (loadVar T a).run P w = .ok v w := by
  unfold loadVar
  simp [run_isAgg' hh, hT, h]

theorem wPlace_ok {ρ : Env} {x : W} {id off : Nat} {y : Value} (h : wPlace x = some (id, off)) (hx : RW ρ x y) : y = .pointer (some ⟨ρ.b id, ρ.o id + off, none⟩) := by
  unfold wPlace at h
  split at h
  · simp at h; obtain ⟨rfl, rfl⟩ := h; exact hx
  · cases h

theorem loadEv_ok {P : Program} {M M0 : Mem} {T : TypeId} {x : W} {out : Out} {ρ : Env} {w : World} {y : Value} (h : loadEv P M0 T x = some out) (ho : ∀ b ∈ out.obs, b = true)
    (hMs : ∀ id b, M0 id = some b → M id = some b) (hM : MemOk P ρ M w) (hx : RW ρ x y) :
    ∃ v r, out = ⟨some v, [], out.obs⟩ ∧ RV ρ v r ∧ (Instr.loadAt T y).run P w = .ok r w := by
  unfold loadEv at h
  cases hp : wPlace x with
  | none => simp [hp] at h
  | some p =>
    obtain ⟨id, off⟩ := p
    simp only [hp] at h
    cases hid : M0 id with
    | none => simp [hid] at h
    | some blk =>
      simp only [hid] at h
      have hrel := (hM.rel id blk (hMs _ _ hid)).cells
      have hy := wPlace_ok hp hx
      subst hy
      have htake : ∀ l o, blk.k.take off 0 (P.cellsOf T) = some (l, o) → (∀ b ∈ o, b = true) → isAggT P T = true →
          ∃ r, RV ρ (.w (.agg l)) r ∧ (Instr.loadAt T (.pointer (some ⟨ρ.b id, ρ.o id + off, none⟩))).run P w = .ok r w := by
        intro l o ht hob hagg
        obtain ⟨cs, hlen, hrl, hg⟩ := K.take_ok hrel _ _ _ l o ht hob
        refine ⟨.agg cs.toArray, ⟨cs, rfl, hrl⟩, ?_⟩
        have := run_loadVar_agg (P := P) (w := w) (b := ρ.b id) (o := ρ.o id + off) hagg hlen (fun i v hv => by
          have := hg i v hv; rw [Nat.zero_add] at this; rw [Nat.add_assoc]; exact this)
        simp [Instr.loadAt, Instr.sureAddr, this]
      cases hagg : isAggT P T with
      | false =>
        simp only [hagg, cond_false] at h
        cases hh : hasT P T with
        | false => simp [hh] at h
        | true =>
          simp only [hh, cond_true] at h
          cases hat : blk.k.at off with
          | none => simp [hat] at h
          | some q =>
            obtain ⟨c, o⟩ := q
            simp only [hat, outo, Option.some.injEq] at h
            subst h
            obtain ⟨r, hr, hc⟩ := K.at_ok hrel hat ho
            refine ⟨_, r, rfl, hc, ?_⟩
            simp [Instr.loadAt, Instr.sureAddr, run_loadVar_one hagg hh hr]
      | true =>
        simp only [hagg, cond_true] at h
        have fall : (match blk.k.take off 0 (P.cellsOf T) with | some (l, o) => outo (.w (.agg l)) o | none => none) = some out →
            ∃ v r, out = ⟨some v, [], out.obs⟩ ∧ RV ρ v r ∧ (Instr.loadAt T (.pointer (some ⟨ρ.b id, ρ.o id + off, none⟩))).run P w = .ok r w := by
          intro h
          cases ht : blk.k.take off 0 (P.cellsOf T) with
          | none => simp [ht] at h
          | some q =>
            obtain ⟨l, o⟩ := q
            simp only [ht, outo, Option.some.injEq] at h
            subst h
            obtain ⟨r, hr, hrun⟩ := htake l o ht ho hagg
            exact ⟨_, r, rfl, hr, hrun⟩
        split at h
        · rename_i k l hk
          cases hb : Nat.blt 16 (P.cellsOf T) with
          | true =>
            simp only [hb, cond_true, outo, Option.some.injEq] at h
            subst h
            have hlen : l.length = P.cellsOf T := by have := ho _ (List.mem_singleton.2 rfl); simpa using this
            rw [hk] at hrel
            refine ⟨_, .agg (l.map (Value.int k)).toArray, rfl, rfl, ?_⟩
            have := run_loadVar_agg (P := P) (w := w) (b := ρ.b id) (o := ρ.o id + 0) (cs := l.map (Value.int k)) hagg (by simpa using hlen) (fun i v hv => hrel.ints i v hv)
            simp only [Nat.add_zero] at this
            simp [Instr.loadAt, Instr.sureAddr, this]
          | false =>
            simp only [hb, cond_false] at h
            exact fall h
        · exact fall h

end Sx
