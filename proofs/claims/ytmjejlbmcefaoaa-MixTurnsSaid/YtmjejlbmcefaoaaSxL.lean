/- The symbolic executor, part L: conversions, calls; every operation. -/
import Derived.Test.YtmjejlbmcefaoaaSxK
namespace Sx
open Go Go.RowKit

theorem convEv_ok {P : Program} {M M0 : Mem} {src dst : TypeId} {x : W} {out : Out} {ρ : Env} {w : World} {base : Nat} {y : Value} (h : convEv P M0 base src dst x = some out) (ho : ∀ b ∈ out.obs, b = true)
    (hMs : ∀ id b, M0 id = some b → M id = some b) (hM : MemOk P ρ M w) (hF : Fresh M base) (hx : RW ρ x y) :
    ∃ r w' ρ', (convert src dst y).run P w = .ok r w' ∧ Good P ρ ρ' M base out w w' r := by
  unfold convEv at h
  split at h
  · rename_i k0 n
    simp only [RW, RC] at hx
    subst hx
    split at h
    · rename_i k hk
      cases hs : hasT P src with
      | false => simp [hs] at h
      | true =>
        simp only [hs, cond_true, outo, Option.some.injEq] at h
        subst h
        obtain ⟨d, hd⟩ := und_of_hasT hs
        refine ⟨.int k (k.wrap n), w, ρ, ?_, Good.same hM (by rintro _ ⟨⟩; rfl) rfl rfl rfl rfl⟩
        simp [convert, run_underlying hd, run_underlying (intKindOf_ok hk), Conv.intToInt]
    · cases h
  · rename_i s
    simp only [RW, RC] at hx
    subst hx
    cases hb : (isStrT P dst && hasT P src) with
    | true =>
      simp only [hb, cond_true, out1, Option.some.injEq] at h
      subst h
      simp only [Bool.and_eq_true] at hb
      obtain ⟨d, hd⟩ := und_of_hasT hb.2
      refine ⟨.string s, w, ρ, ?_, Good.same hM (by rintro _ ⟨⟩; rfl) rfl rfl rfl rfl⟩
      simp [convert, run_underlying hd, run_underlying (und_str hb.1)]
    | false =>
      simp only [hb, cond_false] at h
      split at h
      · rename_i e he
        split at h
        · rename_i hk
          cases hs : hasT P src with
          | false => simp [hs] at h
          | true =>
            simp only [hs, cond_true, Option.some.injEq] at h
            subst h
            obtain ⟨d, hd⟩ := und_of_hasT hs
            have hrun := Lib.run_convert_string_bytes w src dst e s hd (elemOfSlice_ok he) (intKindOf_ok hk)
            refine ⟨_, _, ρ.set base w.heap.size .nilFunc, hrun, Good.alloc hM hF (by rw [Lib.bytesWorld_size]; omega) (fun k hk => Lib.bytesWorld_at_old w e s k hk) rfl rfl rfl ?_ (by simp [Blk.ro]) ?_⟩
            · rintro v' ⟨⟩
              exact ⟨_, _, rfl, grownCap_ge w s.size 0 e, fun _ => by simp [Env.set]⟩
            · refine ⟨Lib.bytesCells w e s, ⟨_, by simp only [Env.set, if_true]; exact Lib.bytesWorld_at_new w e s, fun i hi h => by omega⟩, ?_⟩
              intro i hi
              have hi' : i < s.size := by simpa [bytesOf] using hi
              simp [Env.set, Lib.bytesCells, bytesOf, Array.getElem?_append, hi', List.getD]
        · cases h
      · cases h
  · rename_i c hno1 hno2
    cases hb : isStrT P dst with
    | false => simp [hb] at h
    | true =>
      simp only [hb, cond_true] at h
      split at h
      · rename_i e he
        split at h
        · rename_i hk
          split at h
          · rename_i id off n hsl
            split at h
            · rename_i blk hblk
              split at h
              · rename_i l o hl
                simp only [outo, Option.some.injEq] at h
                subst h
                obtain ⟨ad, cap, rfl, hnc, had⟩ := C.slice_ok hsl hMs hM hx
                obtain ⟨hlen, hget⟩ := K.bytes_ok (hM.rel id blk (hMs _ _ hblk)).cells hl ho
                refine ⟨.string (strOf l), w, ρ, ?_, Good.same hM (by rintro _ ⟨⟩; rfl) rfl rfl rfl rfl⟩
                have := run_bytesToString (P := P) (w := w) (cap := cap) (ad := ad) (b := ρ.b id) (o := ρ.o id + off) hlen had (fun i v hv => by rw [Nat.add_assoc]; exact hget i v hv)
                simp [convert, run_underlying (elemOfSlice_ok he), run_underlying (und_str hb), run_underlying (intKindOf_ok hk), this]
              · cases h
            · cases h
          · split at h
            · simp only [cond_true, out1, Option.some.injEq] at h
              subst h
              simp only [RW, RC] at hx
              subst hx
              refine ⟨.string .empty, w, ρ, ?_, Good.same hM (by rintro _ ⟨⟩; rfl) rfl rfl rfl rfl⟩
              simp [convert, run_underlying (elemOfSlice_ok he), run_underlying (und_str hb), run_underlying (intKindOf_ok hk), Conv.bytesToString]
            · simp at h
        · cases h
      · cases h
  · cases h

theorem evw_ok {ρ : Env} {t : Tms} {a : Act} (hev : ∀ x v, ev t x = some v → RV ρ v (a.eval x)) {x : Operand} {v : W} (h : evw t x = some v) : RW ρ v (a.eval x) := by
  unfold evw at h
  split at h
  · rename_i w hw
    simp at h; subst h
    exact hev x _ hw
  · cases h

theorem evw_ids {base : Nat} {t : Tms} (hfr : ∀ x v, ev t x = some v → ∀ id ∈ v.ids, ¬ inR base id) {x : Operand} {v : W} (h : evw t x = some v) : ∀ id ∈ v.ids, ¬ inR base id := by
  unfold evw at h
  split at h
  · rename_i w hw
    simp at h; subst h
    exact hfr x _ hw
  · cases h

theorem evws_ok {ρ : Env} {t : Tms} {a : Act} (hev : ∀ x v, ev t x = some v → RV ρ v (a.eval x)) : ∀ {l : List Operand} {vs : List W}, evws t l = some vs → RL (RW ρ) vs (l.map a.eval)
  | [], vs, h => by simp [evws] at h; subst h; exact .nil
  | x :: l, vs, h => by
    simp only [evws] at h
    cases hx : evw t x with
    | none => simp [hx] at h
    | some v =>
      simp only [hx] at h
      cases hr : evws t l with
      | none => simp [hr] at h
      | some vs' =>
        simp [hr] at h
        subst h
        exact .cons (evw_ok hev hx) (evws_ok hev hr)

theorem evws_ids {base : Nat} {t : Tms} (hfr : ∀ x v, ev t x = some v → ∀ id ∈ v.ids, ¬ inR base id) : ∀ {l : List Operand} {vs : List W}, evws t l = some vs → ∀ x ∈ vs, ∀ id ∈ x.ids, ¬ inR base id
  | [], vs, h => by simp [evws] at h; subst h; simp
  | x :: l, vs, h => by
    simp only [evws] at h
    cases hx : evw t x with
    | none => simp [hx] at h
    | some v =>
      simp only [hx] at h
      cases hr : evws t l with
      | none => simp [hr] at h
      | some vs' =>
        simp [hr] at h
        subst h
        intro y hy
        rcases List.mem_cons.1 hy with rfl | hy
        · exact evw_ids hfr hx
        · exact evws_ids hfr hr y hy

theorem evParts_ids {base : Nat} {t : Tms} (hfr : ∀ x v, ev t x = some v → ∀ id ∈ v.ids, ¬ inR base id) : ∀ {l : List (Nat × Operand)} {vs : List (Nat × W)}, evParts t l = some vs → ∀ x ∈ vs, ∀ id ∈ x.2.ids, ¬ inR base id
  | [], vs, h => by simp [evParts] at h; subst h; simp
  | (i, x) :: l, vs, h => by
    simp only [evParts] at h
    cases hx : evw t x with
    | none => simp [hx] at h
    | some v =>
      simp only [hx] at h
      cases hr : evParts t l with
      | none => simp [hr] at h
      | some vs' =>
        simp [hr] at h
        subst h
        intro y hy
        rcases List.mem_cons.1 hy with rfl | hy
        · exact evw_ids hfr hx
        · exact evParts_ids hfr hr y hy

theorem litV_ok (ρ : Env) (v : Value) : RV ρ (litV v) v := by
  unfold litV
  split
  · rename_i cs
    exact ⟨cs.toList, rfl, RL.lits ρ _⟩
  · rfl

theorem litV_ids (v : Value) : (litV v).ids = [] := by
  unfold litV
  split
  · simp [V.ids, W.ids, List.flatMap_map, C.ids]
  · rfl

theorem litW (ρ : Env) (v : Value) : RW ρ (match litV v with | .w x => x | _ => .c (.v v)) v := by
  have := litV_ok ρ v
  cases h : litV v with
  | w x => rw [h] at this; exact this
  | tup l => rfl

theorem litW_ids (v : Value) : (match litV v with | .w x => x | _ => W.c (.v v)).ids = [] := by
  have := litV_ids v
  cases h : litV v with
  | w x => rw [h] at this; exact this
  | tup l => rfl

theorem fnOf_ok {ρ : Env} {c : C} {f : FuncId} {fs cs : List W} {y : Value} (h : fnOf c = some (f, fs, cs)) (hc : RC ρ c y) :
    ∃ a b : List Value, y = .func (.func f) a.toArray b.toArray ∧ RL (RW ρ) fs a ∧ RL (RW ρ) cs b := by
  have lits : ∀ l : List Value, RL (RW ρ) (l.map fun v => match litV v with | .w x => x | _ => W.c (.v v)) l := by
    intro l
    induction l with
    | nil => exact .nil
    | cons v l ih => exact .cons (litW ρ v) ih
  unfold fnOf at h
  split at h
  · rename_i f fs cs
    simp only [Option.some.injEq, Prod.mk.injEq] at h
    obtain ⟨rfl, rfl, rfl⟩ := h
    simp only [RC] at hc
    subst hc
    exact ⟨fs.toList, cs.toList, rfl, lits _, lits _⟩
  · rename_i f caps
    simp only [Option.some.injEq, Prod.mk.injEq] at h
    obtain ⟨rfl, rfl, rfl⟩ := h
    simp only [RC] at hc
    subst hc
    refine ⟨[], _, rfl, .nil, ?_⟩
    induction caps with
    | nil => exact .nil
    | cons p l ih => exact .cons rfl ih
  · cases h

theorem fnOf_ids {base : Nat} {c : C} {f : FuncId} {fs cs : List W} (h : fnOf c = some (f, fs, cs)) (hc : ∀ id ∈ c.ids, ¬ inR base id) : (∀ x ∈ fs, ∀ id ∈ x.ids, ¬ inR base id) ∧ ∀ x ∈ cs, ∀ id ∈ x.ids, ¬ inR base id := by
  have lits : ∀ l : List Value, ∀ x ∈ (l.map fun v => match litV v with | .w x => x | _ => W.c (.v v)), ∀ id ∈ x.ids, ¬ inR base id := by
    intro l x hx id hid
    simp only [List.mem_map] at hx
    obtain ⟨v, _, rfl⟩ := hx
    rw [litW_ids] at hid
    cases hid
  unfold fnOf at h
  split at h
  · simp only [Option.some.injEq, Prod.mk.injEq] at h
    obtain ⟨rfl, rfl, rfl⟩ := h
    exact ⟨lits _, lits _⟩
  · rename_i f caps
    simp only [Option.some.injEq, Prod.mk.injEq] at h
    obtain ⟨rfl, rfl, rfl⟩ := h
    refine ⟨by simp, ?_⟩
    intro x hx id hid
    simp only [List.mem_map] at hx
    obtain ⟨p, hp, rfl⟩ := hx
    simp only [W.ids, C.ids, List.mem_singleton] at hid
    subst hid
    exact hc p.1 (by simp only [C.ids, List.mem_map]; exact ⟨p, hp, rfl⟩)
  · cases h

theorem callEv_ok {P : Program} {tab : Tab} (hT : TabOk P tab) {M M0 : Mem} {base : Nat} {o : Oper} {a : Act} {w : World} {f : Operand} {args : Array Operand} {ts : Array TypeId} {fv : W} {as : List W} {out : Out} {ρ : Env}
    (hop : o.op = .call ⟨.value f, args, ts⟩) (h : callEv P tab M0 base fv as = some out) (ho : ∀ b ∈ out.obs, b = true) (hMs : ∀ id b, M0 id = some b → M id = some b) (hM : MemOk P ρ M w) (hF : Fresh M base)
    (hf : RW ρ fv (a.eval f)) (ha : RL (RW ρ) as (args.toList.map a.eval)) (hfi : ∀ id ∈ fv.ids, ¬ inR base id) (hai : ∀ x ∈ as, ∀ id ∈ x.ids, ¬ inR base id) :
    Does P o a w (fun y w' => ∃ ρ', Good P ρ ρ' M base out w w' y) := by
  unfold callEv at h
  split at h
  · rename_i c
    split at h
    · rename_i g fs cs hfn
      split at h
      · rename_i fn hfun
        obtain ⟨l, m, hy, hl, hm⟩ := fnOf_ok hfn hf
        obtain ⟨hli, hmi⟩ := fnOf_ids hfn hfi
        have hall := (hl.append ha).append hm
        have harr : l.toArray ++ (args.map a.eval) ++ m.toArray = (l ++ args.toList.map a.eval ++ m).toArray := by
          apply Array.ext'
          simp
        have hexec : ∀ w, (execOp a.eval o).run P w = (callFunc g (l ++ args.toList.map a.eval ++ m).toArray).run P w := by
          intro w
          simp only [execOp, hop, resolve, Deferred.ofValue, hy, invoke, Sem.run_bind, Sem.run_pure, Result.andThen_ok, harr]
        cases hbd : fn.body.isSome with
        | true =>
          simp only [hbd, cond_true] at h
          have hnm := hT.name _ fn _ _ _ _ h hfun
          have hcalls := hT.ctr _ _ _ _ _ h ho ρ _ M w hMs hM hF hall (by
            intro x hx
            rcases List.mem_append.1 hx with hx | hx
            · rcases List.mem_append.1 hx with hx | hx
              · exact hli x hx
              · exact hai x hx
            · exact hmi x hx)
          have hne : fn.body.isNone = false := by cases hb : fn.body <;> simp [hb] at hbd ⊢
          have hcf : (callFunc g (l ++ args.toList.map a.eval ++ m).toArray).run P w = .ok (.enter g (l ++ args.toList.map a.eval ++ m).toArray) w := by
            have hnm' : ¬ fn.name = "runtime.NumGoroutine" := by simpa using hnm
            have hne' : ¬ fn.body = none := by intro e; rw [e] at hbd; cases hbd
            simp [callFunc, hfun, hnm', hne']
          intro K Q hK
          unfold Oper.wp
          rw [hexec, hcf, Oper.upon_enter]
          refine hcalls.mono ?_
          rintro e w' ⟨y, ρ', rfl, hg⟩
          exact hK y w' ⟨ρ', hg⟩
        | false =>
          simp only [hbd, cond_false] at h
          obtain ⟨hu, hext⟩ := hT.ext _ _ _ h ho
          obtain ⟨y, hyv, hrun⟩ := hext ρ _ hall
          refine Does.of_run (y := y) (w' := w) (by rw [hexec]; exact hrun w) ⟨ρ, ?_⟩
          have : out = ⟨out.v, [], out.obs⟩ := by cases out; simp at hu; subst hu; rfl
          rw [this]
          exact Good.same hM hyv rfl rfl rfl rfl
      · cases h
    · cases h
  · cases h

theorem makeFuncEv_ok {f : Fn} {first caps : List W} {out : Out} {ρ : Env} {us vs : List Value} (h : makeFuncEv f first caps = some out) (h1 : RL (RW ρ) first us) (h2 : RL (RW ρ) caps vs) :
    ∃ v, out = ⟨some v, [], []⟩ ∧ RV ρ v (.func f us.toArray vs.toArray) := by
  unfold makeFuncEv at h
  split at h
  · rename_i f
    cases h1
    split at h
    · simp only [out1, Option.some.injEq] at h
      subst h
      cases h2
      exact ⟨_, rfl, rfl⟩
    · split at h
      · rename_i l hl
        simp only [out1, Option.some.injEq] at h
        subst h
        refine ⟨_, rfl, ?_⟩
        have key : ∀ (ws : List W) (vs : List Value) (l : List (Nat × Nat)), RL (RW ρ) ws vs → caps? ws = some l → vs = l.map fun p => Value.pointer (some ⟨ρ.b p.1, ρ.o p.1 + p.2, none⟩) := by
          intro ws
          induction ws with
          | nil => intro vs l h hc; cases h; simp [caps?] at hc; subst hc; rfl
          | cons x ws ih =>
            intro vs l h hc
            cases h with
            | cons hx hr =>
              cases x with
              | c c =>
                cases c with
                | ptr id off =>
                  simp only [caps?] at hc
                  split at hc
                  · rename_i l' hl'
                    simp at hc; subst hc
                    simp only [List.map_cons]
                    rw [ih _ _ hr hl']
                    simp only [RW, RC] at hx
                    rw [hx]
                  · cases hc
                | _ => simp [caps?] at hc
              | _ => simp [caps?] at hc
        simp only [RV, RW, RC]
        rw [key _ _ _ h2 hl]
      · cases h
  · cases h

theorem RL.one {α β : Type} {R : α → β → Prop} {x : α} {m : List β} (h : RL R [x] m) : ∃ y, m = [y] ∧ R x y := by
  cases h with
  | cons hx hn => cases hn; exact ⟨_, rfl, hx⟩
theorem RL.two {α β : Type} {R : α → β → Prop} {x x' : α} {m : List β} (h : RL R [x, x'] m) : ∃ y y', m = [y, y'] ∧ R x y ∧ R x' y' := by
  cases h with
  | cons hx hn => obtain ⟨y', rfl, h'⟩ := hn.one; exact ⟨_, _, rfl, hx, h'⟩

theorem builtinEv_ok {P : Program} {M M0 : Mem} {base : Nat} {b : Builtin} {ts : Array TypeId} {as : List W} {out : Out} {ρ : Env} {w : World} {vs : List Value} (ty : TypeId) (cb : Array Bool) (h : builtinEv P M0 base b ts as = some out)
    (ho : ∀ b ∈ out.obs, b = true) (hMs : ∀ id b, M0 id = some b → M id = some b) (hM : MemOk P ρ M w) (hF : Fresh M base) (ha : RL (RW ρ) as vs) :
    ∃ r w' ρ', (builtin b ts ty cb vs.toArray).run P w = .ok (.value r) w' ∧ Good P ρ ρ' M base out w w' r := by
  unfold builtinEv at h
  split at h
  · rename_i x
    obtain ⟨y, rfl, hx⟩ := ha.one
    split at h
    · rename_i T hT
      obtain ⟨v, r, rfl, hr, hrun⟩ := lenEv_ok (ty := ty) hT h hMs hM hx
      exact ⟨r, w, ρ, by simp [builtin, hrun], Good.same hM (by rintro _ ⟨⟩; exact hr) rfl rfl rfl rfl⟩
    · cases h
  · rename_i s x
    obtain ⟨y, z, rfl, hs, hx⟩ := ha.two
    split at h
    · rename_i T T' hT hT'
      obtain ⟨r, w', ρ', hrun, hg⟩ := appendEv_ok (ty := ty) h ho hMs hM hF hs hx
      refine ⟨r, w', ρ', ?_, hg⟩
      have e : (Builtin.append_ ts ty #[y, z]).run P w = (Builtin.append_ #[T, T'] ty #[y, z]).run P w := by
        simp only [Builtin.append_, hT, hT']
        rfl
      simp only [builtin, Sem.run_bind, e, hrun, Result.andThen_ok, Sem.run_pure]
    · cases h
  · rename_i x y
    obtain ⟨u, v, rfl, hx, hy⟩ := ha.two
    unfold min2Ev at h
    split at h
    · rename_i k a k' b
      cases hk : kEq k k' with
      | false => simp [hk] at h
      | true =>
        simp only [hk, cond_true, out1, Option.some.injEq] at h
        subst h
        simp only [RW, RC] at hx hy
        subst hx; subst hy
        refine ⟨.int k (if b < a then b else a), w, ρ, ?_, Good.same hM (by rintro _ ⟨⟩; rfl) rfl rfl rfl rfl⟩
        simp [builtin, Builtin.min_, Builtin.min2]
    · cases h
  · rename_i x y
    obtain ⟨u, v, rfl, hx, hy⟩ := ha.two
    unfold max2Ev at h
    split at h
    · rename_i k a k' b
      cases hk : kEq k k' with
      | false => simp [hk] at h
      | true =>
        simp only [hk, cond_true, out1, Option.some.injEq] at h
        subst h
        simp only [RW, RC] at hx hy
        subst hx; subst hy
        refine ⟨.int k (if b > a then b else a), w, ρ, ?_, Good.same hM (by rintro _ ⟨⟩; rfl) rfl rfl rfl rfl⟩
        simp [builtin, Builtin.max_, Builtin.max2]
    · cases h
  · cases h

/-- every operation does what the symbolic one says. -/
theorem core_ok {P : Program} {tab : Tab} (hT : TabOk P tab) {M M0 : Mem} {base : Nat} {o : Oper} {t : Tms} {a : Act} {w : World} {out : Out} {ρ : Env} (h : core P tab base o t M0 = some out) (ho : ∀ b ∈ out.obs, b = true)
    (hMs : ∀ id b, M0 id = some b → M id = some b) (hM : MemOk P ρ M w) (hF : Fresh M base) (hev : ∀ x v, ev t x = some v → RV ρ v (a.eval x)) (hfr : ∀ x v, ev t x = some v → ∀ id ∈ v.ids, ¬ inR base id) :
    Does P o a w (fun y w' => ∃ ρ', Good P ρ ρ' M base out w w' y) := by
  unfold core at h
  have same : ∀ {x : Operand} {v : V}, ev t x = some v → (execOp a.eval o).run P w = .ok (.value (a.eval x)) w → out1 v = some out → Does P o a w (fun y w' => ∃ ρ', Good P ρ ρ' M base out w w' y) := by
    intro x v hx hr ho
    simp only [out1, Option.some.injEq] at ho
    subst ho
    exact Does.of_run hr ⟨ρ, Good.same hM (by rintro _ ⟨⟩; exact hev x v hx) rfl rfl rfl rfl⟩
  have val : ∀ {y : Value} {v : V} {obs : List Bool}, out = ⟨some v, [], obs⟩ → RV ρ v y → (execOp a.eval o).run P w = .ok (.value y) w → Does P o a w (fun y w' => ∃ ρ', Good P ρ ρ' M base out w w' y) := by
    rintro y v obs rfl hv hr
    exact Does.of_run hr ⟨ρ, Good.same hM (by rintro _ ⟨⟩; exact hv) rfl rfl rfl rfl⟩
  have full : ∀ {y : Value} {w' : World} {ρ' : Env}, (execOp a.eval o).run P w = .ok (.value y) w' → Good P ρ ρ' M base out w w' y → Does P o a w (fun y w' => ∃ ρ', Good P ρ ρ' M base out w w' y) :=
    fun hr hg => Does.of_run hr ⟨_, hg⟩
  split at h
  · rename_i x hop
    split at h
    · rename_i v hv; exact same hv (by simp [execOp, hop]) h
    · cases h
  · rename_i x hop
    split at h
    · rename_i v hv; exact same hv (by simp [execOp, hop]) h
    · cases h
  · rename_i c x y hop
    split at h
    · rename_i b hb
      have hc := hev c _ hb
      simp only [RV, RW, RC] at hc
      split at h
      · rename_i v hv
        cases b
        · simp only [cond_false] at hv; exact same hv (by simp [execOp, hop, hc, asBool]) h
        · simp only [cond_true] at hv; exact same hv (by simp [execOp, hop, hc, asBool]) h
      · cases h
    · cases h
  · rename_i T hop
    obtain ⟨y, w', ρ', hrun, hg⟩ := allocEv_ok h hM hF
    exact full (by simp [execOp, hop, hrun]) hg
  · rename_i T x hop
    split at h
    · rename_i v hv
      obtain ⟨y, w', ρ', hrun, hg⟩ := boxEv_ok (P := P) h hM hF (evw_ok hev hv) (evw_ids hfr hv)
      exact full (by simp [execOp, hop, hrun]) hg
    · cases h
  · rename_i T ps hop
    split at h
    · rename_i l hl
      obtain ⟨v, r, he, hr, hrun⟩ := buildEv_ok (w := w) h (evParts_ok hev _ _ hl)
      have e : (ps.toList.map fun (x : Nat × Operand) => (x.1, a.eval x.2)).toArray = ps.map fun (i, x) => (i, a.eval x) := by
        apply Array.ext'; simp
      refine val he hr ?_
      rw [e] at hrun
      simp [execOp, hop, hrun]
    · cases h
  · rename_i T n ps hop
    split at h
    · rename_i l hl
      obtain ⟨r, w', ρ', hrun, hg⟩ := buildSliceEv_ok h hM hF (evParts_ok hev _ _ hl) (evParts_ids hfr hl)
      have e : (ps.toList.map fun (x : Nat × Operand) => (x.1, a.eval x.2)).toArray = ps.map fun (i, x) => (i, a.eval x) := by
        apply Array.ext'; simp
      refine full ?_ hg
      rw [e] at hrun
      simp [execOp, hop, hrun]
    · cases h
  · rename_i T x hop
    split at h
    · rename_i v hv
      obtain ⟨v', r, he, hr, hrun⟩ := loadEv_ok h ho hMs hM (evw_ok hev hv)
      exact val he hr (by simp [execOp, hop, hrun])
    · cases h
  · rename_i T x v hop
    split at h
    · rename_i xv vv hx hv
      obtain ⟨w', hrun, hg⟩ := storeEv_ok (base := base) h ho hMs hM (evw_ok hev hx) (evw_ok hev hv)
      exact Does.of_skip (by simp [execOp, hop, hrun]) ⟨ρ, hg⟩
    · cases h
  · rename_i x hop
    split at h
    · rename_i id off hx
      have hc := hev x _ hx
      simp only [RV, RW, RC] at hc
      exact same hx (by simp [execOp, hop, hc]) h
    · rename_i f c hx
      have hc := hev x _ hx
      simp only [RV, RW, RC] at hc
      exact same hx (by simp [execOp, hop, hc]) h
    · rename_i f b c hx
      have hc := hev x _ hx
      simp only [RV, RW, RC] at hc
      exact same hx (by simp [execOp, hop, hc]) h
    · cases h
  · rename_i op T x y yt hop
    split at h
    · rename_i xv yv hx hy
      obtain ⟨v, r, he, hr, hg, hrun⟩ := binEv_ok hT (w := w) (ox := x) (oy := y) h ho (evw_ok hev hx) (evw_ok hev hy)
      exact val he hr (by simp [execOp, hop, hg, hrun])
    · cases h
  · rename_i op T x hop
    split at h
    · rename_i xv hx
      obtain ⟨v, r, he, hr, hrun⟩ := unEv_ok (P := P) h (evw_ok hev hx)
      exact val he hr (by simp [execOp, hop, hrun])
    · cases h
  · rename_i s d x hop
    split at h
    · rename_i xv hx
      obtain ⟨r, w', ρ', hrun, hg⟩ := convEv_ok h ho hMs hM hF (evw_ok hev hx)
      exact full (by simp [execOp, hop, hrun]) hg
    · cases h
  · rename_i f first caps hop
    split at h
    · rename_i us vs hu hv
      obtain ⟨v, he, hr⟩ := makeFuncEv_ok h (evws_ok hev hu) (evws_ok hev hv)
      refine val he hr ?_
      simp [execOp, hop, Instr.makeFunc]
      exact ⟨by apply Array.ext'; simp, by apply Array.ext'; simp⟩
    · cases h
  · rename_i T l c hop
    split at h
    · rename_i lv cv hl hc
      obtain ⟨r, w', ρ', hrun, hg⟩ := makeSliceEv_ok h ho hM hF (evw_ok hev hl) (evw_ok hev hc)
      exact full (by simp [execOp, hop, hrun]) hg
    · cases h
  · rename_i T x lo hi mx hop
    split at h
    · rename_i xv hx
      obtain ⟨v, r, he, hr, hrun⟩ := sliceEv_ok h ho hMs hM (evw_ok hev hx) hev
      exact val he hr (by simp [execOp, hop, hrun])
    · cases h
  · rename_i T x f hop
    split at h
    · rename_i xv hx
      obtain ⟨v, r, he, hr, hrun⟩ := fieldAddrEv_ok h (evw_ok hev hx)
      exact val he hr (by simp [execOp, hop, hrun])
    · cases h
  · rename_i T x f hop
    split at h
    · rename_i xv hx
      obtain ⟨v, r, he, hr, hrun⟩ := fieldEv_ok h (evw_ok hev hx)
      exact val he hr (by simp [execOp, hop, hrun])
    · cases h
  · rename_i T x i hop
    split at h
    · rename_i xv iv hx hi
      obtain ⟨v, r, he, hr, hrun⟩ := indexAddrEv_ok h ho hMs hM (evw_ok hev hx) (evw_ok hev hi)
      exact val he hr (by simp [execOp, hop, hrun])
    · cases h
  · rename_i T x i hop
    split at h
    · rename_i xv iv hx hi
      obtain ⟨v, r, he, hr, hrun⟩ := indexEv_ok h ho (evw_ok hev hx) (evw_ok hev hi)
      exact val he hr (by simp [execOp, hop, hrun])
    · cases h
  · rename_i x i hop
    split at h
    · rename_i l hx
      split at h
      · rename_i wv hw
        have hc := hev x _ hx
        obtain ⟨vs, hvs, hl⟩ := hc
        obtain ⟨b, hb, hr⟩ := hl.get i wv hw
        simp only [out1, Option.some.injEq] at h
        exact val h.symm hr (by simp [execOp, hop, hvs, Instr.extract, hb])
      · cases h
    · cases h
  · rename_i b args ts hop
    split at h
    · rename_i l hl
      obtain ⟨r, w', ρ', hrun, hg⟩ := builtinEv_ok o.type (args.map fun | .const _ => true | _ => false) h ho hMs hM hF (evws_ok hev hl)
      refine full ?_ hg
      have e : (args.toList.map a.eval).toArray = args.map a.eval := by apply Array.ext'; simp
      rw [e] at hrun
      simp only [execOp, hop, resolve, invoke, Sem.run_bind, Sem.run_pure, Result.andThen_ok]
      exact hrun
    · cases h
  · rename_i f args ts hop
    split at h
    · rename_i fv as hf ha
      exact callEv_ok hT hop h ho hMs hM hF (evw_ok hev hf) (evws_ok hev ha) (evw_ids hfr hf) (evws_ids hfr ha)
    · cases h
  · cases h

end Sx
