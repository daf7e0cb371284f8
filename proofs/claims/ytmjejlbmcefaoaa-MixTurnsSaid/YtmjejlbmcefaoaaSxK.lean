/- The symbolic executor, part K: make, conversions, len, comparisons, calls. -/
import Derived.Test.YtmjejlbmcefaoaaSxJ
namespace Sx
open Go Go.RowKit

theorem makeSliceEv_ok {P : Program} {M : Mem} {T : TypeId} {l c : W} {out : Out} {ρ : Env} {w : World} {base : Nat} {y z : Value} (h : makeSliceEv P base T l c = some out) (ho : ∀ b ∈ out.obs, b = true)
    (hM : MemOk P ρ M w) (hF : Fresh M base) (hl : RW ρ l y) (hc : RW ρ c z) :
    ∃ r w' ρ', (Instr.makeSlice T y z).run P w = .ok r w' ∧ Good P ρ ρ' M base out w w' r := by
  unfold makeSliceEv at h
  split at h
  · rename_i k1 l k2 c
    simp only [RW, RC] at hl hc
    subst hl; subst hc
    split at h
    · rename_i e he
      split at h
      · rename_i k z0 hz0
        cases hb : (Nat.beq (P.cellsOf e) 1 && Nat.ble (P.bytesOf e) 16) with
        | false => simp [hb] at h
        | true =>
          simp only [hb, cond_true, Option.some.injEq] at h
          subst h
          simp only [Bool.and_eq_true, Nat.ble_eq] at hb
          obtain ⟨hc1, hby⟩ := hb
          have hc1 : P.cellsOf e = 1 := by simpa using hc1
          simp only [List.forall_mem_cons, decide_eq_true_eq] at ho
          obtain ⟨o1, o2, o3, _⟩ := ho
          unfold zeroOf at hz0
          cases hi : P.info? e with
          | none => simp [hi] at hz0
          | some ie =>
            simp only [hi] at hz0
            cases hz : ie.zero with
            | none => simp [hz] at hz0
            | some zv =>
              simp only [hz, Option.some.injEq] at hz0
              have hsz : ie.size = 1 := by simpa [Program.cellsOf, hi] using hc1
              have hby' : ie.bytes ≤ 16 := by simpa [Program.bytesOf, hi] using hby
              have hzc : zv.cells = #[.int k z0] := by
                apply Array.ext'
                simpa using hz0
              have hbc : (ie.bytes : Int) * c ≤ 281474976710656 := by
                have h1 : (ie.bytes : Int) * c ≤ 16 * c := Int.mul_le_mul_of_nonneg_right (by omega) (by omega)
                omega
              have hr := run_make (P := P) w T e ie zv (elemOfSlice_ok he) hi hz k1 k2 l c o1 o2 hbc (by omega)
              have hlive : ∀ (i : Nat) (v : Value), (List.replicate l.toNat (Value.int k z0))[i]? = some v → v = Value.int k z0 := by
                intro i v hv
                rw [List.getElem?_replicate] at hv
                split at hv
                · simpa using hv.symm
                · cases hv
              refine ⟨_, _, ρ.set base w.heap.size (.slice (some ⟨w.heap.size, 0, none⟩) l.toNat c.toNat), hr,
                Good.own (oid := none) (n := l.toNat) hM hF rfl (by simp) (by simp) (fun k hk _ => Below.heap_alloc w _ k hk) rfl rfl rfl rfl ?_ (fun _ => .inl (Nat.le_refl _))⟩
              unfold BlkRel
              simp only
              refine ⟨by simp [Env.set], by simp [Env.set, Value.ownBlock], List.replicate l.toNat (Value.int k z0), ?_, by simp [K.len], ?_⟩
              · simp only [Env.set, if_true, hc1]
                refine ⟨by simp, .inr ⟨w.heap.size, c.toNat, madeCells zv.cells (c.toNat * ie.size), rfl, Nat.zero_le _, heap_alloc_new w _, by omega, by unfold maxLen; omega, by rw [size_madeCells, hsz], ?_⟩⟩
                rw [hzc, hsz]
                apply List.ext_getElem?
                intro i
                rw [List.getElem?_take, List.getElem?_replicate]
                by_cases hi' : i < l.toNat
                · have hic : i < c.toNat := by omega
                  simp [madeCells, hi', hic, Nat.mod_one]
                · simp [hi']
              · intro i hi'
                simp only [List.length_replicate] at hi'
                simp [List.getElem?_replicate, hi', List.getD]
      · cases h
    · cases h
  · cases h

theorem lenEv_ok {P : Program} {M M0 : Mem} {T ty : TypeId} {ts : Array TypeId} {x : W} {out : Out} {ρ : Env} {w : World} {y : Value} (hT : ts[0]? = some T) (h : lenEv P M0 T x = some out)
    (hMs : ∀ id b, M0 id = some b → M id = some b) (hM : MemOk P ρ M w) (hx : RW ρ x y) :
    ∃ v r, out = ⟨some v, [], []⟩ ∧ RV ρ v r ∧ (Builtin.len_ ts ty #[y]).run P w = .ok r w := by
  unfold lenEv at h
  split at h
  · rename_i hu
    split at h
    · rename_i s
      simp only [out1, Option.some.injEq] at h
      subst h
      simp only [RW, RC] at hx
      subst hx
      exact ⟨_, .int .i64 s.size, rfl, rfl, by simp [Builtin.len_, hT, run_underlying hu, goInt]⟩
    · cases h
  · rename_i n e hu
    simp only [out1, Option.some.injEq] at h
    subst h
    exact ⟨_, .int .i64 n, rfl, rfl, by simp [Builtin.len_, hT, run_underlying hu, goInt]⟩
  · rename_i e hu
    split at h
    · simp only [out1, Option.some.injEq] at h
      subst h
      simp only [RW, RC] at hx
      subst hx
      exact ⟨_, .int .i64 0, rfl, rfl, by simp [Builtin.len_, hT, run_underlying hu, goInt]⟩
    · rename_i c _
      split at h
      · rename_i id off n hs
        simp only [out1, Option.some.injEq] at h
        subst h
        obtain ⟨a, cap, rfl, _, _⟩ := C.slice_ok hs hMs hM hx
        exact ⟨_, .int .i64 n, rfl, rfl, by simp [Builtin.len_, hT, run_underlying hu, goInt]⟩
      · cases h
    · cases h
  · cases h

theorem kEq_ok {a b : IntKind} (h : kEq a b = true) : a = b := by simpa [kEq] using h

theorem intOp_ok {op : BinOp} {k : IntKind} {a b : Int} {v : V} {o : List Bool} {ρ : Env} (h : intOp op k a b = some (v, o)) (ho : ∀ b ∈ o, b = true) (T : TypeId) :
    ∃ r, RV ρ v r ∧ binOp op T (.int k a) (.int k b) = pure r := by
  unfold intOp at h
  split at h <;> (try simp only [Option.some.injEq, Prod.mk.injEq] at h) <;> try (obtain ⟨rfl, rfl⟩ := h)
  all_goals first
    | (refine ⟨_, rfl, ?_⟩; simp [binOp, Op.intArith]; done)
    | (refine ⟨_, rfl, ?_⟩; simp [binOp, Op.intBits]; done)
    | (refine ⟨_, rfl, ?_⟩; simp [binOp, Op.intCmp]; done)
    | (have hb : b ≠ 0 := (by have := ho _ (List.mem_singleton.2 rfl); simpa using this)
       refine ⟨_, rfl, ?_⟩; simp [binOp, Op.intDiv, hb]; done)
    | (cases h)

theorem shOp_ok {op : BinOp} {k : IntKind} {a b : Int} {yk : IntKind} {v : V} {o : List Bool} {ρ : Env} (h : shOp op k a b = some (v, o)) (ho : ∀ b ∈ o, b = true) (T : TypeId) :
    ∃ r, RV ρ v r ∧ binOp op T (.int k a) (.int yk b) = pure r := by
  unfold shOp at h
  split at h <;> (try simp only [Option.some.injEq, Prod.mk.injEq] at h) <;> try (obtain ⟨rfl, rfl⟩ := h)
  all_goals first
    | (have hb : 0 ≤ b := by have := ho _ (List.mem_singleton.2 rfl); simpa using this
       have hb' : ¬ b < 0 := by omega
       exact ⟨_, rfl, by simp [binOp, Op.shift, hb']⟩)
    | (cases h)

theorem strOp_ok {P : Program} {op : BinOp} {a b : ByteArray} {v : V} {o : List Bool} {ρ : Env} (h : strOp op a b = some (v, o)) (ho : ∀ b ∈ o, b = true) (T : TypeId) (w : World) :
    ∃ r, RV ρ v r ∧ (binOp op T (.string a) (.string b)).run P w = .ok r w := by
  unfold strOp at h
  split at h <;> (try simp only [Option.some.injEq, Prod.mk.injEq] at h) <;> try (obtain ⟨rfl, rfl⟩ := h)
  · have hb : a.size + b.size ≤ 9223372036854775807 := by have := ho _ (List.mem_singleton.2 rfl); simpa using this
    have hb' : ¬ (9223372036854775807 < (a.size : Int) + (b.size : Int)) := by omega
    exact ⟨_, rfl, by simp [binOp, Op.stringOp, hb']⟩
  · exact ⟨_, rfl, by simp [binOp, Op.stringOp]⟩
  · exact ⟨_, rfl, by simp [binOp, Op.stringOp]⟩

theorem eqGuard_int {P : Program} {op : BinOp} {T : TypeId} {x y : Operand} {k : IntKind} {n : Int} {v : Value} {w : World} : (eqGuard op T x y (.int k n) v).run P w = .ok () w := by
  rw [eqGuard_at_int]; rfl
theorem eqGuard_str {P : Program} {op : BinOp} {T : TypeId} {x y : Operand} {s : ByteArray} {v : Value} {w : World} : (eqGuard op T x y (.string s) v).run P w = .ok () w := by
  rw [eqGuard_at_string]; rfl
theorem eqGuard_bool {P : Program} {op : BinOp} {T : TypeId} {x y : Operand} {s : Bool} {v : Value} {w : World} : (eqGuard op T x y (.bool s) v).run P w = .ok () w := by
  rw [eqGuard_at_bool]; rfl
theorem eqGuard_ptr {P : Program} {op : BinOp} {T : TypeId} {x y : Operand} {s : Option Addr} {v : Value} {w : World} : (eqGuard op T x y (.pointer s) v).run P w = .ok () w := by
  rw [eqGuard_at_pointer]; rfl
theorem eqGuard_agg {P : Program} {op : BinOp} {T : TypeId} {x y : Operand} {s u : Array Value} {w : World} (h : P.eqGuardType P.depth T = false) : (eqGuard op T x y (.agg s) (.agg u)).run P w = .ok () w := by
  cases op <;> simp [eqGuard, h]

theorem isEq_ok {op : BinOp} (h : isEq op = true) : op = .eql := by cases op <;> first | rfl | simp [isEq] at h
theorem isNe_ok {op : BinOp} (h : isNe op = true) : op = .neq := by cases op <;> first | rfl | simp [isNe] at h

/-- '==' and '!=' out of 'equal'. -/
theorem eqNe {P : Program} {op : BinOp} {T : TypeId} {y z : Value} {b : Bool} {w : World} {out : Out} (h : (bif isEq op then out1 (V.bool b) else bif isNe op then out1 (V.bool (!b)) else none) = some out)
    (hb : ∀ o, (o = .eql ∨ o = .neq) → binOp o T y z = (if o = .eql then (do pure (.bool (← Op.equal T y z))) else (do pure (.bool (!(← Op.equal T y z))))))
    (he : (Op.equal T y z).run P w = .ok b w) (ρ : Env) : ∃ v r, out = ⟨some v, [], []⟩ ∧ RV ρ v r ∧ (binOp op T y z).run P w = .ok r w := by
  cases h1 : isEq op with
  | true =>
    have := isEq_ok h1
    subst this
    simp only [h1, cond_true, out1, Option.some.injEq] at h
    subst h
    exact ⟨_, .bool b, rfl, rfl, by rw [hb _ (.inl rfl)]; simp [he]⟩
  | false =>
    cases h2 : isNe op with
    | false => simp [h1, h2] at h
    | true =>
      have := isNe_ok h2
      subst this
      simp only [h1, h2, cond_true, cond_false, out1, Option.some.injEq] at h
      subst h
      exact ⟨_, .bool (!b), rfl, rfl, by rw [hb _ (.inr rfl)]; simp [he]⟩

theorem isPtrT_ok {P : Program} {T : TypeId} (h : isPtrT P T = true) : ∃ e, P.underlying T = some (.pointer e) := by
  unfold isPtrT at h
  split at h
  · exact ⟨_, by assumption⟩
  · cases h
theorem isBoolT_ok {P : Program} {T : TypeId} (h : isBoolT P T = true) : P.underlying T = some .bool := by
  unfold isBoolT at h
  split at h
  · assumption
  · cases h

theorem equalIn_bool {P : Program} {T : TypeId} {a b : Bool} {w : World} (hu : P.underlying T = some .bool) (d : Nat) : (Op.equalIn (d + 1) T (.bool a) (.bool b)).run P w = .ok (a == b) w := by
  simp only [Op.equalIn, Sem.run_bind, run_underlying hu, Result.andThen_ok, Sem.run_pure]
theorem equal_bool {P : Program} {T : TypeId} {a b : Bool} {w : World} (hu : P.underlying T = some .bool) : (Op.equal T (.bool a) (.bool b)).run P w = .ok (a == b) w :=
  equalIn_bool hu 9999
theorem equalIn_ptr_nil {P : Program} {T e : TypeId} {a : Addr} {w : World} (hu : P.underlying T = some (.pointer e)) (d : Nat) : (Op.equalIn (d + 1) T (.pointer (some a)) (.pointer none)).run P w = .ok false w := by
  simp only [Op.equalIn, Sem.run_bind, run_underlying hu, Result.andThen_ok, Sem.run_pure]
theorem equal_ptr_nil {P : Program} {T e : TypeId} {a : Addr} {w : World} (hu : P.underlying T = some (.pointer e)) : (Op.equal T (.pointer (some a)) (.pointer none)).run P w = .ok false w :=
  equalIn_ptr_nil hu 9999
theorem equalIn_nil_nil {P : Program} {T e : TypeId} {w : World} (hu : P.underlying T = some (.pointer e)) (d : Nat) : (Op.equalIn (d + 1) T (.pointer none) (.pointer none)).run P w = .ok true w := by
  simp [Op.equalIn, run_underlying hu]
theorem equal_nil_nil {P : Program} {T e : TypeId} {w : World} (hu : P.underlying T = some (.pointer e)) : (Op.equal T (.pointer none) (.pointer none)).run P w = .ok true w :=
  equalIn_nil_nil hu 9999

theorem binEv_ok {P : Program} {tab : Tab} (hT : TabOk P tab) {op : BinOp} {T : TypeId} {x y : W} {out : Out} {ρ : Env} {w : World} {u v : Value} {ox oy : Operand} (h : binEv P tab op T x y = some out) (ho : ∀ b ∈ out.obs, b = true)
    (hx : RW ρ x u) (hy : RW ρ y v) :
    ∃ v' r, out = ⟨some v', [], out.obs⟩ ∧ RV ρ v' r ∧ (eqGuard op T ox oy u v).run P w = .ok () w ∧ (binOp op T u v).run P w = .ok r w := by
  unfold binEv at h
  split at h
  · rename_i k a k' b
    simp only [RW, RC] at hx hy
    subst hx; subst hy
    cases hs : isSh op with
    | true =>
      simp only [hs, cond_true] at h
      split at h
      · rename_i v o hv
        simp only [outo, Option.some.injEq] at h
        subst h
        obtain ⟨r, hr, hrun⟩ := shOp_ok (ρ := ρ) (yk := k') hv ho T
        exact ⟨_, r, rfl, hr, eqGuard_int, by rw [hrun]; rfl⟩
      · cases h
    | false =>
      simp only [hs, cond_false] at h
      cases hk : kEq k k' with
      | false => simp [hk] at h
      | true =>
        simp only [hk, cond_true] at h
        have := kEq_ok hk
        subst this
        split at h
        · rename_i v o hv
          simp only [outo, Option.some.injEq] at h
          subst h
          obtain ⟨r, hr, hrun⟩ := intOp_ok (ρ := ρ) hv ho T
          exact ⟨_, r, rfl, hr, eqGuard_int, by rw [hrun]; rfl⟩
        · cases h
  · rename_i a b
    simp only [RW, RC] at hx hy
    subst hx; subst hy
    split at h
    · rename_i v o hv
      simp only [outo, Option.some.injEq] at h
      subst h
      obtain ⟨r, hr, hrun⟩ := strOp_ok (P := P) (ρ := ρ) hv ho T w
      exact ⟨_, r, rfl, hr, eqGuard_str, hrun⟩
    · cases h
  · rename_i a b
    simp only [RW, RC] at hx hy
    subst hx; subst hy
    cases hb : isBoolT P T with
    | false => simp [hb] at h
    | true =>
      simp only [hb, cond_true] at h
      obtain ⟨v', r, he, hr, hrun⟩ := eqNe (P := P) (T := T) (y := .bool a) (z := .bool b) (w := w) h (by rintro o (rfl | rfl) <;> simp [binOp]) (equal_bool (isBoolT_ok hb)) ρ
      subst he
      exact ⟨_, r, rfl, hr, eqGuard_bool, hrun⟩
  · simp only [RW, RC] at hx hy
    subst hx; subst hy
    cases hb : isPtrT P T with
    | false => simp [hb] at h
    | true =>
      simp only [hb, cond_true] at h
      obtain ⟨e, hu⟩ := isPtrT_ok hb
      obtain ⟨v', r, he, hr, hrun⟩ := eqNe (P := P) (T := T) (y := .pointer (some _)) (z := .pointer none) (b := false) (w := w) h (by rintro o (rfl | rfl) <;> simp [binOp]) (equal_ptr_nil hu) ρ
      subst he
      exact ⟨_, r, rfl, hr, eqGuard_ptr, hrun⟩
  · simp only [RW, RC] at hx hy
    subst hx; subst hy
    cases hb : isPtrT P T with
    | false => simp [hb] at h
    | true =>
      simp only [hb, cond_true] at h
      obtain ⟨e, hu⟩ := isPtrT_ok hb
      obtain ⟨v', r, he, hr, hrun⟩ := eqNe (P := P) (T := T) (y := .pointer none) (z := .pointer none) (b := true) (w := w) h (by rintro o (rfl | rfl) <;> simp [binOp]) (equal_nil_nil hu) ρ
      subst he
      exact ⟨_, r, rfl, hr, eqGuard_ptr, hrun⟩
  · rename_i l m
    cases hb : codesOk (tab.eqs T) l with
    | false => simp [hb] at h
    | true =>
      simp only [hb, cond_true] at h
      split at h
      · rename_i b hbc
        obtain ⟨cs, rfl, hl⟩ := hx
        obtain ⟨ds, rfl, hm⟩ := hy
        obtain ⟨h1, h2⟩ := hT.eqs T l m b hb hbc ρ cs ds hl hm w
        obtain ⟨v', r, he, hr, hrun⟩ := eqNe (P := P) (T := T) (w := w) h (by rintro o (rfl | rfl) <;> simp [binOp]) h1 ρ
        subst he
        exact ⟨_, r, rfl, hr, eqGuard_agg h2, hrun⟩
      · cases h
  · cases h

theorem unEv_ok {P : Program} {op : UnOp} {x : W} {out : Out} {ρ : Env} {y : Value} (h : unEv op x = some out) (hx : RW ρ x y) :
    ∃ v r, out = ⟨some v, [], []⟩ ∧ RV ρ v r ∧ ∀ w, (Op.unary op y).run P w = .ok r w := by
  unfold unEv at h
  split at h
  · simp only [RW, RC] at hx; subst hx
    simp only [out1, Option.some.injEq] at h; subst h
    exact ⟨_, _, rfl, rfl, fun w => rfl⟩
  · simp only [RW, RC] at hx; subst hx
    simp only [out1, Option.some.injEq] at h; subst h
    exact ⟨_, _, rfl, rfl, fun w => rfl⟩
  · simp only [RW, RC] at hx; subst hx
    simp only [out1, Option.some.injEq] at h; subst h
    exact ⟨_, _, rfl, rfl, fun w => rfl⟩
  · cases h

end Sx
