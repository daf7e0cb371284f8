/- The symbolic executor, part F: the operations on memory are right. -/
import Derived.Test.YtmjejlbmcefaoaaSxE
namespace Sx
open Go Go.RowKit

theorem RW.size {ρ : Env} {x : W} {y : Value} (h : RW ρ x y) (hf : x.flat = true) : y.cells.size = x.cells.length := by
  have := (h.cells hf).length
  simpa using this.symm

theorem run_storeVar {P : Program} {T : TypeId} {i : TypeInfo} (hi : P.info? T = some i) (a : Addr) (v : Value) (hn : v.cells.size = P.cellsOf T) (w : World) :
    (storeVar T a v).run P w = (storeCells a v.cells.toList).run P w := by
  unfold storeVar
  simp [run_sizeOf' hi, hn]

theorem storeEv_ok {P : Program} {M M0 : Mem} {T : TypeId} {x v : W} {out : Out} {ρ : Env} {w : World} {y z : Value} {base : Nat} (h : storeEv P M0 T x v = some out) (ho : ∀ b ∈ out.obs, b = true)
    (hMs : ∀ id b, M0 id = some b → M id = some b) (hM : MemOk P ρ M w) (hx : RW ρ x y) (hv : RW ρ v z) :
    ∃ w', (Instr.storeAt T y z).run P w = .ok () w' ∧ Good P ρ ρ M base out w w' undef := by
  unfold storeEv at h
  cases hp : wPlace x with
  | none => simp [hp] at h
  | some p =>
    obtain ⟨id, off⟩ := p
    simp only [hp] at h
    cases hid : M0 id with
    | none => simp [hid] at h
    | some blk =>
      simp only [hid] at h
      have hid' := hMs _ _ hid
      have hrel := hM.rel id blk hid'
      have hy := wPlace_ok hp hx
      subst hy
      cases hc : (blk.mode.writes && hasT P T && Nat.blt 0 (P.cellsOf T)) with
      | false => simp [hc] at h
      | true =>
        simp only [hc, cond_true] at h
        simp only [Bool.and_eq_true, Nat.blt_eq] at hc
        obtain ⟨⟨hmode, hh⟩, hpos⟩ := hc
        obtain ⟨i, hi⟩ := info_of_hasT hh
        have main : ∀ k' : K, z.cells.size = P.cellsOf T → (∀ read, blk.k.Is ρ read → k'.Is ρ (fun i => if off ≤ i ∧ i < off + z.cells.toList.length then z.cells.toList[i - off]? else read i)) → k'.len = blk.k.len →
            off + z.cells.toList.length ≤ blk.k.len → (∀ u ∈ z.cells.toList, u.oneCell' = true) → ∀ obs,
            ∃ w', (Instr.storeAt T (.pointer (some ⟨ρ.b id, ρ.o id + off, none⟩)) z).run P w = .ok () w' ∧ Good P ρ ρ M base ⟨none, [(id, some { blk with k := k' })], obs⟩ w w' undef := by
          intro k' hsz hk hlen hfit hone obs
          obtain ⟨hlive, w', hrun, hrel', hs, hoth, hos, htp, hout⟩ := hrel.write hmode hk hlen (by simp; omega) hfit hone
          refine ⟨w', ?_, Good.write hM hid' hlive rfl hs hoth hos htp hout (by simp) hrel'⟩
          simp only [Instr.storeAt, Instr.sureAddr, Sem.run_bind, Sem.run_pure, Result.andThen_ok, run_storeVar hi _ _ hsz, hrun]
        have fall : (match (bif v.flat then blk.k.sets off 0 v.cells else none) with
              | some (k', o) => some (⟨none, [(id, some { blk with k := k' })], Nat.beq v.cells.length (P.cellsOf T) :: o⟩ : Out)
              | none => none) = some out → ∃ w', (Instr.storeAt T (.pointer (some ⟨ρ.b id, ρ.o id + off, none⟩)) z).run P w = .ok () w' ∧ Good P ρ ρ M base out w w' undef := by
          intro h
          cases hf : v.flat with
          | false => simp [hf] at h
          | true =>
            simp only [hf, cond_true] at h
            cases hs : blk.k.sets off 0 v.cells with
            | none => simp [hs] at h
            | some q =>
              obtain ⟨k', o⟩ := q
              simp only [hs, Option.some.injEq] at h
              subst h
              have hsz : v.cells.length = P.cellsOf T := by simpa using ho _ (List.mem_cons_self ..)
              have hzs := hv.size hf
              have ho' : ∀ b ∈ o, b = true := fun b hb => ho b (List.mem_cons_of_mem _ hb)
              have hkk := fun read (hr : blk.k.Is ρ read) => K.sets_ok v.cells z.cells.toList blk.k k' read off 0 o hr hs ho' (hv.cells hf)
              obtain ⟨_, hl, hfit, hone⟩ := hkk _ hrel.cells
              exact main k' (by omega) (fun read hr => by have := (hkk read hr).1; simpa using this) hl (by have := hfit (by simp; omega); simpa using this) hone _
        split at h
        · rename_i k l
          simp only [Option.some.injEq] at h
          subst h
          have h1 : l.length = P.cellsOf T := by simpa using ho _ (List.mem_cons_self ..)
          have h2 : l.length = blk.k.len := by simpa using ho _ (List.mem_cons_of_mem _ (List.mem_singleton.2 rfl))
          simp only [RW] at hv
          subst hv
          refine main (.ints k l) (by simpa [Value.cells] using h1) (fun read _ => ?_) h2 (by simp [Value.cells, h2]) (by simp [Value.cells]; intro a _; rfl) _
          intro i hi
          simp only [Value.cells, List.length_map, Nat.zero_add, Nat.zero_le, true_and, hi, if_true, Nat.sub_zero]
          simp [List.getD, hi]
        · exact fall h

theorem zeroOf_ok {P : Program} {T : TypeId} {cs : List Value} (h : zeroOf P T = some cs) : ∃ v, (∀ w, (zeroValue T).run P w = .ok v w) ∧ v.cells.toList = cs := by
  unfold zeroOf at h
  cases hi : P.info? T with
  | none => simp [hi] at h
  | some i =>
    simp only [hi] at h
    cases hz : i.zero with
    | none => simp [hz] at h
    | some v =>
      simp only [hz, Option.some.injEq] at h
      exact ⟨v, fun w => by simp [zeroValue, typeInfo, hi, hz], h⟩

theorem toInts_ok {k : IntKind} : ∀ (cs : List Value) (l : List Int), toInts k cs = some l → cs = l.map (Value.int k)
  | [], l, h => by simp [toInts] at h; subst h; rfl
  | .int k' n :: r, l, h => by
    simp only [toInts] at h
    cases hk : kEq k k' with
    | false => simp [hk] at h
    | true =>
      simp only [hk, cond_true] at h
      cases hr : toInts k r with
      | none => simp [hr] at h
      | some l' =>
        simp [hr] at h
        subst h
        have := toInts_ok r l' hr
        simp [kEq] at hk
        simp [this, hk]
  | .bool _ :: _, _, h | .float _ _ :: _, _, h | .complex _ _ _ :: _, _, h | .string _ :: _, _, h | .pointer _ :: _, _, h | .slice _ _ _ :: _, _, h | .map _ :: _, _, h | .chan _ :: _, _, h
  | .func _ _ _ :: _, _, h | .nilFunc :: _, _, h | .iface _ _ :: _, _, h | .nilIface :: _, _, h | .agg _ :: _, _, h | .tuple _ :: _, _, h => by simp [toInts] at h

theorem K.Is.lits (ρ : Env) (cs : List Value) : K.Is ρ (.cs (cs.map C.v)) (fun i => cs[i]?) := by
  intro i c hc
  rw [List.getElem?_map] at hc
  cases h : cs[i]? with
  | none => simp [h] at hc
  | some v => simp [h] at hc; subst hc; exact ⟨v, h, rfl⟩

theorem K.Is.intl (ρ : Env) (k : IntKind) (l : List Int) : K.Is ρ (.ints k l) (fun i => (l.map (Value.int k))[i]?) := by
  intro i hi
  simp [List.getD, hi]

theorem kOfZero_ok (ρ : Env) (cs : List Value) : K.Is ρ (kOfZero cs) (fun i => cs[i]?) := by
  unfold kOfZero
  cases Nat.blt 16 cs.length with
  | false => exact K.Is.lits ρ cs
  | true =>
    simp only [cond_true]
    split
    · rename_i k n r
      split
      · rename_i l hl
        have := toInts_ok _ _ hl
        rw [this]
        exact K.Is.intl ρ k l
      · exact K.Is.lits ρ _
    · exact K.Is.lits ρ cs

/-- a block that has just been made. -/
theorem BlkRel.made {P : Program} {ρ : Env} {base : Nat} {u : Value} {w : World} {T : TypeId} {arr : Array Value} {k : K}
    (hk : K.Is (ρ.set base w.heap.size u) k (fun i => arr[i]?)) : BlkRel P (ρ.set base w.heap.size u) base ⟨T, .rw, k⟩ (w.alloc (.cells arr T)) := by
  refine ⟨arr, ⟨(0, 0), ?_, by intro i _ h; simp at h⟩, ?_⟩
  · simp only [Env.set, if_true]
    exact heap_alloc_new w _
  · simpa [Env.set] using hk

theorem allocEv_ok {P : Program} {M : Mem} {T : TypeId} {out : Out} {ρ : Env} {w : World} {base : Nat} (h : allocEv P base T = some out)
    (hM : MemOk P ρ M w) (hF : Fresh M base) : ∃ y w' ρ', (Instr.alloc T true (.tuple #[])).run P w = .ok y w' ∧ Good P ρ ρ' M base out w w' y := by
  unfold allocEv at h
  cases hz : zeroOf P T with
  | none => simp [hz] at h
  | some cs =>
    simp only [hz, Option.some.injEq] at h
    subst h
    obtain ⟨v, hv, hcs⟩ := zeroOf_ok hz
    refine ⟨.pointer (some ⟨w.heap.size, 0, none⟩), w.alloc (.cells v.cells T), ρ.set base w.heap.size .nilFunc, ?_, ?_⟩
    · simp [Instr.alloc, hv, newVar, newRow]
    · refine Good.alloc hM hF (by simp) (fun k hk => Below.heap_alloc w _ k hk) rfl rfl rfl ?_ (by simp [Blk.ro]) ?_
      · rintro v' ⟨⟩
        simp [RV, RW, RC, Env.set]
      · refine BlkRel.made ((kOfZero_ok _ cs).read fun i y _ hy => ?_)
        rw [← hcs] at hy
        simpa using hy

theorem W.k_ok {ρ : Env} {x : W} {y : Value} (h : RW ρ x y) (hf : x.flat = true) : K.Is ρ x.k (fun i => y.cells[i]?) := by
  have hc := h.cells hf
  have key : K.Is ρ (.cs x.cells) (fun i => y.cells[i]?) := by
    intro i c hi
    obtain ⟨b, hb, hr⟩ := hc.get i c hi
    exact ⟨b, by simpa using hb, hr⟩
  cases x with
  | c x => exact key
  | agg l => exact key
  | ints k l =>
    simp only [RW] at h
    subst h
    intro i hi
    simp [Value.cells, List.getD, hi]

theorem W.k_ids (x : W) : x.k.ids = x.ids := by
  cases x <;> simp [W.k, K.ids, W.ids]

theorem boxEv_ok {P : Program} {M : Mem} {T : TypeId} {x : W} {out : Out} {ρ : Env} {w : World} {base : Nat} {y : Value} (h : boxEv base T x = some out)
    (hM : MemOk P ρ M w) (hF : Fresh M base) (hx : RW ρ x y) (hfr : ∀ id ∈ x.ids, ¬ inR base id) :
    ∃ r w' ρ', (Instr.box T y).run P w = .ok r w' ∧ Good P ρ ρ' M base out w w' r := by
  unfold boxEv at h
  cases hf : x.flat with
  | false => simp [hf] at h
  | true =>
  simp only [hf, cond_true, Option.some.injEq] at h
  subst h
  refine ⟨.pointer (some ⟨w.heap.size, 0, none⟩), w.alloc (.cells y.cells T), ρ.set base w.heap.size .nilFunc, ?_, ?_⟩
  · simp [Instr.box, newVar, newRow]
  · refine Good.alloc hM hF (by simp) (fun k hk => Below.heap_alloc w _ k hk) rfl rfl rfl ?_ (by simp [Blk.ro]) ?_
    · rintro v' ⟨⟩
      simp [RV, RW, RC, Env.set]
    · refine BlkRel.made ((W.k_ok hx hf).env fun id hid => ?_)
      rw [W.k_ids] at hid
      exact Env.set_same fun e => hfr id hid (e ▸ ⟨Nat.le_refl _, by omega⟩)

end Sx
