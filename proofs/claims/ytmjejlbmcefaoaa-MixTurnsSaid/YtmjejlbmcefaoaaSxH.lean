/- The symbolic executor, part H: the operations that leave memory as it is. -/
import Derived.Test.YtmjejlbmcefaoaaSxG
import Derived.Lib.ConvBytes
namespace Sx
open Go Go.RowKit

theorem fieldOf_ok {P : Program} {T : TypeId} {f fo : Nat} {ft : TypeId} (h : fieldOf P T f = some (fo, ft)) :
    ∃ fields x, P.underlying T = some (.struct fields) ∧ fields[f]? = some x ∧ x.offset = fo ∧ x.type = ft := by
  unfold fieldOf at h
  split at h
  · rename_i fields hu
    split at h
    · rename_i x hx
      simp at h
      exact ⟨fields, x, hu, hx, h.1, h.2⟩
    · cases h
  · cases h

theorem fieldAddrEv_ok {P : Program} {T : TypeId} {x : W} {f : Nat} {out : Out} {ρ : Env} {y : Value} (h : fieldAddrEv P T x f = some out) (hx : RW ρ x y) :
    ∃ v r, out = ⟨some v, [], []⟩ ∧ RV ρ v r ∧ ∀ w, (Instr.fieldAt T y f).run P w = .ok r w := by
  unfold fieldAddrEv at h
  split at h
  · rename_i id off fo ft hp hf
    cases hb : (Nat.beq (P.cellsOf ft) 0 || !(hasT P ft)) with
    | true => simp [hb] at h
    | false =>
      simp only [hb, cond_false, out1, Option.some.injEq] at h
      subst h
      simp only [Bool.or_eq_false_iff, Bool.not_eq_false'] at hb
      obtain ⟨hb1, hb2⟩ := hb
      have hb1 : P.cellsOf ft ≠ 0 := by intro e; simp [e] at hb1
      obtain ⟨i, hi⟩ := info_of_hasT hb2
      obtain ⟨fields, fd, hu, hfd, rfl, rfl⟩ := fieldOf_ok hf
      have hy := wPlace_ok hp hx
      subst hy
      refine ⟨_, .pointer (some ⟨ρ.b id, ρ.o id + (off + fd.offset), none⟩), rfl, rfl, fun w => ?_⟩
      simp [Instr.fieldAt, run_underlying hu, hfd, Instr.sureAddr, fieldPlace, run_sizeOf' hi, hb1, add_at, Nat.add_assoc]
  · cases h

theorem partOf_ok {P : Program} {T : TypeId} {l : List C} {off : Nat} {x : W} {ρ : Env} {cs : List Value} (h : partOf P T l off = some x) (hl : RL (RC ρ) l cs) :
    ∃ r, RW ρ x r ∧ ∀ w, (part T cs.toArray off).run P w = .ok r w := by
  unfold partOf at h
  cases hagg : isAggT P T with
  | true =>
    simp only [hagg, cond_true, Option.some.injEq] at h
    subst h
    have hh := hasT_of_agg hagg
    obtain ⟨i, hi⟩ := info_of_hasT hh
    refine ⟨.agg (cs.toArray.extract off (off + P.cellsOf T)), ⟨(cs.drop off).take (P.cellsOf T), ?_, (hl.drop off).take _⟩, fun w => ?_⟩
    · simp only [List.extract_toArray, List.extract]
      congr 2
      congr 1
      omega
    · simp [part, run_isAgg' hh, hagg, run_sizeOf' hi]
  | false =>
    simp only [hagg, cond_false] at h
    cases hh : hasT P T with
    | false => simp [hh] at h
    | true =>
      simp only [hh, cond_true] at h
      cases hc : l[off]? with
      | none => simp [hc] at h
      | some c =>
        simp only [hc, Option.some.injEq] at h
        subst h
        obtain ⟨b, hb, hr⟩ := hl.get off c hc
        refine ⟨b, hr, fun w => ?_⟩
        simp [part, run_isAgg' hh, hagg, hb]

theorem fieldEv_ok {P : Program} {T : TypeId} {x : W} {f : Nat} {out : Out} {ρ : Env} {y : Value} (h : fieldEv P T x f = some out) (hx : RW ρ x y) :
    ∃ v r, out = ⟨some v, [], []⟩ ∧ RV ρ v r ∧ ∀ w, (Instr.field T y f).run P w = .ok r w := by
  unfold fieldEv at h
  split at h
  · rename_i l fo ft hf
    split at h
    · rename_i x' hp
      simp only [out1, Option.some.injEq] at h
      subst h
      obtain ⟨fields, fd, hu, hfd, rfl, rfl⟩ := fieldOf_ok hf
      obtain ⟨cs, rfl, hl⟩ := hx
      obtain ⟨r, hr, hrun⟩ := partOf_ok hp hl
      refine ⟨_, r, rfl, hr, fun w => ?_⟩
      simp [Instr.field, run_underlying hu, hfd, asAgg, hrun]
    · cases h
  · cases h

theorem inb_ok {i : Int} {n : Nat} {obs : List Bool} (h : ∀ b ∈ obs, b = true) (hi : ∀ b ∈ inb i n, b ∈ obs) : 0 ≤ i ∧ i < (n : Int) := by
  have h1 := h _ (hi (decide (0 ≤ i)) (by simp [inb]))
  have h2 := h _ (hi (decide (i < (n : Int))) (by simp [inb]))
  exact ⟨by simpa using h1, by simpa using h2⟩

/-- a slice's place. -/
theorem C.slice_ok {P : Program} {M M0 : Mem} {c : C} {id off n : Nat} {ρ : Env} {w : World} {y : Value} (h : c.slice M0 = some (id, off, n)) (hMs : ∀ id b, M0 id = some b → M id = some b)
    (hM : MemOk P ρ M w) (hx : RC ρ c y) : ∃ a cap, y = .slice a n cap ∧ n ≤ cap ∧ (0 < n → a = some ⟨ρ.b id, ρ.o id + off, none⟩) := by
  unfold C.slice at h
  split at h
  · simp at h; obtain ⟨rfl, rfl, rfl⟩ := h; exact hx
  · rename_i id'
    split at h
    · rename_i ty n' k hid
      simp at h; obtain ⟨rfl, rfl, rfl⟩ := h
      have hrel := hM.rel id' _ (hMs _ _ hid)
      simp only [BlkRel] at hrel
      obtain ⟨ho, hg, xs, hxs, _⟩ := hrel
      obtain ⟨hy, _⟩ := hx
      subst hy
      rcases hxs.2 with ⟨hv, h0⟩ | ⟨g, cap, cur, hv, _, _, hnc, _⟩
      · exact ⟨none, 0, by rw [hv, h0], by omega, by omega⟩
      · have := hg g (by rw [hv]; rfl)
        subst this
        exact ⟨_, cap, hv, hnc, fun _ => by rw [ho]⟩
    · cases h
  · cases h

theorem indexAddrEv_ok {P : Program} {M M0 : Mem} {T : TypeId} {x i : W} {out : Out} {ρ : Env} {w : World} {y z : Value} (h : indexAddrEv P M0 T x i = some out) (ho : ∀ b ∈ out.obs, b = true)
    (hMs : ∀ id b, M0 id = some b → M id = some b) (hM : MemOk P ρ M w) (hx : RW ρ x y) (hi : RW ρ i z) :
    ∃ v r, out = ⟨some v, [], out.obs⟩ ∧ RV ρ v r ∧ (Instr.indexAt T y z).run P w = .ok r w := by
  unfold indexAddrEv at h
  simp only [spot_eq] at h
  split at h
  · rename_i k i
    simp only [RW, RC] at hi
    subst hi
    split at h
    · rename_i n e hu
      split at h
      · rename_i id off hp
        cases hh : hasT P e with
        | false => simp [hh] at h
        | true =>
          simp only [hh, cond_true, outo, Option.some.injEq] at h
          subst h
          obtain ⟨ie, hie⟩ := info_of_hasT hh
          have hb := inb_ok ho (fun b hb => hb)
          have hy := wPlace_ok hp hx
          subst hy
          refine ⟨_, .pointer (some ⟨ρ.b id, ρ.o id + (off + i.toNat * P.cellsOf e), none⟩), rfl, rfl, ?_⟩
          simp [Instr.indexAt, asIntOf, run_underlying hu, Instr.sureAddr, hb, run_sizeOf' hie, add_at, Nat.add_assoc]
      · cases h
    · rename_i e hu
      split at h
      · rename_i c
        split at h
        · rename_i id off n hs
          cases hh : hasT P e with
          | false => simp [hh] at h
          | true =>
            simp only [hh, cond_true, outo, Option.some.injEq] at h
            subst h
            obtain ⟨ie, hie⟩ := info_of_hasT hh
            have hb := inb_ok ho (fun b hb => hb)
            obtain ⟨a, cap, rfl, hnc, ha⟩ := C.slice_ok hs hMs hM hx
            have := ha (by omega)
            subst this
            refine ⟨_, .pointer (some ⟨ρ.b id, ρ.o id + (off + i.toNat * P.cellsOf e), none⟩), rfl, rfl, ?_⟩
            simp [Instr.indexAt, asIntOf, run_underlying hu, hb, run_sizeOf' hie, add_at, Nat.add_assoc]
        · cases h
      · cases h
    · cases h
  · cases h

theorem indexEv_ok {P : Program} {T : TypeId} {x i : W} {out : Out} {ρ : Env} {y z : Value} (h : indexEv P T x i = some out) (ho : ∀ b ∈ out.obs, b = true)
    (hx : RW ρ x y) (hi : RW ρ i z) :
    ∃ v r, out = ⟨some v, [], out.obs⟩ ∧ RV ρ v r ∧ ∀ w, (Instr.index T y z).run P w = .ok r w := by
  unfold indexEv at h
  split at h
  · rename_i k i
    simp only [RW, RC] at hi
    subst hi
    split at h
    · rename_i hu
      split at h
      · rename_i s
        simp only [outo, Option.some.injEq] at h
        subst h
        have hb := inb_ok ho (fun b hb => hb)
        simp only [RW, RC] at hx
        subst hx
        have hlt : i.toNat < s.size := by omega
        refine ⟨_, .int .u8 (bt s i), rfl, rfl, fun w => ?_⟩
        have hs : s[i.toNat]? = some s[i.toNat] := getElem?_pos s i.toNat hlt
        simp [Instr.index, asIntOf, run_underlying hu, hb, hs, bt]
      · cases h
    · rename_i n e hu
      split at h
      · rename_i l
        split at h
        · rename_i x' hp
          simp only [outo, Option.some.injEq] at h
          subst h
          have hb := inb_ok ho (fun b hb => hb)
          obtain ⟨cs, rfl, hl⟩ := hx
          obtain ⟨r, hr, hrun⟩ := partOf_ok hp hl
          have hh : hasT P e = true := by
            unfold partOf at hp
            cases hagg : isAggT P e with
            | true => exact hasT_of_agg hagg
            | false =>
              simp only [hagg, cond_false] at hp
              cases hh : hasT P e with
              | false => simp [hh] at hp
              | true => rfl
          obtain ⟨ie, hie⟩ := info_of_hasT hh
          refine ⟨_, r, rfl, hr, fun w => ?_⟩
          simp [Instr.index, asIntOf, run_underlying hu, hb, run_sizeOf' hie, hrun]
        · cases h
      · rename_i k l
        cases hc : (Nat.beq (P.cellsOf e) 1 && !(isAggT P e) && hasT P e) with
        | false => simp [hc] at h
        | true =>
          simp only [hc, cond_true, outo, Option.some.injEq] at h
          subst h
          simp only [Bool.and_eq_true, Bool.not_eq_true'] at hc
          obtain ⟨⟨h1, h2⟩, h3⟩ := hc
          have h1 : P.cellsOf e = 1 := by simpa using h1
          have hb := inb_ok ho (fun b hb => List.mem_cons_of_mem _ hb)
          have hlt : i.toNat < l.length := by have := ho _ (List.mem_cons_self ..); simpa [Nat.blt_eq] using this
          simp only [RW] at hx
          subst hx
          obtain ⟨ie, hie⟩ := info_of_hasT h3
          refine ⟨_, .int k (l.getD i.toNat 0), rfl, rfl, fun w => ?_⟩
          simp [Instr.index, asIntOf, run_underlying hu, hb, run_sizeOf' hie, h1, part, run_isAgg' h3, h2, hlt, List.getD]
      · cases h
    · cases h
  · cases h

theorem und_str {P : Program} {T : TypeId} (h : isStrT P T = true) : P.underlying T = some .string := by
  unfold isStrT at h
  split at h
  · assumption
  · cases h

theorem lowOf_ok {ρ : Env} {a : Act} {t : Tms} {lo : Option Operand} {l : Int} (hev : ∀ x v, ev t x = some v → RV ρ v (a.eval x)) (h : lowOf (oev t lo) = some l) :
    (lo = none ∧ l = 0) ∨ ∃ x k, lo = some x ∧ a.eval x = .int k l := by
  cases lo with
  | none => simp [oev, lowOf] at h; exact .inl ⟨rfl, h.symm⟩
  | some x =>
    right
    simp only [oev, lowOf, intOf', evw] at h
    split at h
    · rename_i w k n heq
      split at heq
      · rename_i y hy
        simp at heq h; subst heq; subst h
        have := hev x _ hy
        simp only [RV, RW, RC] at this
        exact ⟨x, k, rfl, this⟩
      · cases heq
    · cases h

theorem highOf_ok {ρ : Env} {a : Act} {t : Tms} {n : Nat} {hi : Option Operand} {l : Int} (hev : ∀ x v, ev t x = some v → RV ρ v (a.eval x)) (h : highOf n (oev t hi) = some l) :
    (hi = none ∧ l = n) ∨ ∃ x k, hi = some x ∧ a.eval x = .int k l := by
  cases hi with
  | none => simp [oev, highOf] at h; exact .inl ⟨rfl, h.symm⟩
  | some x =>
    right
    simp only [oev, highOf] at h
    exact (lowOf_ok (lo := some x) hev (by simpa [oev, lowOf] using h)).resolve_left (by simp)

theorem run_bound {P : Program} {w : World} {k : IntKind} {i : Int} {n : Nat} (c : BoundsCode) (h0 : 0 ≤ i) (h1 : i ≤ n) : (Instr.sliceBound (.int k i) n c).run P w = .ok i.toNat w := by
  simp [Instr.sliceBound, asIntOf, h0, h1]

/-- the three bounds. -/
theorem run_bounds {P : Program} {w : World} {ρ : Env} {a : Act} {t : Tms} (isS : Bool) {len cap : Nat} (hlc : len ≤ cap) {lo hi : Option Operand} {l h : Int} (hev : ∀ x v, ev t x = some v → RV ρ v (a.eval x))
    (hl : lowOf (oev t lo) = some l) (hh : highOf len (oev t hi) = some h) (h0 : 0 ≤ l) (h1 : l ≤ h) (h2 : h ≤ len) :
    (Instr.sliceBounds isS len cap (lo.map a.eval) (hi.map a.eval) none).run P w = .ok (l.toNat, h.toNat, cap) w := by
  have hh0 : 0 ≤ h := by omega
  have hhc : h ≤ cap := by omega
  have e : ((h.toNat : Nat) : Int) = h := by omega
  rcases lowOf_ok hev hl with ⟨rfl, rfl⟩ | ⟨x, k, rfl, hx⟩ <;> rcases highOf_ok hev hh with ⟨rfl, rfl⟩ | ⟨y, k', rfl, hy⟩
  · simp [Instr.sliceBounds]
  · simp [Instr.sliceBounds, hy, run_bound _ hh0 hhc]
  · have : (Instr.sliceBound (.int k l) len .sliceB).run P w = .ok l.toNat w := run_bound _ h0 (by omega)
    simp [Instr.sliceBounds, hx, this]
  · have : (Instr.sliceBound (.int k l) h.toNat .sliceB).run P w = .ok l.toNat w := run_bound _ h0 (by omega)
    simp [Instr.sliceBounds, hx, hy, run_bound _ hh0 hhc, this]

theorem sliceEv_ok {P : Program} {M M0 : Mem} {T : TypeId} {x : W} {lo hi mx : Option Operand} {out : Out} {ρ : Env} {w : World} {y : Value} {a : Act} {t : Tms} (h : sliceEv P M0 T x (oev t lo) (oev t hi) (oev t mx) = some out) (ho : ∀ b ∈ out.obs, b = true)
    (hMs : ∀ id b, M0 id = some b → M id = some b) (hM : MemOk P ρ M w) (hx : RW ρ x y) (hev : ∀ x v, ev t x = some v → RV ρ v (a.eval x)) :
    ∃ v r, out = ⟨some v, [], out.obs⟩ ∧ RV ρ v r ∧ (Instr.sliceAt T y (lo.map a.eval) (hi.map a.eval) (mx.map a.eval)).run P w = .ok r w := by
  have nomx : oev t mx = none → mx = none := fun h => by cases mx with | none => rfl | some _ => simp [oev] at h
  unfold sliceEv at h
  simp only [spot_eq] at h
  split at h
  · rename_i hu
    split at h
    · rename_i s hm
      have := nomx hm
      subst this
      split at h
      · rename_i l hh hl hhh
        simp only [outo, Option.some.injEq] at h
        subst h
        simp only [List.forall_mem_cons, decide_eq_true_eq] at ho
        simp only [RW, RC] at hx
        subst hx
        refine ⟨_, .string (cut s l hh), rfl, rfl, ?_⟩
        simp [Instr.sliceAt, run_underlying hu, Instr.slice, run_bounds false (Nat.le_refl _) hev hl hhh ho.1 ho.2.1 ho.2.2.2.1, cut]
      · cases h
    · cases h
  · rename_i n e hu
    split at h
    · rename_i id off hp hm
      have := nomx hm
      subst this
      split at h
      · rename_i l hh hl hhh
        cases hhT : hasT P e with
        | false => simp [hhT] at h
        | true =>
          simp only [hhT, cond_true, outo, Option.some.injEq] at h
          subst h
          simp only [List.forall_mem_cons, decide_eq_true_eq] at ho
          have hy := wPlace_ok hp hx
          subst hy
          obtain ⟨ie, hie⟩ := info_of_hasT hhT
          refine ⟨_, .slice (some (if n = l.toNat then ⟨ρ.b id, ρ.o id + off, none⟩ else ⟨ρ.b id, ρ.o id + off + l.toNat * P.cellsOf e, none⟩)) (hh.toNat - l.toNat) (n - l.toNat), rfl, ⟨_, _, rfl, by omega, fun hpos => ?_⟩, ?_⟩
          · rw [if_neg (by omega), Nat.add_assoc]
          · have hb := run_bounds (P := P) (w := w) false (Nat.le_refl n) hev hl hhh ho.1 ho.2.1 ho.2.2.2.1
            simp [Instr.sliceAt, run_underlying hu, Instr.sureAddr, hb, run_sizeOf' hie, add_at]
      · cases h
    · cases h
  · rename_i e hu
    split at h
    · rename_i c
      split at h
      · rename_i id off n hs
        obtain ⟨ad, cap, rfl, hnc, ha⟩ := C.slice_ok hs hMs hM hx
        split at h
        · rename_i hm
          have := nomx hm
          subst this
          split at h
          · rename_i l hh hl hhh
            cases hhT : hasT P e with
            | false => simp [hhT] at h
            | true =>
              simp only [hhT, cond_true, outo, Option.some.injEq] at h
              subst h
              simp only [List.forall_mem_cons, decide_eq_true_eq] at ho
              obtain ⟨ie, hie⟩ := info_of_hasT hhT
              have hb := run_bounds (P := P) (w := w) true hnc hev hl hhh ho.1 ho.2.1 ho.2.2.2.1
              refine ⟨_, .slice (if cap = l.toNat then ad else ad.map (·.add (l.toNat * P.cellsOf e))) (hh.toNat - l.toNat) (cap - l.toNat), rfl, ⟨_, _, rfl, by omega, fun hpos => ?_⟩, ?_⟩
              · rw [if_neg (by omega), ha (by omega)]
                simp [add_at, Nat.add_assoc]
              · simp [Instr.sliceAt, run_underlying hu, Instr.slice, hb, run_sizeOf' hie]
          · cases h
        · rename_i m hm
          split at h
          · cases h
          · rename_i hw hhi
            split at h
            · rename_i l hh m' hl hhh hmm
              cases hhT : hasT P e with
              | false => simp [hhT] at h
              | true =>
                simp only [hhT, cond_true, outo, Option.some.injEq] at h
                subst h
                simp only [List.forall_mem_cons, decide_eq_true_eq] at ho
                obtain ⟨ie, hie⟩ := info_of_hasT hhT
                obtain ⟨o1, o2, o3, o4, _⟩ := ho
                rw [← hm] at hmm
                rw [← hhi] at hhh
                have o5 : 0 ≤ m' := by omega
                have o6 : m' ≤ (cap : Int) := by omega
                have o7 : 0 ≤ hh := by omega
                have o8 : hh ≤ (m'.toNat : Int) := by omega
                have o9 : l ≤ (hh.toNat : Int) := by omega
                have hb : (Instr.sliceBounds true n cap (lo.map a.eval) (hi.map a.eval) (mx.map a.eval)).run P w = .ok (l.toNat, hh.toNat, m'.toNat) w := by
                  rcases lowOf_ok hev hmm with ⟨rfl, _⟩ | ⟨xm, km, rfl, hxm⟩
                  · simp [oev] at hm
                  rcases lowOf_ok hev hhh with ⟨rfl, _⟩ | ⟨xh, kh, rfl, hxh⟩
                  · simp [oev] at hhi
                  rcases lowOf_ok hev hl with ⟨rfl, rfl⟩ | ⟨xl, kl, rfl, hxl⟩
                  · simp [Instr.sliceBounds, hxm, hxh, run_bound _ o5 o6, run_bound _ o7 o8]
                  · simp [Instr.sliceBounds, hxm, hxh, hxl, run_bound _ o5 o6, run_bound _ o7 o8, run_bound _ o1 o9]
                refine ⟨_, .slice (if m'.toNat = l.toNat then ad else ad.map (·.add (l.toNat * P.cellsOf e))) (hh.toNat - l.toNat) (m'.toNat - l.toNat), rfl, ⟨_, _, rfl, by omega, fun hpos => ?_⟩, ?_⟩
                · rw [if_neg (by omega), ha (by omega)]
                  simp [add_at, Nat.add_assoc]
                · simp [Instr.sliceAt, run_underlying hu, Instr.slice, hb, run_sizeOf' hie]
            · cases h
      · cases h
    · cases h
  · cases h

end Sx
