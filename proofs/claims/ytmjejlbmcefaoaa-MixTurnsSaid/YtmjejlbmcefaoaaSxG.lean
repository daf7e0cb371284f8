/- The symbolic executor, part G: literals, places, indexes. -/
import Derived.Test.YtmjejlbmcefaoaaSxF
import Derived.Great.BuildSlice
namespace Sx
open Go Go.RowKit

theorem RL.take {α β : Type} {R : α → β → Prop} : ∀ {l : List α} {m : List β} (n : Nat), RL R l m → RL R (l.take n) (m.take n)
  | _, _, 0, _ => by simp; exact .nil
  | _, _, _ + 1, .nil => by simp; exact .nil
  | _, _, n + 1, .cons a h => by simp; exact .cons a (RL.take n h)

theorem RL.drop {α β : Type} {R : α → β → Prop} : ∀ {l : List α} {m : List β} (n : Nat), RL R l m → RL R (l.drop n) (m.drop n)
  | _, _, 0, h => by simpa using h
  | _, _, _ + 1, .nil => by simp; exact .nil
  | _, _, n + 1, .cons _ h => by simp; exact RL.drop n h

theorem foldl_set (off : Nat) : ∀ (cs : List Value) (j : Nat) (arr : Array Value), off + j + cs.length ≤ arr.size →
    ((cs.zipIdx j).foldl (fun a (p : Value × Nat) => a.setIfInBounds (off + p.2) p.1) arr).toList = arr.toList.take (off + j) ++ cs ++ arr.toList.drop (off + j + cs.length)
  | [], j, arr, h => by simp
  | c :: cs, j, arr, h => by
    simp only [List.length_cons] at h
    simp only [List.zipIdx_cons, List.foldl_cons]
    rw [foldl_set off cs (j + 1) _ (by simp; omega)]
    simp only [Array.toList_setIfInBounds, List.length_cons]
    apply List.ext_getElem?
    intro i
    simp only [List.getElem?_append, List.length_append, List.length_take, List.length_set, Array.length_toList, List.getElem?_drop, List.getElem?_take, List.getElem?_set, List.getElem?_cons, List.length_cons]
    have m1 : min (off + (j + 1)) arr.size = off + j + 1 := by omega
    have m2 : min (off + j) arr.size = off + j := by omega
    rw [m1, m2]
    by_cases h1 : i < off + j
    · have : i < off + j + 1 := by omega
      have h3 : i < off + j + 1 + cs.length := by omega
      have h4 : i < off + j + (cs.length + 1) := by omega
      have h5 : off + j ≠ i := by omega
      have h6 : i < off + (j + 1) := by omega
      simp [h1, this, h3, h4, h5, h6]
    · by_cases h2 : i = off + j
      · subst h2
        have h3 : off + j < off + j + 1 + cs.length := by omega
        have h6 : off + j < off + (j + 1) := by omega
        have h7 : off + j < arr.size := by omega
        simp [h3, h6, h7]
      · have h5 : off + j ≠ i := by omega
        by_cases h3 : i < off + j + 1 + cs.length
        · have h4 : i < off + j + (cs.length + 1) := by omega
          have h6 : ¬ i < off + j + 1 := by omega
          have h8 : i - (off + j) = (i - (off + j + 1)) + 1 := by omega
          have h9 : ¬ i - (off + j) = 0 := by omega
          simp [h1, h3, h4, h6, h8]
        · have h4 : ¬ i < off + j + (cs.length + 1) := by omega
          simp only [h3, h4, if_false]
          rw [if_neg (by omega)]
          congr 1
          omega

theorem fill_ok {ρ : Env} (place : Nat → Option (Nat × Nat)) : ∀ (ps : List (Nat × W)) (vs : List (Nat × Value)) (cells r : List C) (arr : Array Value), RL (RC ρ) cells arr.toList →
    RL (fun p q => p.1 = q.1 ∧ RW ρ p.2 q.2) ps vs → fillC place cells ps = some r → ∃ a, Instr.fill place arr vs = some a ∧ RL (RC ρ) r a.toList
  | [], _, cells, r, arr, hc, .nil, h => by
    simp only [fillC, Option.some.injEq] at h
    subst h
    exact ⟨arr, rfl, hc⟩
  | (i, x) :: ps, (i', y) :: vs, cells, r, arr, hc, .cons hp hl, h => by
    obtain ⟨rfl, hxy⟩ := hp
    simp only at hxy
    simp only [fillC] at h
    cases hpl : place i with
    | none => simp [hpl] at h
    | some q =>
      obtain ⟨off, size⟩ := q
      simp only [hpl] at h
      cases hb : (Nat.beq x.cells.length size && Nat.ble (off + size) cells.length && x.flat) with
      | false => simp [hb] at h
      | true =>
        simp only [hb, cond_true] at h
        simp only [Bool.and_eq_true, Nat.ble_eq] at hb
        obtain ⟨⟨h1, h2⟩, hf⟩ := hb
        have h1 : x.cells.length = size := by simpa using h1
        have hys := hxy.size hf
        have hyc := hxy.cells hf
        have hlen : cells.length = arr.size := by simpa using hc.length
        have hset := foldl_set off y.cells.toList 0 arr (by simp; omega)
        simp only [Nat.add_zero, Array.length_toList] at hset
        have harr : (y.cells.zipIdx.foldl (fun cs (p : Value × Nat) => cs.setIfInBounds (off + p.2) p.1) arr).toList = arr.toList.take off ++ y.cells.toList ++ arr.toList.drop (off + y.cells.size) := by
          rw [← hset, ← Array.foldl_toList]
          simp
        obtain ⟨a, ha, hr⟩ := fill_ok place ps vs _ r (y.cells.zipIdx.foldl (fun cs (p : Value × Nat) => cs.setIfInBounds (off + p.2) p.1) arr) (by
            rw [harr]
            refine RL.append (RL.append (hc.take off) hyc) ?_
            rw [hys, h1]
            exact hc.drop _) hl h
        refine ⟨a, ?_, hr⟩
        simp only [Instr.fill, hpl]
        rw [if_neg (by simp; omega)]
        exact ha

theorem RL.lits (ρ : Env) : ∀ (l : List Value), RL (RC ρ) (l.map C.v) l
  | [] => .nil
  | _ :: l => .cons rfl (RL.lits ρ l)

theorem evParts_ok {ρ : Env} {t : Tms} {a : Act} (hev : ∀ x v, ev t x = some v → RV ρ v (a.eval x)) : ∀ (ps : List (Nat × Operand)) (l : List (Nat × W)), evParts t ps = some l →
    RL (fun p q => p.1 = q.1 ∧ RW ρ p.2 q.2) l (ps.map fun (i, x) => (i, a.eval x))
  | [], l, h => by simp [evParts] at h; subst h; exact .nil
  | (i, x) :: ps, l, h => by
    simp only [evParts] at h
    cases hx : evw t x with
    | none => simp [hx] at h
    | some v =>
      simp only [hx] at h
      cases hr : evParts t ps with
      | none => simp [hr] at h
      | some l' =>
        simp [hr] at h
        subst h
        refine .cons ⟨rfl, ?_⟩ (evParts_ok hev ps l' hr)
        unfold evw at hx
        split at hx
        · rename_i w hw
          simp at hx; subst hx
          exact hev x _ hw
        · cases hx

theorem buildEv_ok {P : Program} {T : TypeId} {ps : List (Nat × W)} {out : Out} {ρ : Env} {w : World} {vs : List (Nat × Value)} (h : buildEv P T ps = some out)
    (hp : RL (fun p q => p.1 = q.1 ∧ RW ρ p.2 q.2) ps vs) : ∃ v r, out = ⟨some v, [], []⟩ ∧ RV ρ v r ∧ (Instr.build T vs.toArray).run P w = .ok r w := by
  have key : ∃ l, out = ⟨some (.w (.agg l)), [], []⟩ ∧ ∃ a, P.built T vs = some a ∧ RL (RC ρ) l a.toList := by
    unfold buildEv at h
    unfold Program.built
    split at h
    · rename_i it e n hit hu
      split at h
      · rename_i z ie hz hie
        split at h
        · rename_i l hl
          simp only [out1, Option.some.injEq] at h
          obtain ⟨a, ha, hr⟩ := fill_ok _ ps vs _ l z.cells (RL.lits ρ _) hp hl
          refine ⟨l, h.symm, a, ?_, hr⟩
          simp [*]
        · cases h
      · cases h
    · rename_i it fields hit hu
      split at h
      · rename_i z places hz hpl
        split at h
        · rename_i l hl
          simp only [out1, Option.some.injEq] at h
          obtain ⟨a, ha, hr⟩ := fill_ok _ ps vs _ l z.cells (RL.lits ρ _) hp hl
          refine ⟨l, h.symm, a, ?_, hr⟩
          simp only [hit, hu, hz, hpl]
          exact ha
        · cases h
      · cases h
    · cases h
  obtain ⟨l, rfl, a, ha, hr⟩ := key
  exact ⟨_, .agg a, rfl, ⟨a.toList, by simp, hr⟩, run_build w T vs.toArray a (by simpa using ha)⟩

theorem elemOfSlice_ok {P : Program} {T e : TypeId} (h : elemOfSlice P T = some e) : P.underlying T = some (.slice e) := by
  unfold elemOfSlice at h
  split at h
  · simp at h; subst h; assumption
  · cases h

theorem zeros_ok (ρ : Env) (z : Array Value) (n : Nat) : RL (RC ρ) (zeros z n) ((Array.range n).map (z[· % z.size]!)).toList := by
  refine RL.of_get _ _ (by simp [zeros]) fun i a b ha hb => ?_
  simp only [zeros, List.getElem?_map, Array.toList_map, Array.toList_range] at ha hb
  cases hr : (List.range n)[i]? with
  | none => simp [hr] at ha
  | some m => simp [hr] at ha hb; subst ha; subst hb; rfl

theorem C.ids_flat {l : List C} {p : Nat → Prop} (h : ∀ c ∈ l, ∀ id ∈ c.ids, p id) : ∀ id ∈ (K.cs l).ids, p id := by
  intro id hid
  simp only [K.ids, List.mem_flatMap] at hid
  obtain ⟨c, hc, hid⟩ := hid
  exact h c hc id hid

theorem fillC_ids (place : Nat → Option (Nat × Nat)) (p : Nat → Prop) : ∀ (ps : List (Nat × W)) (cells r : List C), (∀ c ∈ cells, ∀ id ∈ c.ids, p id) → (∀ q ∈ ps, ∀ id ∈ q.2.ids, p id) → fillC place cells ps = some r → ∀ c ∈ r, ∀ id ∈ c.ids, p id
  | [], cells, r, hc, _, h => by simp [fillC] at h; subst h; exact hc
  | (i, x) :: ps, cells, r, hc, hp, h => by
    simp only [fillC] at h
    cases hpl : place i with
    | none => simp [hpl] at h
    | some q =>
      obtain ⟨off, size⟩ := q
      simp only [hpl] at h
      cases hb : (Nat.beq x.cells.length size && Nat.ble (off + size) cells.length && x.flat) with
      | false => simp [hb] at h
      | true =>
        simp only [hb, cond_true] at h
        refine fillC_ids place p ps _ r ?_ (fun q hq => hp q (List.mem_cons_of_mem _ hq)) h
        intro c hcm id hid
        rcases List.mem_append.1 hcm with hcm | hcm
        · rcases List.mem_append.1 hcm with hcm | hcm
          · exact hc c (List.mem_of_mem_take hcm) id hid
          · refine hp (i, x) (List.mem_cons_self ..) id ?_
            cases x with
            | c y => simp [W.cells] at hcm; subst hcm; exact hid
            | agg l => simp only [W.cells] at hcm; simp only [W.ids, List.mem_flatMap]; exact ⟨c, hcm, hid⟩
            | ints k l => simp [W.cells] at hcm; obtain ⟨n, _, rfl⟩ := hcm; simp [C.ids] at hid
        · exact hc c (List.mem_of_mem_drop hcm) id hid

theorem buildSliceEv_ok {P : Program} {M : Mem} {T : TypeId} {n : Nat} {ps : List (Nat × W)} {out : Out} {ρ : Env} {w : World} {base : Nat} {vs : List (Nat × Value)} (h : buildSliceEv P base T n ps = some out)
    (hM : MemOk P ρ M w) (hF : Fresh M base) (hp : RL (fun p q => p.1 = q.1 ∧ RW ρ p.2 q.2) ps vs) (hfr : ∀ q ∈ ps, ∀ id ∈ q.2.ids, ¬ inR base id) :
    ∃ r w' ρ', (Instr.buildSlice T n vs.toArray).run P w = .ok r w' ∧ Good P ρ ρ' M base out w w' r := by
  unfold buildSliceEv at h
  cases he : elemOfSlice P T with
  | none => simp [he] at h
  | some e =>
    simp only [he] at h
    cases hi : P.info? e with
    | none => simp [hi] at h
    | some ie =>
      simp only [hi] at h
      cases hz : ie.zero with
      | none => simp [hz] at h
      | some z =>
        simp only [hz] at h
        cases hb : (Nat.ble (n * ie.size) 16777216 && Nat.blt 0 (n * ie.size)) with
        | false => simp [hb] at h
        | true =>
          simp only [hb, cond_true] at h
          simp only [Bool.and_eq_true, Nat.ble_eq, Nat.blt_eq] at hb
          cases hfl : fillC (fun i => some (i * ie.size, ie.size)) (zeros z.cells (n * ie.size)) ps with
          | none => simp [hfl] at h
          | some l =>
            simp only [hfl, Option.some.injEq] at h
            subst h
            obtain ⟨a, ha, hr⟩ := fill_ok _ ps vs _ l _ (zeros_ok ρ z.cells (n * ie.size)) hp hfl
            have hrun := run_buildSlice w T e n vs.toArray a ie z (elemOfSlice_ok he) hi hz (by omega) (by omega) (by simpa using ha)
            refine ⟨_, _, ρ.set base w.heap.size .nilFunc, hrun, Good.alloc hM hF (by simp) (fun k hk => Below.heap_alloc w _ k hk) rfl rfl rfl ?_ (by simp [Blk.ro]) ?_⟩
            · rintro v' ⟨⟩
              exact ⟨_, _, rfl, Nat.le_refl _, fun _ => by simp [Env.set]⟩
            · refine BlkRel.made (K.Is.env (ρ := ρ) ?_ fun id hid => ?_)
              · intro i c hc
                obtain ⟨b, hb, hr⟩ := hr.get i c hc
                exact ⟨b, by simpa using hb, hr⟩
              · have := C.ids_flat (fillC_ids _ (fun id => ¬ inR base id) ps _ l (by
                  intro c hc id hid
                  simp only [zeros, List.mem_map] at hc
                  obtain ⟨_, _, rfl⟩ := hc
                  simp [C.ids] at hid) hfr hfl) id hid
                exact Env.set_same fun e => this (e ▸ ⟨Nat.le_refl _, by omega⟩)

end Sx
