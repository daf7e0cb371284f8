/- The symbolic executor, part I: conversions, make, append, len, comparisons, calls. -/
import Derived.Test.YtmjejlbmcefaoaaSxH
namespace Sx
open Go Go.RowKit

theorem intKindOf_ok {P : Program} {T : TypeId} {k : IntKind} (h : intKindOf P T = some k) : P.underlying T = some (.int k) := by
  unfold intKindOf at h
  split at h
  · simp at h; subst h; assumption
  · cases h

theorem forIn_bytes {P : Program} {w : World} (f : Value → ByteArray → Sem (ForInStep ByteArray)) (hf : ∀ n s, f (.int .u8 n) s = pure (ForInStep.yield (s.push (UInt8.ofNat n.toNat)))) : ∀ (l : List Int) (s : ByteArray),
    (forIn (l.map (Value.int .u8)) s f).run P w = .ok (⟨s.data ++ (l.map fun n => UInt8.ofNat n.toNat).toArray⟩ : ByteArray) w
  | [], s => by simp
  | n :: l, s => by
    simp only [List.map_cons, List.forIn_cons, Sem.run_bind, hf, Sem.run_pure, Result.andThen_ok]
    rw [forIn_bytes f hf l]
    congr 1
    apply ByteArray.ext
    simp [ByteArray.push]

theorem run_bytesToString {P : Program} {w : World} {b o n cap : Nat} {ad : Option Addr} {l : List Int} (hn : l.length = n) (ha : 0 < n → ad = some ⟨b, o, none⟩)
    (h : ∀ i v, (l.map (Value.int .u8))[i]? = some v → w.cell? ⟨b, o + i, none⟩ = some v) :
    (Conv.bytesToString (.slice ad n cap)).run P w = .ok (.string (strOf l)) w := by
  by_cases h0 : 0 < n
  · have := ha h0
    subst this
    have hl := run_loadCells_list (P := P) w ⟨b, o, none⟩ (l.map (Value.int .u8)) (fun j v hv => by rw [add_at]; exact h j v hv)
    rw [List.length_map, hn] at hl
    simp only [Conv.bytesToString, Sem.run_bind, hl, Result.andThen_ok]
    simp only [List.forIn_toArray]
    have e : (⟨ByteArray.empty.data ++ (l.map fun n => UInt8.ofNat n.toNat).toArray⟩ : ByteArray) = strOf l := by
      apply ByteArray.ext
      simp [strOf, ByteArray.empty, ByteArray.emptyWithCapacity]
      rfl
    rw [forIn_bytes _ (fun _ _ => rfl), e]
    simp
  · have h0 : n = 0 := by omega
    subst h0
    have : l = [] := List.eq_nil_of_length_eq_zero hn
    subst this
    cases ad with
    | none => simp [Conv.bytesToString, strOf]; rfl
    | some a => simp [Conv.bytesToString, loadCells, loadCellsFrom, strOf]; rfl

theorem K.Is.list {ρ : Env} {k : K} {read : Nat → Option Value} (h : k.Is ρ read) : ∃ vs : List Value, vs.length = k.len ∧ (∀ i v, vs[i]? = some v → read i = some v) ∧ k.Is ρ (fun i => vs[i]?) := by
  have hr : ∀ i, i < k.len → ∃ y, read i = some y := by
    intro i hi
    cases k with
    | cs l => obtain ⟨y, hy, _⟩ := h i _ (List.getElem?_eq_getElem hi); exact ⟨y, hy⟩
    | ints k l => exact ⟨_, h i hi⟩
    | strs l => exact ⟨_, h i hi⟩
  have hv : ∀ i v, ((List.range k.len).map fun i => (read i).getD .nilFunc)[i]? = some v → read i = some v := by
    intro i v hv
    rw [List.getElem?_map] at hv
    cases hri : (List.range k.len)[i]? with
    | none => simp [hri] at hv
    | some j =>
      simp [hri] at hv
      have hlt : i < (List.range k.len).length := (List.getElem?_eq_some_iff.1 hri).1
      simp at hlt
      have : j = i := by simpa using (List.getElem?_eq_some_iff.1 hri).2.symm
      subst this
      obtain ⟨y, hy⟩ := hr j hlt
      rw [hy] at hv ⊢
      simpa using hv
  refine ⟨(List.range k.len).map fun i => (read i).getD .nilFunc, by simp, hv, h.read fun i y hi hy => ?_⟩
  simp [hi, hy]

theorem K.ones_ok {ρ : Env} {k : K} {vs : List Value} (h : k.Is ρ (fun i => vs[i]?)) (hl : vs.length = k.len) (ho : k.ones = true) : ∀ v ∈ vs, v.oneCell' = true := by
  intro v hv
  obtain ⟨i, hi, rfl⟩ := List.getElem_of_mem hv
  have hiv : vs[i]? = some vs[i] := List.getElem?_eq_getElem hi
  cases k with
  | cs l =>
    simp only [K.len] at hl
    obtain ⟨y, hy, hc⟩ := h i _ (List.getElem?_eq_getElem (by omega))
    simp only at hy
    rw [hiv] at hy
    cases hy
    refine hc.oneCell ?_
    simp only [K.ones, List.all_eq_true] at ho
    exact ho _ (List.getElem_mem ..)
  | ints k l =>
    simp only [K.len] at hl
    have := h i (by omega)
    simp only at this
    rw [hiv] at this
    simp only [Option.some.injEq] at this
    rw [this]; rfl
  | strs l =>
    simp only [K.len] at hl
    have := h i (by omega)
    simp only at this
    rw [hiv] at this
    simp only [Option.some.injEq] at this
    rw [this]; rfl

theorem K.drops_ok {ρ : Env} {k k' : K} {read : Nat → Option Value} {off n : Nat} {o : List Bool} (h : k.Is ρ read) (hd : k.drops off n = some (k', o)) (ho : ∀ b ∈ o, b = true) :
    k'.len = n ∧ k'.Is ρ (fun i => read (off + i)) ∧ (∀ id ∈ k'.ids, id ∈ k.ids) := by
  cases k with
  | cs l =>
    simp only [K.drops, Option.some.injEq, Prod.mk.injEq] at hd
    obtain ⟨rfl, rfl⟩ := hd
    have hle : off + n ≤ l.length := by simpa using ho _ (List.mem_singleton.2 rfl)
    refine ⟨by simp [K.len]; omega, fun i c hc => ?_, ?_⟩
    · rw [List.getElem?_take] at hc
      split at hc
      · rw [List.getElem?_drop] at hc; exact h _ c hc
      · cases hc
    · intro id hid
      simp only [K.ids, List.mem_flatMap] at hid ⊢
      obtain ⟨c, hc, hid⟩ := hid
      exact ⟨c, List.mem_of_mem_drop (List.mem_of_mem_take hc), hid⟩
  | ints k l =>
    simp only [K.drops, Option.some.injEq, Prod.mk.injEq] at hd
    obtain ⟨rfl, rfl⟩ := hd
    have hle : off + n ≤ l.length := by simpa using ho _ (List.mem_singleton.2 rfl)
    refine ⟨by simp [K.len]; omega, fun i hi => ?_, by simp [K.ids]⟩
    simp only [List.length_take, List.length_drop] at hi
    simp only
    rw [h (off + i) (by omega)]
    simp only [List.getD, List.getElem?_take, List.getElem?_drop]
    rw [if_pos (by omega)]
  | strs l =>
    simp only [K.drops, Option.some.injEq, Prod.mk.injEq] at hd
    obtain ⟨rfl, rfl⟩ := hd
    have hle : off + n ≤ l.length := by simpa using ho _ (List.mem_singleton.2 rfl)
    refine ⟨by simp [K.len]; omega, fun i hi => ?_, by simp [K.ids]⟩
    simp only [List.length_take, List.length_drop] at hi
    simp only
    rw [h (off + i) (by omega)]
    simp only [List.getD, List.getElem?_take, List.getElem?_drop]
    rw [if_pos (by omega)]

theorem K.Is.congr_ints {ρ : Env} {k : IntKind} {l : List Int} {vs : List Value} (hl : vs.length = l.length) : K.Is ρ (.ints k l) (fun i => vs[i]?) ↔ vs = l.map (Value.int k) := by
  constructor
  · intro h
    apply List.ext_getElem?
    intro i
    by_cases hi : i < l.length
    · have := h i hi
      simp only at this
      rw [this]
      simp [List.getD, hi]
    · rw [List.getElem?_eq_none (by omega), List.getElem?_eq_none (by simpa using hi)]
  · rintro rfl
    exact K.Is.intl ρ k l

theorem K.Is.congr_strs {ρ : Env} {l : List ByteArray} {vs : List Value} (hl : vs.length = l.length) : K.Is ρ (.strs l) (fun i => vs[i]?) ↔ vs = l.map Value.string := by
  constructor
  · intro h
    apply List.ext_getElem?
    intro i
    by_cases hi : i < l.length
    · have := h i hi
      simp only at this
      rw [this]
      simp [List.getD, hi]
    · rw [List.getElem?_eq_none (by omega), List.getElem?_eq_none (by simpa using hi)]
  · rintro rfl
    intro i hi
    simp [List.getD, hi]

theorem K.Is.congr_cs {ρ : Env} {l : List C} {vs : List Value} (hl : vs.length = l.length) : K.Is ρ (.cs l) (fun i => vs[i]?) ↔ RL (RC ρ) l vs := by
  constructor
  · intro h
    refine RL.of_get _ _ hl.symm fun i a b ha hb => ?_
    obtain ⟨y, hy, hr⟩ := h i a ha
    simp only at hy
    rw [hb] at hy
    cases hy
    exact hr
  · intro h i c hc
    obtain ⟨b, hb, hr⟩ := h.get i c hc
    exact ⟨b, hb, hr⟩

theorem toInts_cs {ρ : Env} {k : IntKind} {l : List C} {r : List Int} {vs : List Value} (h : toInts k (l.map fun | .v x => x | _ => .nilFunc) = some r) (hl : RL (RC ρ) l vs) : vs = r.map (Value.int k) := by
  have h1 := toInts_ok _ _ h
  rw [← h1]
  have key : ∀ (l : List C) (vs : List Value) (r : List Int), (l.map fun | .v x => x | _ => .nilFunc) = r.map (Value.int k) → RL (RC ρ) l vs → vs = (l.map fun | .v x => x | _ => .nilFunc) := by
    intro l
    induction l with
    | nil => intro vs r _ h; cases h; rfl
    | cons c l ih =>
      intro vs r he h
      cases h with
      | cons hc hl =>
        cases r with
        | nil => simp at he
        | cons n r =>
          simp only [List.map_cons, List.cons.injEq] at he
          obtain ⟨he1, he2⟩ := he
          simp only [List.map_cons]
          rw [← ih _ _ he2 hl]
          congr 1
          cases c with
          | v x => exact hc
          | _ => simp at he1
  exact key l vs r h1 hl

theorem K.cat_ok {ρ : Env} {a b c : K} {us vs : List Value} (h : a.cat b = some c) (ha : a.Is ρ (fun i => us[i]?)) (hb : b.Is ρ (fun i => vs[i]?)) (hla : us.length = a.len) (hlb : vs.length = b.len) :
    c.Is ρ (fun i => (us ++ vs)[i]?) ∧ c.len = a.len + b.len ∧ (∀ id ∈ c.ids, id ∈ a.ids ∨ id ∈ b.ids) := by
  unfold K.cat at h
  split at h
  · rename_i l m
    simp at h; subst h
    refine ⟨(K.Is.congr_cs (by simp [K.len] at hla hlb ⊢; omega)).2 (((K.Is.congr_cs hla).1 ha).append ((K.Is.congr_cs hlb).1 hb)), by simp [K.len], ?_⟩
    intro id hid
    simp only [K.ids, List.flatMap_append, List.mem_append] at hid
    exact hid
  · rename_i k l k' m
    cases hk : kEq k k' with
    | false => simp [hk] at h
    | true =>
      simp [hk] at h; subst h
      have : k = k' := by simpa [kEq] using hk
      subst this
      refine ⟨(K.Is.congr_ints (by simp [K.len] at hla hlb ⊢; omega)).2 ?_, by simp [K.len], by simp [K.ids]⟩
      rw [(K.Is.congr_ints hla).1 ha, (K.Is.congr_ints hlb).1 hb, List.map_append]
  · rename_i k l m
    split at h
    · rename_i r hr
      simp at h; subst h
      have h2 := toInts_cs hr ((K.Is.congr_cs hlb).1 hb)
      have hlm : r.length = m.length := by simp [K.len] at hlb; rw [← hlb, h2]; simp
      refine ⟨(K.Is.congr_ints (by simp [K.len] at hla hlb ⊢; omega)).2 ?_, by simp [K.len, hlm], by simp [K.ids]⟩
      rw [(K.Is.congr_ints hla).1 ha, h2, List.map_append]
    · cases h
  · rename_i l m
    simp at h; subst h
    refine ⟨(K.Is.congr_strs (by simp [K.len] at hla hlb ⊢; omega)).2 ?_, by simp [K.len], by simp [K.ids]⟩
    rw [(K.Is.congr_strs hla).1 ha, (K.Is.congr_strs hlb).1 hb, List.map_append]
  · rename_i l s
    simp at h; subst h
    refine ⟨(K.Is.congr_strs (by simp [K.len] at hla hlb ⊢; omega)).2 ?_, by simp [K.len], by simp [K.ids]⟩
    have h2 := (K.Is.congr_cs hlb).1 hb
    cases h2 with
    | cons hc hn =>
      cases hn
      simp only [RC] at hc
      subst hc
      rw [(K.Is.congr_strs hla).1 ha, List.map_append]
      rfl
  · rename_i k m
    simp at h; subst h
    have : us = [] := List.eq_nil_of_length_eq_zero hla
    subst this
    exact ⟨by simpa using hb, by simp [K.len], by simp [K.ids]⟩
  · rename_i m
    simp at h; subst h
    have : us = [] := List.eq_nil_of_length_eq_zero hla
    subst this
    exact ⟨by simpa using hb, by simp [K.len], by simp [K.ids]⟩
  · cases h

theorem K.bytes_ok {ρ : Env} {k : K} {read : Nat → Option Value} {off n : Nat} {l : List Int} {o : List Bool} (h : k.Is ρ read) (hb : k.bytes off n = some (l, o)) (ho : ∀ b ∈ o, b = true) :
    l.length = n ∧ ∀ i v, (l.map (Value.int .u8))[i]? = some v → read (off + i) = some v := by
  unfold K.bytes at hb
  split at hb
  · rename_i l0
    simp only [Option.some.injEq, Prod.mk.injEq] at hb
    obtain ⟨rfl, rfl⟩ := hb
    have hd := K.drops_ok (k' := .ints .u8 ((l0.drop off).take n)) h rfl ho
    exact ⟨hd.1, hd.2.1.ints⟩
  · rename_i l0
    split at hb
    · rename_i r hr
      simp only [Option.some.injEq, Prod.mk.injEq] at hb
      obtain ⟨rfl, rfl⟩ := hb
      have hd := K.drops_ok (k' := .cs ((l0.drop off).take n)) h rfl ho
      obtain ⟨vs, hl, hv, hi⟩ := hd.2.1.list
      have h2 := toInts_cs hr ((K.Is.congr_cs hl).1 hi)
      refine ⟨?_, fun i v hiv => hv i v (by rw [h2]; exact hiv)⟩
      have := congrArg List.length h2
      simp at this
      rw [← this, hl, hd.1]
    · cases hb
  · cases hb

end Sx
