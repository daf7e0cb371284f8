/- The symbolic executor, part E: stores, new blocks. -/
import Derived.Test.YtmjejlbmcefaoaaSxD
namespace Sx
open Go Go.RowKit

theorem run_store1 {P : Program} {w : World} {b i : Nat} {arr : Array Value} {ty : TypeId} {fz : Nat × Nat} {v : Value} (hr : w.heap[b]? = some (.cells arr ty fz))
    (hf : ¬ (fz.1 ≤ i ∧ i < fz.2)) (hi : i < arr.size) (hv : v.oneCell' = true) :
    (store ⟨b, i, none⟩ v).run P w = .ok () (w.setCell ⟨b, i, none⟩ v) := by
  rw [run_store P w _ _ _ hv]
  have hc : w.cell? ⟨b, i, none⟩ = some arr[i] := by rw [cell_of_row w _ _ arr _ fz hr]; simp [hi]
  have hz : w.frozen? ⟨b, i, none⟩ = false := by
    simp only [World.frozen?, hr]
    simpa using hf
  simp [hc, hz]

theorem setCell_heap {w : World} {b i : Nat} {arr : Array Value} {ty : TypeId} {fz : Nat × Nat} (v : Value) (hr : w.heap[b]? = some (.cells arr ty fz)) :
    (w.setCell ⟨b, i, none⟩ v).heap[b]? = some (.cells (arr.setIfInBounds i v) ty fz) := by
  simp [World.setCell, Array.getElem?_modify, hr]

theorem run_storeCells' {P : Program} {b o : Nat} {ty : TypeId} {fz : Nat × Nat} : ∀ (cs : List Value) (i : Nat) (arr : Array Value) (w : World), w.heap[b]? = some (.cells arr ty fz) →
    (∀ j, j < arr.size → ¬ (fz.1 ≤ j ∧ j < fz.2)) → o + i + cs.length ≤ arr.size → (∀ v ∈ cs, v.oneCell' = true) →
    ∃ w' arr', (storeCells ⟨b, o, none⟩ cs i).run P w = .ok () w' ∧ w'.heap[b]? = some (.cells arr' ty fz) ∧ arr'.size = arr.size ∧
      (∀ j, arr'[j]? = if o + i ≤ j ∧ j < o + i + cs.length then cs[j - (o + i)]? else arr[j]?) ∧ w'.heap.size = w.heap.size ∧
      (∀ k, k ≠ b → w'.heap[k]? = w.heap[k]?) ∧ w'.os = w.os ∧ w'.tape = w.tape ∧ w'.output = w.output
  | [], i, arr, w, hr, _, _, _ => ⟨w, arr, rfl, hr, rfl, fun j => by rw [if_neg (by simp only [List.length_nil]; omega)], rfl, fun _ _ => rfl, rfl, rfl, rfl⟩
  | v :: cs, i, arr, w, hr, hf, hlen, hone => by
    simp only [List.length_cons] at hlen
    have h1 := run_store1 (P := P) (i := o + i) (v := v) hr (hf (o + i) (by omega)) (by omega) (hone v (by simp))
    have hr1 := setCell_heap (i := o + i) v hr
    obtain ⟨w', arr', hrun, hr', hsz, hget, hhs, hoth, hos, htp, hout⟩ := run_storeCells' (o := o) cs (i + 1) _ _ hr1 (by simpa using hf) (by simp; omega) (fun u hu => hone u (by simp [hu]))
    refine ⟨w', arr', ?_, hr', by simpa using hsz, ?_, by simpa using hhs, fun k hk => (hoth k hk).trans (Below.heap_setCell _ _ _ _ (by simpa using hk)), hos, htp, hout⟩
    · simp only [storeCells, Sem.run_bind, add_at, h1, Result.andThen_ok]
      exact hrun
    · intro j
      rw [hget j]
      simp only [List.length_cons]
      by_cases hj : j = o + i
      · subst hj
        rw [if_neg (by omega), if_pos (by omega), Array.getElem?_setIfInBounds, if_pos rfl, if_pos (by omega)]
        simp
      · by_cases hj2 : o + (i + 1) ≤ j ∧ j < o + (i + 1) + cs.length
        · rw [if_pos hj2, if_pos (by omega)]
          rw [show j - (o + i) = (j - (o + (i + 1))) + 1 by omega]
          simp
        · rw [if_neg hj2, if_neg (by omega)]
          rw [Array.getElem?_setIfInBounds, if_neg (by omega)]

theorem K.set_ok {ρ : Env} {k k' : K} {read : Nat → Option Value} (h : k.Is ρ read) {i : Nat} {c : C} {o : List Bool} {v : Value} (hs : k.set i c = some (k', o)) (ho : ∀ b ∈ o, b = true) (hc : RC ρ c v) :
    k'.Is ρ (fun j => if j = i then some v else read j) ∧ k'.len = k.len ∧ i < k.len ∧ v.oneCell' = true := by
  cases k with
  | cs l =>
    simp only [K.set] at hs
    cases hb : (Nat.blt i l.length && c.one) with
    | false => simp [hb] at hs
    | true =>
      simp [hb] at hs
      obtain ⟨rfl, rfl⟩ := hs
      simp only [Bool.and_eq_true, Nat.blt_eq] at hb
      refine ⟨?_, by simp [K.len], hb.1, hc.oneCell hb.2⟩
      intro j c' hj
      rw [List.getElem?_set] at hj
      by_cases hji : i = j
      · subst hji; simp [hb.1] at hj; subst hj; exact ⟨v, by simp, hc⟩
      · simp [hji] at hj
        obtain ⟨y, hy, hr⟩ := h j c' hj
        exact ⟨y, by simp [Ne.symm hji, hy], hr⟩
  | ints k l =>
    simp only [K.set] at hs
    split at hs
    · rename_i k1 n
      cases hb : kEq k k1 with
      | false => simp [hb] at hs
      | true =>
        simp [hb] at hs
        obtain ⟨rfl, rfl⟩ := hs
        have hk : k = k1 := by simpa [kEq] using hb
        subst hk
        have hi : i < l.length := by have := ho _ (List.mem_singleton.2 rfl); simpa [Nat.blt_eq] using this
        simp only [RC] at hc
        subst hc
        refine ⟨?_, by simp [K.len], hi, rfl⟩
        intro j hj
        simp only [List.length_set] at hj
        by_cases hji : j = i
        · subst hji; simp [List.getD, hi]
        · have := h j hj
          simp only [hji, if_false]
          rw [this]
          simp [List.getD, Ne.symm hji]
    · cases hs
  | strs l =>
    simp only [K.set] at hs
    split at hs
    · rename_i n
      simp only [Option.some.injEq, Prod.mk.injEq] at hs
      obtain ⟨rfl, rfl⟩ := hs
      have hi : i < l.length := by have := ho _ (List.mem_singleton.2 rfl); simpa [Nat.blt_eq] using this
      simp only [RC] at hc
      subst hc
      refine ⟨?_, by simp [K.len], hi, rfl⟩
      intro j hj
      simp only [List.length_set] at hj
      by_cases hji : j = i
      · subst hji; simp [List.getD, hi]
      · have := h j hj
        simp only [hji, if_false]
        rw [this]
        simp [List.getD, Ne.symm hji]
    · cases hs

theorem K.sets_ok {ρ : Env} : ∀ (us : List C) (vs : List Value) (k k' : K) (read : Nat → Option Value) (off j : Nat) (o : List Bool), k.Is ρ read → k.sets off j us = some (k', o) → (∀ b ∈ o, b = true) → RL (RC ρ) us vs →
    k'.Is ρ (fun i => if off + j ≤ i ∧ i < off + j + vs.length then vs[i - (off + j)]? else read i) ∧ k'.len = k.len ∧ (0 < vs.length → off + j + vs.length ≤ k.len) ∧ ∀ v ∈ vs, v.oneCell' = true
  | [], _, k, k', read, off, j, o, h, hs, _, .nil => by
    simp only [K.sets, Option.some.injEq, Prod.mk.injEq] at hs
    obtain ⟨rfl, rfl⟩ := hs
    exact ⟨h.read fun i y _ hy => by rw [if_neg (by simp only [List.length_nil]; omega)]; exact hy, rfl, by simp, by simp⟩
  | c :: us, v :: vs, k, k', read, off, j, o, h, hs, ho, .cons hc hl => by
    simp only [K.sets] at hs
    cases h1 : k.set (off + j) c with
    | none => simp [h1] at hs
    | some p =>
      obtain ⟨k1, o1⟩ := p
      simp only [h1] at hs
      cases h2 : K.sets k1 off (j + 1) us with
      | none => simp [h2] at hs
      | some q =>
        obtain ⟨k2, o2⟩ := q
        simp only [h2, Option.some.injEq, Prod.mk.injEq] at hs
        obtain ⟨rfl, rfl⟩ := hs
        obtain ⟨a1, a2, a3, a4⟩ := K.set_ok h h1 (fun b hb => ho b (by simp [hb])) hc
        obtain ⟨b1, b2, b3, b4⟩ := K.sets_ok us vs k1 k2 _ off (j + 1) o2 a1 h2 (fun b hb => ho b (by simp [hb])) hl
        refine ⟨b1.read fun i y _ hy => ?_, b2.trans a2, fun _ => ?_, ?_⟩
        · simp only [List.length_cons]
          by_cases hi : i = off + j
          · subst hi
            rw [if_neg (by omega)] at hy
            rw [if_pos (by omega)]
            simpa using hy
          · by_cases hi2 : off + (j + 1) ≤ i ∧ i < off + (j + 1) + vs.length
            · rw [if_pos hi2] at hy
              rw [if_pos (by omega), show i - (off + j) = (i - (off + (j + 1))) + 1 by omega]
              simpa using hy
            · rw [if_neg hi2] at hy
              simp only [hi, if_false] at hy
              rw [if_neg (by omega)]
              exact hy
        · simp only [List.length_cons]
          by_cases hv : 0 < vs.length
          · have := b3 hv; omega
          · omega
        · intro u hu
          rcases List.mem_cons.1 hu with rfl | hu
          · exact a4
          · exact b4 u hu

/-- what becomes of a block that is written through. -/
theorem BlkRel.write {P : Program} {ρ : Env} {id off : Nat} {blk : Blk} {k' : K} {w : World} {vs : List Value} (h : BlkRel P ρ id blk w) (hm : blk.mode.writes = true)
    (hk : ∀ read, blk.k.Is ρ read → k'.Is ρ (fun i => if off ≤ i ∧ i < off + vs.length then vs[i - off]? else read i)) (hlen : k'.len = blk.k.len) (hv0 : 0 < vs.length) (hfit : off + vs.length ≤ blk.k.len) (hone : ∀ v ∈ vs, v.oneCell' = true) :
    live ρ id blk ∧ ∃ w', (storeCells ⟨ρ.b id, ρ.o id + off, none⟩ vs).run P w = .ok () w' ∧ BlkRel P ρ id { blk with k := k' } w' ∧ w'.heap.size = w.heap.size ∧ (∀ k, k ≠ ρ.b id → w'.heap[k]? = w.heap[k]?) ∧ w'.os = w.os ∧ w'.tape = w.tape ∧ w'.output = w.output := by
  unfold BlkRel at h
  split at h
  · rename_i he; rw [he] at hm; cases hm
  · rename_i he
    obtain ⟨arr, ⟨fz, hr, hf⟩, hi⟩ := h
    have hlt : ρ.o id + (blk.k.len - 1) < arr.size := by
      -- the last cell is there
      have : ∃ y, arr[ρ.o id + (blk.k.len - 1)]? = some y := by
        cases hkk : blk.k with
        | cs l =>
          rw [hkk] at hi hfit
          simp only [K.len] at hfit ⊢
          obtain ⟨y, hy, _⟩ := hi (l.length - 1) _ (List.getElem?_eq_getElem (by omega))
          exact ⟨y, hy⟩
        | ints k l => rw [hkk] at hi hfit; simp only [K.len] at hfit ⊢; exact ⟨_, hi (l.length - 1) (by omega)⟩
        | strs l => rw [hkk] at hi hfit; simp only [K.len] at hfit ⊢; exact ⟨_, hi (l.length - 1) (by omega)⟩
      obtain ⟨y, hy⟩ := this
      exact (Array.getElem?_eq_some_iff.1 hy).1
    obtain ⟨w', arr', hrun, hr', hsz, hget, hhs, hoth, hos, htp, hout⟩ := run_storeCells' (P := P) (b := ρ.b id) (o := ρ.o id + off) vs 0 arr w hr hf (by omega) hone
    refine ⟨by simp [live, he], w', hrun, ?_, hhs, hoth, hos, htp, hout⟩
    unfold BlkRel
    simp only [he]
    refine ⟨arr', ⟨fz, hr', by rw [hsz]; exact hf⟩, (hk _ hi).read fun i y _ hy => ?_⟩
    rw [hget]
    by_cases hc : off ≤ i ∧ i < off + vs.length
    · rw [if_pos hc] at hy
      rw [if_pos (by omega), show ρ.o id + i - (ρ.o id + off + 0) = i - off by omega]
      exact hy
    · rw [if_neg hc] at hy
      rw [if_neg (by omega)]
      exact hy
  · rename_i n he
    obtain ⟨ho, hg, xs, hx, hl, hi⟩ := h
    have hxl : off + vs.length ≤ xs.length := by omega
    rcases hx.2 with ⟨hv, h0⟩ | ⟨g, cap, cur, hv, h0, hgg, hnc, hcm, hcs, htake⟩
    · exfalso; have h1 := hx.1; rw [h0] at h1; simp only [Nat.zero_mul] at h1; omega
    · have hgb : g = ρ.b id := hg g (by rw [hv]; rfl)
      subst hgb
      have hcur : xs.length ≤ cur.size := by rw [← htake]; simp; omega
      obtain ⟨w', arr', hrun, hr', hsz, hget, hhs, hoth, hos, htp, hout⟩ := run_storeCells' (P := P) (b := ρ.b id) (o := ρ.o id + off) vs 0 cur w hgg (by intro j _ hj; simp at hj) (by rw [ho]; omega) hone
      refine ⟨by simp [live, he, hv, Value.ownBlock], w', hrun, ?_, hhs, hoth, hos, htp, hout⟩
      unfold BlkRel
      simp only [he]
      refine ⟨ho, hg, arr'.toList.take (n * P.cellsOf blk.ty), ⟨by simp; rw [hsz, hcs]; exact Nat.min_eq_left (Nat.mul_le_mul_right _ hnc), .inr ⟨ρ.b id, cap, arr', hv, h0, hr', hnc, hcm, by rw [hsz, hcs], rfl⟩⟩, ?_, ?_⟩
      · rw [hlen, ← hl, hx.1]; simp; rw [hsz, hcs]; exact Nat.min_eq_left (Nat.mul_le_mul_right _ hnc)
      · refine (hk _ hi).read fun i y hik hy => ?_
        rw [hlen, ← hl, hx.1] at hik
        rw [List.getElem?_take, if_pos hik]
        have : arr'.toList[i]? = arr'[i]? := by simp
        rw [this, hget]
        by_cases hc : off ≤ i ∧ i < off + vs.length
        · rw [if_pos hc] at hy
          rw [if_pos (by omega), show i - (ρ.o id + off + 0) = i - off by omega]
          exact hy
        · rw [if_neg hc] at hy
          rw [if_neg (by omega)]
          rw [← htake, List.getElem?_take, if_pos hik] at hy
          simpa using hy

theorem RW.cells {ρ : Env} {x : W} {y : Value} (h : RW ρ x y) (hno : x.flat = true) : RL (RC ρ) x.cells y.cells.toList := by
  cases x with
  | c x =>
    have : y.cells = #[y] := by
      cases y with
      | agg cs =>
        cases x with
        | v v => simp only [RW, RC] at h; subst h; simp [W.flat, C.one] at hno
        | ptr _ _ => simp [RW, RC] at h
        | sl _ _ _ => obtain ⟨a, cap, h, _⟩ := h; cases h
        | own _ => exact absurd h.2 (by simp [Value.oneCell'])
        | fn _ _ => simp [RW, RC] at h
      | _ => rfl
    rw [this]
    exact .cons h .nil
  | agg l =>
    obtain ⟨cs, rfl, hl⟩ := h
    simpa [W.cells, Value.cells] using hl
  | ints k l =>
    simp only [RW] at h
    subst h
    simp only [W.cells, Value.cells]
    refine RL.of_get _ _ (by simp) fun i a b ha hb => ?_
    simp at ha hb
    obtain ⟨n, hn, rfl⟩ := ha
    obtain ⟨m, hm, rfl⟩ := hb
    rw [hn] at hm
    cases hm
    rfl

end Sx
