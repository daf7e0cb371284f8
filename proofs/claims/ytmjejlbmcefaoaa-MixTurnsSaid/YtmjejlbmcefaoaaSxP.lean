/- The symbolic executor, part P: a region that draws its order comes to what the text's order comes to. -/
import Derived.Test.YtmjejlbmcefaoaaSxO
namespace Sx
open Go Go.RowKit

theorem edgesOf_mem {o : Oper} {k : Nat} (h : k ∈ edgesOf o) : ∃ e ∈ o.after, Region.binds .any e = true ∧ e.on = k := by
  simp only [edgesOf, List.mem_filterMap] at h
  obtain ⟨e, he, hk⟩ := h
  cases hb : Region.binds .any e with
  | false => simp [hb] at hk
  | true => simp [hb] at hk; exact ⟨e, by simpa using he, hb, hk⟩

theorem mem_edgesOf {o : Oper} {e : Edge} (he : e ∈ o.after) (hb : Region.binds .any e = true) : e.on ∈ edgesOf o := by
  simp only [edgesOf, List.mem_filterMap]
  exact ⟨e, by simpa using he, by simp [hb]⟩

theorem anc_listed {l : List Oper} {listed : Nat → Bool} (hcl : ∀ i o, l[i]? = some o → listed i = true → ∀ k ∈ edgesOf o, listed k = true) (hlt : ∀ (i : Nat) o, l[i]? = some o → ∀ k ∈ edgesOf o, k < i) :
    ∀ (m i : Nat) o j, i ≤ m → l[i]? = some o → (∀ k ∈ edgesOf o, listed k = true) → ((masks l []).getD i 0).testBit j = true → listed j = true := by
  intro m
  induction m with
  | zero =>
    intro i o j hi ho hk hb
    have := masks_bit l [] i o j ho (by simpa using hb)
    obtain ⟨k, hkm, _⟩ := this
    have := hlt i o ho k hkm
    omega
  | succ m ih =>
    intro i o j hi ho hk hb
    obtain ⟨k, hkm, h⟩ := masks_bit l [] i o j ho (by simpa using hb)
    rcases h with rfl | h
    · exact hk j hkm
    · have hki := hlt i o ho k hkm
      have hkl : k < l.length := by have := (List.getElem?_eq_some_iff.1 ho).1; omega
      exact ih k _ j (by omega) (List.getElem?_eq_getElem hkl) (hcl k _ (List.getElem?_eq_getElem hkl) (hk k hkm)) h

def usedIn (nx : Nat) (n : Nat) (L : List Nat) (id : Nat) : Prop := id < nx ∨ ∃ i, i < n ∧ i ∉ L ∧ inR (nx + 4 * i) id

theorem allObs_mem : ∀ (es : List Eff) (i : Nat) (e : Eff), es[i]? = some e → ∀ b ∈ e.obs, b ∈ allObs es
  | [], i, e, h, _, _ => by simp at h
  | e' :: r, 0, e, h, b, hb => by simp at h; subst h; simp [allObs, hb]
  | e' :: r, i + 1, e, h, b, hb => by simp only [allObs, List.mem_append]; exact .inr (allObs_mem r i e (by simpa using h) b hb)

theorem any_ok {P : Program} {tab : Tab} (hT : TabOk P tab) {as : List (Nat × Bool)} {nx : Nat} {gd : Nat → Option Nat} {I : Nat × Env} {F : Nat → Prop} {w0 : World} {n : Nat} {ops : Array Oper} {Q : Exit → Act → World → Prop}
    (hgd : ∀ j, gd j = (ops[j]?).bind (·.dst)) {es : List Eff} {t' : Tms} {M' : Mem} (hlen : es.length = ops.size) (hreg : regOk gd ops.toList es = true) (ho : ∀ b ∈ allObs es, b = true) (hd : ∀ o ∈ ops.toList, dstOk n o = true)
    (hQ : ∀ a' w' ρ', Sim P I F w0 (fun id => id < nx + 4 * ops.size) ρ' t' M' n a' w' → Q .normal a' w') :
    ∀ (k : Nat) (L : List Nat) (listed : Array Bool) (t : Tms) (M : Mem) (ρ : Env) (a : Act) (w : World), L.length = k → (∀ i, i ∈ L ↔ i < ops.size ∧ listed.getD i false = false) → L.Pairwise (· < ·) →
      Runs P tab as nx gd ops.toList es L t M → fin ops.toList es L t M = (t', M') → (∀ i o, ops.toList[i]? = some o → listed.getD i false = true → ∀ k ∈ edgesOf o, listed.getD k false = true) → listed.size = ops.size →
      Sim P I F w0 (usedIn nx ops.size L) ρ t M n a w → wpAny P .any ops Q k listed a w := by
  simp only [regOk, Bool.and_eq_true] at hreg
  obtain ⟨hedge, hpairs⟩ := hreg
  have hlt : ∀ (i : Nat) o, ops.toList[i]? = some o → ∀ k ∈ edgesOf o, k < i := fun i o hi k hk => by have := edgesOk_ok _ 0 hedge i o hi k hk; omega
  have hnotready : ∀ (L : List Nat) (listed : Array Bool), (∀ i, i ∈ L ↔ i < ops.size ∧ listed.getD i false = false) → L.Pairwise (· < ·) → listed.size = ops.size → Region.ready .any ops listed = [] → L = [] := by
    intro L listed hL hp hsz hr
    cases L with
    | nil => rfl
    | cons i L =>
      exfalso
      have hi := (hL i).1 (by simp)
      have hmem : i ∈ Region.ready .any ops listed := by
        rw [mem_ready]
        refine ⟨?_, ops[i], by simp [hi.1], fun e he hb => ?_⟩
        · have := hi.2
          simp only [Array.getD_eq_getD_getElem?] at this ⊢
          rw [Array.getElem?_eq_getElem (by omega)] at this ⊢
          simpa using this
        · have hk := hlt i ops[i] (by simp [hi.1]) e.on (mem_edgesOf he hb)
          cases hl : listed.getD e.on false with
          | true => rfl
          | false =>
            exfalso
            have hmem : e.on ∈ i :: L := (hL e.on).2 ⟨by omega, hl⟩
            rcases List.mem_cons.1 hmem with h | h
            · omega
            · have := (List.pairwise_cons.1 hp).1 _ h
              omega
      rw [hr] at hmem
      cases hmem
  intro k
  induction k with
  | zero =>
    intro L listed t M ρ a w hk hL hp hrun hfin hcl hsz hs
    have : L = [] := List.eq_nil_of_length_eq_zero hk
    subst this
    simp only [fin, Prod.mk.injEq] at hfin
    obtain ⟨rfl, rfl⟩ := hfin
    refine ⟨?_, hQ a w ρ (hs.mono fun id h => ?_)⟩
    · cases hr : Region.ready .any ops listed with
      | nil => rfl
      | cons i r =>
        exfalso
        have hmem : i ∈ Region.ready .any ops listed := by rw [hr]; simp
        rw [mem_ready] at hmem
        obtain ⟨h0, o, hoi, _⟩ := hmem
        have hi : i < ops.size := (Array.getElem?_eq_some_iff.1 hoi).1
        have := (hL i).2 ⟨hi, by
          simp only [Array.getD_eq_getD_getElem?] at h0 ⊢
          rw [Array.getElem?_eq_getElem (by omega)] at h0 ⊢
          simpa using h0⟩
        cases this
    · rcases h with h | ⟨i, hi, _, hr⟩
      · omega
      · unfold inR at hr; omega
  | succ k ih =>
    intro L listed t M ρ a w hk hL hp hrun hfin hcl hsz hs
    refine ⟨fun hr => by have := hnotready L listed hL hp hsz hr; subst this; simp at hk, fun x hx => ?_⟩
    have hx' := hx
    rw [mem_ready] at hx
    obtain ⟨hx0, o, hox, hedges⟩ := hx
    have hxs : x < ops.size := (Array.getElem?_eq_some_iff.1 hox).1
    have hxl : listed.getD x false = false := by
      simp only [Array.getD_eq_getD_getElem?] at hx0 ⊢
      rw [Array.getElem?_eq_getElem (by omega)] at hx0 ⊢
      simpa using hx0
    have hxL : x ∈ L := (hL x).2 ⟨hxs, hxl⟩
    obtain ⟨L1, L2, rfl⟩ := List.append_of_mem hxL
    have hpw := List.pairwise_append.1 hp
    have hx2 := List.pairwise_cons.1 hpw.2.1
    have hlox : ops.toList[x]? = some o := by simpa using hox
    have hind : ∀ j ∈ L1, IndepAt gd ops.toList es j x := by
      intro j hj oj ej ox ex hoj hej hox' hex
      have hjx : j < x := hpw.2.2 j hj x (by simp)
      have hml : (masks ops.toList []).length = ops.size := by rw [masks_length]; simp
      have hmx : (masks ops.toList [])[x]? = some ((masks ops.toList []).getD x 0) := by
        simp [List.getD, List.getElem?_eq_getElem (show x < (masks ops.toList []).length by omega)]
      have hmj : (masks ops.toList [])[j]? = some ((masks ops.toList []).getD j 0) := by
        simp [List.getD, List.getElem?_eq_getElem (show j < (masks ops.toList []).length by omega)]
      have := pairsOk_ok _ 0 hpairs j x oj ej _ ox ex _ hjx (zip3_get _ _ _ j _ _ _ hoj hej hmj) (zip3_get _ _ _ x _ _ _ hox' hex hmx)
      rcases this with h | h
      · exfalso
        rw [hlox] at hox'
        cases hox'
        have := anc_listed (l := ops.toList) (listed := fun i => listed.getD i false) hcl hlt x x o j (Nat.le_refl _) hlox (fun k hk => by
          obtain ⟨e, he, hb, rfl⟩ := edgesOf_mem hk
          exact hedges e he hb) (by simpa using h)
        have hjL := (hL j).1 (by simp [hj])
        change listed.getD j false = true at this
        rw [hjL.2] at this
        cases this
      · exact h
    obtain ⟨o', e, ho', he, hev, hrun', hfin'⟩ := move P tab as nx gd ops.toList es x L2 L1 t M hind hrun
    rw [hlox] at ho'
    cases ho'
    have hnotin : x ∉ L1 ++ L2 := by
      intro h
      rcases List.mem_append.1 h with h | h
      · have := hpw.2.2 x h x (by simp); omega
      · have := hx2.1 x h; omega
    have key := evalOp_ok hT (ops := ops) (K := wpAny P .any ops Q k (listed.setIfInBounds x true)) (Q := Q) hev (fun b hb => ho b (allObs_mem es x e he b hb)) hs (fun id h1 h2 => by
        unfold inR at h2
        rcases h1 with h1 | ⟨i, hi, hiL, h1⟩
        · omega
        · unfold inR at h1
          have : i = x := by omega
          subst this
          exact hiL (by simp)) hgd
      (fun d hdd => by have := hd o (by simpa using List.mem_of_getElem? hlox); unfold dstOk at this; rw [hdd] at this; simpa using this)
      (fun a' w' ρ' hs' => ih (L1 ++ L2) _ _ _ ρ' a' w' (by simp at hk ⊢; omega) (fun i => by
          by_cases hix : i = x
          · subst hix
            simp only [hnotin, false_iff, not_and]
            intro _
            simp [hsz, hxs]
          · rw [getD_set_ne false (Ne.symm hix), ← hL i]
            simp only [List.mem_append, List.mem_cons, hix, false_or])
        (List.pairwise_append.2 ⟨hpw.1, hx2.2, fun a ha b hb => hpw.2.2 a ha b (by simp [hb])⟩) hrun' (hfin'.symm.trans hfin)
        (fun i oi hoi hli k hk => by
          by_cases hix : i = x
          · subst hix
            rw [hlox] at hoi
            cases hoi
            obtain ⟨ed, hed, hb, rfl⟩ := edgesOf_mem hk
            exact getD_set_true (hedges ed hed hb)
          · rw [getD_set_ne false (Ne.symm hix)] at hli
            exact getD_set_true (hcl i oi hoi hli k hk))
        (by simp [hsz])
        (hs'.mono fun id h => by
          rcases h with (h | ⟨i, hi, hiL, h⟩) | h
          · exact .inl h
          · exact .inr ⟨i, hi, fun hm => hiL (by
              rcases List.mem_append.1 hm with hm | hm
              · simp [hm]
              · simp [hm]), h⟩
          · exact .inr ⟨x, hxs, hnotin, h⟩))
    unfold wpOp
    rw [hox]
    simp only
    split
    · rename_i hw; rw [if_pos hw] at key; exact .inl key
    · rename_i hw; rw [if_neg hw] at key; exact key

end Sx
