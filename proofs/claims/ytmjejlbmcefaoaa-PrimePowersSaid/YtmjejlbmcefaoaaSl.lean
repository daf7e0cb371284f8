/- States at a loop's head made alike: a slice of one's own, an argument's slice, seen as slices that are only read. -/
import Derived.Test.YtmjejlbmcefaoaaSc
namespace Sx
open Go Go.RowKit

theorem tOf_set {u v' : V} {x : Nat} {v : V} : ∀ {ts : List Nat} {vs : List V} {i : Nat}, vs[i]? = some u → tOf ts (vs.set i v') x = some v → tOf ts vs x = some v ∨ (tOf ts vs x = some u ∧ v = v')
  | [], vs, i, _, h => by simp [tOf] at h
  | y :: ts, [], i, hv, h => by simp at hv
  | y :: ts, u0 :: vs, 0, hv, h => by
    simp only [List.set_cons_zero, tOf] at h ⊢
    simp only [List.getElem?_cons_zero, Option.some.injEq] at hv
    cases hb : Nat.beq x y with
    | true => simp only [hb, cond_true, Option.some.injEq] at h ⊢; exact .inr ⟨hv, h.symm⟩
    | false => simp only [hb, cond_false] at h ⊢; exact .inl h
  | y :: ts, u0 :: vs, i + 1, hv, h => by
    simp only [List.set_cons_succ, tOf] at h ⊢
    cases hb : Nat.beq x y with
    | true => simp only [hb, cond_true] at h ⊢; exact .inl h
    | false => simp only [hb, cond_false] at h ⊢; exact tOf_set (by simpa using hv) h

/-- a slice of one's own seen as one that is only read. -/
theorem G.ownSl {X : Ctx} {k : List Item} {ts : List Nat} {vs : List V} {bs : List Blk} (i id : Nat) {n : Nat} {b : Blk} (hv : vs[i]? = some (.w (.c (.own id)))) (hb : bs[id]? = some b) (hm : b.mode = .own n)
    (hg : G X (cfg k ts (vs.set i (.w (.c (.sl id 0 n)))) (bs.set id ⟨b.ty, .ro, b.k⟩))) : G X (cfg k ts vs bs) := by
  intro ρ a w hs
  refine hg ρ a w ?_
  have hb' : mOf bs id = some b := by rw [mOf_get]; exact hb
  have hlt : id < bs.length := (List.getElem?_eq_some_iff.1 hb).1
  have hget : ∀ j c, mOf (bs.set id ⟨b.ty, .ro, b.k⟩) j = some c → (j ≠ id ∧ mOf bs j = some c) ∨ (j = id ∧ c = ⟨b.ty, .ro, b.k⟩) := by
    intro j c hc
    rw [mOf_get, List.getElem?_set] at hc
    by_cases hji : id = j
    · subst hji
      simp [hlt] at hc
      exact .inr ⟨rfl, hc.symm⟩
    · simp only [hji, if_false] at hc
      exact .inl ⟨fun h => hji h.symm, by rw [mOf_get]; exact hc⟩
  have hrel := hs.mem.rel id b hb'
  have hcells := hrel.cells
  have hnl : ¬ live ρ id ⟨b.ty, .ro, b.k⟩ := fun h => h
  have hrel2 := hrel
  unfold BlkRel at hrel2
  rw [hm] at hrel2
  obtain ⟨ho0, hgb, xs, hown, hl, hi⟩ := hrel2
  have hnn : ∀ z, RC ρ (.own id) z → RC ρ (.sl id 0 n) z := by
    intro z hz
    have hz : z = ρ.val id := hz.1
    rcases hown.2 with ⟨hv, h0⟩ | ⟨g, cap, cur, hv, _, _, hcap, _⟩
    · exact ⟨none, 0, by rw [hz, hv, h0], by omega, by omega⟩
    · have hg := hgb g (by rw [hv]; rfl)
      exact ⟨some ⟨g, 0, none⟩, cap, by rw [hz, hv], hcap, fun _ => by rw [← hg, ho0]⟩
  have hlive : 0 < b.k.len → live ρ id b := by
    intro h0
    unfold live
    rw [hm]
    rcases hown.2 with ⟨hv, hn0⟩ | ⟨g, cap, cur, hv, _⟩
    · exfalso
      have h1 := hown.1
      rw [hn0] at h1
      simp at h1
      rw [h1] at hl
      simp at hl
      omega
    · simp only [hv]
      intro h; cases h
  refine ⟨?_, hs.sz, hs.df, ⟨?_, ?_⟩, ?_, hs.fr, ?_, ?_, ?_, hs.ini, ?_⟩
  · intro x v hx
    rcases tOf_set hv hx with h | ⟨h, rfl⟩
    · exact hs.tm x v h
    · obtain ⟨y, hy, hr⟩ := hs.tm x _ h
      exact ⟨y, hy, hnn y hr⟩
  · intro j c hc
    rcases hget j c hc with ⟨_, h⟩ | ⟨rfl, rfl⟩
    · exact hs.mem.rel j c h
    · refine ⟨hcells, fun h0 => ?_⟩
      exact hrel.lt (.inl (hlive h0))
  · intro i' j bi bj hi' hj hli hlj hij
    rcases hget i' bi hi' with ⟨h1, h2⟩ | ⟨rfl, rfl⟩
    · rcases hget j bj hj with ⟨h3, h4⟩ | ⟨rfl, rfl⟩
      · exact hs.mem.inj i' j bi bj h2 h4 hli hlj hij
      · refine hs.mem.inj i' j bi b h2 hb' hli ?_ hij
        rcases hlj with hlj | ⟨_, hpos⟩
        · exact absurd hlj hnl
        · exact .inl (hlive hpos)
    · exact absurd hli hnl
  · intro j c hc hl'
    rcases hget j c hc with ⟨_, h⟩ | ⟨rfl, rfl⟩
    · exact hs.lo j c h hl'
    · exact absurd hl' hnl
  · intro x v hx j hj
    show j < (bs.set id _).length
    rw [List.length_set]
    rcases tOf_set hv hx with h | ⟨h, rfl⟩
    · exact hs.ut x v h j hj
    · have : j = id := by simpa [V.ids, W.ids, C.ids] using hj
      omega
  · intro j c hc
    show j < (bs.set id _).length
    rw [List.length_set]
    rcases hget j c hc with ⟨_, h⟩ | ⟨rfl, _⟩
    · exact hs.um j c h
    · exact hlt
  · intro j c hc q hq
    show q < (bs.set id _).length
    rw [List.length_set]
    rcases hget j c hc with ⟨_, h⟩ | ⟨rfl, rfl⟩
    · exact hs.uk j c h q hq
    · exact hs.uk j b hb' q hq
  · intro q hq
    show q < (bs.set id _).length
    rw [List.length_set]
    exact hs.ui q hq

/-- an argument's slice seen a second time, as one that is only read. -/
theorem G.aliasRo {X : Ctx} {k : List Item} {ts : List Nat} {vs : List V} {bs : List Blk} (i : Nat) {j off n : Nat} {b : Blk} (hv : vs[i]? = some (.w (.c (.sl j off n)))) (hb : bs[j]? = some b) (hm : b.mode = .ro) (hn : X.I.1 ≤ bs.length)
    (hg : G X (cfg k ts (vs.set i (.w (.c (.sl bs.length off n)))) (bs ++ [b]))) : G X (cfg k ts vs bs) := by
  intro ρ a w hs
  let ρ' : Env := ⟨fun q => if q = bs.length then ρ.b j else ρ.b q, fun q => if q = bs.length then ρ.o j else ρ.o q, ρ.val⟩
  have hsame : ∀ q, q < bs.length → ρ.same ρ' q := fun q hq => by
    have : q ≠ bs.length := by omega
    exact ⟨by simp [ρ', this], by simp [ρ', this], rfl⟩
  have hb' : mOf bs j = some b := by rw [mOf_get]; exact hb
  have hget : ∀ id c, mOf (bs ++ [b]) id = some c → (id < bs.length ∧ mOf bs id = some c) ∨ (id = bs.length ∧ c = b) := by
    intro id c hc
    rw [mOf_get] at hc
    rcases Nat.lt_or_ge id bs.length with h | h
    · rw [List.getElem?_append_left h] at hc
      exact .inl ⟨h, by rw [mOf_get]; exact hc⟩
    · rw [List.getElem?_append_right h] at hc
      have hlen := (List.getElem?_eq_some_iff.1 hc).1
      simp at hlen
      have : id = bs.length := by omega
      subst this
      simp at hc
      exact .inr ⟨rfl, hc.symm⟩
  have hnl : ∀ (ρ : Env) q, ¬ live ρ q b := by
    intro ρ q h
    unfold live at h
    rw [hm] at h
    exact h
  have hrel := hs.mem.rel j b hb'
  have hro : b.ro := by unfold Blk.ro; rw [hm]; trivial
  have eb : ρ'.b bs.length = ρ.b j := by simp [ρ']
  have eo : ρ'.o bs.length = ρ.o j := by simp [ρ']
  refine hg ρ' a w ⟨?_, hs.sz, hs.df, ⟨?_, ?_⟩, ?_, hs.fr, ?_, ?_, ?_, ?_, ?_⟩
  · intro x v hx
    rcases tOf_set hv hx with h | ⟨h, rfl⟩
    · obtain ⟨y, hy, hr⟩ := hs.tm x v h
      exact ⟨y, hy, hr.env fun q hq => hsame q (hs.ut x v h q hq)⟩
    · obtain ⟨y, hy, hr⟩ := hs.tm x _ h
      obtain ⟨p, cap, h1, h2, h3⟩ := hr
      exact ⟨y, hy, p, cap, h1, h2, fun hp => by rw [eb, eo]; exact h3 hp⟩
  · intro id c hc
    rcases hget id c hc with ⟨h, hc'⟩ | ⟨rfl, rfl⟩
    · exact (hs.mem.rel id c hc').env (hsame id h) fun q hq => hsame q (hs.uk id c hc' q hq)
    · unfold BlkRel at hrel ⊢
      rw [hm] at hrel ⊢
      simp only [eb, eo]
      exact ⟨K.Is.env hrel.1 fun q hq => hsame q (hs.uk j c hb' q hq), hrel.2⟩
  · intro i' q bi bq hi hq hli hlq hij
    rcases hget i' bi hi with ⟨h1, h2⟩ | ⟨rfl, rfl⟩
    · have hli' := (live_env (hsame i' h1)).1 hli
      rcases hget q bq hq with ⟨h3, h4⟩ | ⟨rfl, rfl⟩
      · have := hs.mem.inj i' q bi bq h2 h4 hli' (hlq.imp (live_env (hsame q h3)).1 id) hij
        rw [(hsame i' h1).b, (hsame q h3).b]; exact this
      · have hne : i' ≠ j := by
          rintro rfl
          rw [hb'] at h2
          cases h2
          exact hnl _ _ hli
        rw [(hsame i' h1).b, eb]
        refine hs.mem.inj i' j bi bq h2 hb' hli' (.inr ⟨hro, ?_⟩) hne
        rcases hlq with hlq | ⟨_, hpos⟩
        · exact absurd hlq (hnl _ _)
        · exact hpos
    · exact absurd hli (hnl _ _)
  · intro id c hc hl'
    rcases hget id c hc with ⟨h, hc'⟩ | ⟨rfl, rfl⟩
    · rw [(hsame id h).b]; exact hs.lo id c hc' ((live_env (hsame id h)).1 hl')
    · exact absurd hl' (hnl _ _)
  · intro x v hx q hq
    show q < (bs ++ [b]).length
    rw [List.length_append, List.length_singleton]
    rcases tOf_set hv hx with h | ⟨h, rfl⟩
    · have := hs.ut x v h q hq
      change q < bs.length at this
      omega
    · have : q = bs.length := by simpa [V.ids, W.ids, C.ids] using hq
      omega
  · intro id c hc
    show id < (bs ++ [b]).length
    rw [List.length_append, List.length_singleton]
    rcases hget id c hc with ⟨h, _⟩ | ⟨rfl, _⟩ <;> omega
  · intro id c hc q hq
    show q < (bs ++ [b]).length
    rw [List.length_append, List.length_singleton]
    rcases hget id c hc with ⟨h, hc'⟩ | ⟨_, rfl⟩
    · have := hs.uk id c hc' q hq
      change q < bs.length at this
      omega
    · have := hs.uk j c hb' q hq
      change q < bs.length at this
      omega
  · intro q hq
    have h1 := hs.ini q hq
    have h2 := hsame q (by omega)
    exact ⟨by rw [h2.b, h1.b], by rw [h2.o, h1.o], by rw [h2.val, h1.val]⟩
  · intro q hq
    show q < (bs ++ [b]).length
    rw [List.length_append, List.length_singleton]
    omega
end Sx
