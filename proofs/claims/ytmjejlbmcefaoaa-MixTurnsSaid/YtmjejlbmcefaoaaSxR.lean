/- The symbolic executor, part R: names of blocks changed; what is kept at a loop's head. -/
import Derived.Test.YtmjejlbmcefaoaaSxQ
namespace Sx
open Go Go.RowKit

def posOf : List Nat → Nat → Nat → Option Nat
  | [], _, _ => none
  | x :: r, i, id => bif Nat.beq x id then some i else posOf r (i + 1) id

theorem posOf_ok : ∀ (l : List Nat) (i id j : Nat), posOf l i id = some j → i ≤ j ∧ l[j - i]? = some id
  | [], i, id, j, h => by simp [posOf] at h
  | x :: r, i, id, j, h => by
    simp only [posOf] at h
    cases hb : Nat.beq x id with
    | true => simp [hb] at h; subst h; have := Nat.beq_eq.mp hb; subst this; simp
    | false =>
      simp only [hb, cond_false] at h
      obtain ⟨h1, h2⟩ := posOf_ok r (i + 1) id j h
      refine ⟨by omega, ?_⟩
      rw [show j - i = (j - (i + 1)) + 1 by omega]
      simpa using h2

theorem posOf0 {l : List Nat} {id j : Nat} (h : posOf l 0 id = some j) : l[j]? = some id := by simpa using (posOf_ok l 0 id j h).2

def renCaps (σ : List Nat) : List (Nat × Nat) → Option (List (Nat × Nat))
  | [] => some []
  | (id, off) :: r =>
    match posOf σ 0 id with
    | some j => match renCaps σ r with
      | some l => some ((j, off) :: l)
      | none => none
    | none => none

def C.ren (σ : List Nat) : C → Option C
  | .v x => some (.v x)
  | .ptr id off => match posOf σ 0 id with | some j => some (.ptr j off) | none => none
  | .sl id off len => match posOf σ 0 id with | some j => some (.sl j off len) | none => none
  | .own id => match posOf σ 0 id with | some j => some (.own j) | none => none
  | .fn f caps => match renCaps σ caps with | some l => some (.fn f l) | none => none

def renCs (σ : List Nat) : List C → Option (List C)
  | [] => some []
  | c :: r => match c.ren σ with
    | some c' => match renCs σ r with
      | some l => some (c' :: l)
      | none => none
    | none => none

def W.ren (σ : List Nat) : W → Option W
  | .c x => match x.ren σ with | some y => some (.c y) | none => none
  | .agg l => match renCs σ l with | some m => some (.agg m) | none => none
  | .ints k l => some (.ints k l)

def renWs (σ : List Nat) : List W → Option (List W)
  | [] => some []
  | c :: r => match c.ren σ with
    | some c' => match renWs σ r with
      | some l => some (c' :: l)
      | none => none
    | none => none

def V.ren (σ : List Nat) : V → Option V
  | .w x => match x.ren σ with | some y => some (.w y) | none => none
  | .tup l => match renWs σ l with | some m => some (.tup m) | none => none

def K.ren (σ : List Nat) : K → Option K
  | .cs l => match renCs σ l with | some m => some (.cs m) | none => none
  | .ints k l => some (.ints k l)
  | .strs l => some (.strs l)

def Env.pull (ρ : Env) (σ : List Nat) : Env where
  b := fun j => ρ.b (σ.getD j 0)
  o := fun j => ρ.o (σ.getD j 0)
  val := fun j => ρ.val (σ.getD j 0)

theorem getD_of {σ : List Nat} {j id : Nat} (h : σ[j]? = some id) : σ.getD j 0 = id := by simp [List.getD, h]

theorem renCaps_ok {ρ : Env} {σ : List Nat} : ∀ {l m : List (Nat × Nat)}, renCaps σ l = some m →
    (m.map fun p => Value.pointer (some ⟨(ρ.pull σ).b p.1, (ρ.pull σ).o p.1 + p.2, none⟩)) = (l.map fun p => Value.pointer (some ⟨ρ.b p.1, ρ.o p.1 + p.2, none⟩))
  | [], m, h => by simp [renCaps] at h; subst h; rfl
  | (id, off) :: r, m, h => by
    simp only [renCaps] at h
    cases hp : posOf σ 0 id with
    | none => simp [hp] at h
    | some j =>
      simp only [hp] at h
      cases hr : renCaps σ r with
      | none => simp [hr] at h
      | some l =>
        simp [hr] at h
        subst h
        simp only [List.map_cons]
        rw [renCaps_ok hr]
        simp [Env.pull, posOf0 hp]

theorem C.ren_ok {ρ : Env} {σ : List Nat} {c c' : C} (h : c.ren σ = some c') (y : Value) : RC (ρ.pull σ) c' y ↔ RC ρ c y := by
  cases c with
  | v x => simp [C.ren] at h; subst h; exact Iff.rfl
  | ptr id off =>
    simp only [C.ren] at h
    cases hp : posOf σ 0 id with
    | none => simp [hp] at h
    | some j => simp [hp] at h; subst h; simp [RC, Env.pull, posOf0 hp]
  | sl id off len =>
    simp only [C.ren] at h
    cases hp : posOf σ 0 id with
    | none => simp [hp] at h
    | some j => simp [hp] at h; subst h; simp [RC, Env.pull, posOf0 hp]
  | own id =>
    simp only [C.ren] at h
    cases hp : posOf σ 0 id with
    | none => simp [hp] at h
    | some j => simp [hp] at h; subst h; simp [RC, Env.pull, posOf0 hp]
  | fn f caps =>
    simp only [C.ren] at h
    cases hp : renCaps σ caps with
    | none => simp [hp] at h
    | some l => simp [hp] at h; subst h; simp only [RC]; rw [renCaps_ok hp]

theorem renCs_ok {ρ : Env} {σ : List Nat} : ∀ {l m : List C}, renCs σ l = some m → ∀ vs, RL (RC (ρ.pull σ)) m vs ↔ RL (RC ρ) l vs
  | [], m, h, vs => by
    simp [renCs] at h; subst h
    constructor <;> intro h <;> cases h <;> exact .nil
  | c :: r, m, h, vs => by
    simp only [renCs] at h
    cases hc : c.ren σ with
    | none => simp [hc] at h
    | some c' =>
      simp only [hc] at h
      cases hr : renCs σ r with
      | none => simp [hr] at h
      | some l =>
        simp [hr] at h; subst h
        constructor
        · intro h; cases h with | cons a b => exact .cons ((C.ren_ok hc _).1 a) ((renCs_ok hr _).1 b)
        · intro h; cases h with | cons a b => exact .cons ((C.ren_ok hc _).2 a) ((renCs_ok hr _).2 b)

theorem W.ren_ok {ρ : Env} {σ : List Nat} {x x' : W} (h : x.ren σ = some x') (y : Value) : RW (ρ.pull σ) x' y ↔ RW ρ x y := by
  cases x with
  | c c =>
    simp only [W.ren] at h
    cases hc : c.ren σ with
    | none => simp [hc] at h
    | some c' => simp [hc] at h; subst h; exact C.ren_ok hc y
  | agg l =>
    simp only [W.ren] at h
    cases hc : renCs σ l with
    | none => simp [hc] at h
    | some m =>
      simp [hc] at h; subst h
      simp only [RW]
      constructor
      · rintro ⟨cs, hy, hl⟩; exact ⟨cs, hy, (renCs_ok hc cs).1 hl⟩
      · rintro ⟨cs, hy, hl⟩; exact ⟨cs, hy, (renCs_ok hc cs).2 hl⟩
  | ints k l => simp [W.ren] at h; subst h; exact Iff.rfl

theorem renWs_ok {ρ : Env} {σ : List Nat} : ∀ {l m : List W}, renWs σ l = some m → ∀ vs, RL (RW (ρ.pull σ)) m vs ↔ RL (RW ρ) l vs
  | [], m, h, vs => by
    simp [renWs] at h; subst h
    constructor <;> intro h <;> cases h <;> exact .nil
  | c :: r, m, h, vs => by
    simp only [renWs] at h
    cases hc : c.ren σ with
    | none => simp [hc] at h
    | some c' =>
      simp only [hc] at h
      cases hr : renWs σ r with
      | none => simp [hr] at h
      | some l =>
        simp [hr] at h; subst h
        constructor
        · intro h; cases h with | cons a b => exact .cons ((W.ren_ok hc _).1 a) ((renWs_ok hr _).1 b)
        · intro h; cases h with | cons a b => exact .cons ((W.ren_ok hc _).2 a) ((renWs_ok hr _).2 b)

theorem V.ren_ok {ρ : Env} {σ : List Nat} {x x' : V} (h : x.ren σ = some x') (y : Value) : RV (ρ.pull σ) x' y ↔ RV ρ x y := by
  cases x with
  | w c =>
    simp only [V.ren] at h
    cases hc : c.ren σ with
    | none => simp [hc] at h
    | some c' => simp [hc] at h; subst h; exact W.ren_ok hc y
  | tup l =>
    simp only [V.ren] at h
    cases hc : renWs σ l with
    | none => simp [hc] at h
    | some m =>
      simp [hc] at h; subst h
      simp only [RV]
      constructor
      · rintro ⟨cs, hy, hl⟩; exact ⟨cs, hy, (renWs_ok hc cs).1 hl⟩
      · rintro ⟨cs, hy, hl⟩; exact ⟨cs, hy, (renWs_ok hc cs).2 hl⟩

theorem renCs_get {σ : List Nat} : ∀ {l m : List C}, renCs σ l = some m → l.length = m.length ∧ ∀ (i : Nat) c c', l[i]? = some c → m[i]? = some c' → c.ren σ = some c'
  | [], m, h => by simp [renCs] at h; subst h; simp
  | c :: r, m, h => by
    simp only [renCs] at h
    cases hc : c.ren σ with
    | none => simp [hc] at h
    | some c' =>
      simp only [hc] at h
      cases hr : renCs σ r with
      | none => simp [hr] at h
      | some l =>
        simp [hr] at h; subst h
        obtain ⟨h1, h2⟩ := renCs_get hr
        refine ⟨by simp [h1], fun i a a' ha ha' => ?_⟩
        cases i with
        | zero => simp at ha ha'; subst ha; subst ha'; exact hc
        | succ i => exact h2 i a a' (by simpa using ha) (by simpa using ha')

theorem K.ren_ok {ρ : Env} {σ : List Nat} {k k' : K} (h : k.ren σ = some k') (read : Nat → Option Value) : (k'.Is (ρ.pull σ) read ↔ k.Is ρ read) ∧ k'.len = k.len := by
  cases k with
  | cs l =>
    simp only [K.ren] at h
    cases hc : renCs σ l with
    | none => simp [hc] at h
    | some m =>
      simp [hc] at h; subst h
      obtain ⟨h1, h2⟩ := renCs_get hc
      refine ⟨?_, by simp [K.len, h1]⟩
      constructor
      · intro h i c hi
        have hlt : i < l.length := (List.getElem?_eq_some_iff.1 hi).1
        obtain ⟨y, hy, hr⟩ := h i _ (List.getElem?_eq_getElem (by omega))
        exact ⟨y, hy, (C.ren_ok (h2 i _ _ hi (List.getElem?_eq_getElem (by omega))) y).1 hr⟩
      · intro h i c hi
        have hlt : i < m.length := (List.getElem?_eq_some_iff.1 hi).1
        obtain ⟨y, hy, hr⟩ := h i _ (List.getElem?_eq_getElem (by omega))
        exact ⟨y, hy, (C.ren_ok (h2 i _ _ (List.getElem?_eq_getElem (by omega)) hi) y).2 hr⟩
  | ints k l => simp [K.ren] at h; subst h; exact ⟨Iff.rfl, rfl⟩
  | strs l => simp [K.ren] at h; subst h; exact ⟨Iff.rfl, rfl⟩

def Blk.ren (σ : List Nat) (b : Blk) : Option Blk := match b.k.ren σ with | some k => some ⟨b.ty, b.mode, k⟩ | none => none

theorem Blk.ren_ok {P : Program} {ρ : Env} {σ : List Nat} {b b' : Blk} {id j : Nat} {w : World} (h : b.ren σ = some b') (hj : σ[j]? = some id) :
    (BlkRel P (ρ.pull σ) j b' w ↔ BlkRel P ρ id b w) ∧ b'.mode = b.mode ∧ b'.k.len = b.k.len := by
  unfold Blk.ren at h
  split at h
  · rename_i k hk
    simp only [Option.some.injEq] at h
    subst h
    have hki := fun read => (K.ren_ok (ρ := ρ) hk read).1
    have hkl := (K.ren_ok (ρ := ρ) hk (fun _ => none)).2
    refine ⟨?_, rfl, hkl⟩
    obtain ⟨ty, mode, k0⟩ := b
    simp only at hk hki hkl
    have e1 : (ρ.pull σ).b j = ρ.b id := by simp [Env.pull, hj]
    have e2 : (ρ.pull σ).o j = ρ.o id := by simp [Env.pull, hj]
    have e3 : (ρ.pull σ).val j = ρ.val id := by simp [Env.pull, hj]
    unfold BlkRel
    cases mode with
    | ro => simp only [e1, e2]; rw [hki, hkl]
    | rw =>
      simp only [e1, e2]
      constructor
      · rintro ⟨arr, h1, h2⟩; exact ⟨arr, h1, (hki _).1 h2⟩
      · rintro ⟨arr, h1, h2⟩; exact ⟨arr, h1, (hki _).2 h2⟩
    | own n =>
      simp only [e1, e2, e3]
      constructor
      · rintro ⟨h0, h1, xs, h2, h3, h4⟩; exact ⟨h0, h1, xs, h2, h3.trans hkl, (hki _).1 h4⟩
      · rintro ⟨h0, h1, xs, h2, h3, h4⟩; exact ⟨h0, h1, xs, h2, h3.trans hkl.symm, (hki _).2 h4⟩
  · cases h

theorem live_pull {ρ : Env} {σ : List Nat} {j id : Nat} {b b' : Blk} (hj : σ[j]? = some id) (hm : b'.mode = b.mode) : live (ρ.pull σ) j b' ↔ live ρ id b := by
  unfold live
  rw [hm]
  cases b.mode <;> simp [Env.pull, hj]

theorem ro_mode {b b' : Blk} (hm : b'.mode = b.mode) : b'.ro ↔ b.ro := by unfold Blk.ro; rw [hm]

/-- the ids that a renamed thing names are places of σ. -/
theorem C.ren_ids {σ : List Nat} {c c' : C} (h : c.ren σ = some c') : ∀ id ∈ c'.ids, id < σ.length := by
  have hp : ∀ {id j : Nat}, posOf σ 0 id = some j → j < σ.length := fun h => (List.getElem?_eq_some_iff.1 (posOf0 h)).1
  cases c with
  | v x => simp [C.ren] at h; subst h; simp [C.ids]
  | ptr id off =>
    simp only [C.ren] at h
    cases hq : posOf σ 0 id with
    | none => simp [hq] at h
    | some j => simp [hq] at h; subst h; simp [C.ids]; exact hp hq
  | sl id off len =>
    simp only [C.ren] at h
    cases hq : posOf σ 0 id with
    | none => simp [hq] at h
    | some j => simp [hq] at h; subst h; simp [C.ids]; exact hp hq
  | own id =>
    simp only [C.ren] at h
    cases hq : posOf σ 0 id with
    | none => simp [hq] at h
    | some j => simp [hq] at h; subst h; simp [C.ids]; exact hp hq
  | fn f caps =>
    simp only [C.ren] at h
    cases hq : renCaps σ caps with
    | none => simp [hq] at h
    | some l =>
      simp [hq] at h; subst h
      have : ∀ {l m : List (Nat × Nat)}, renCaps σ l = some m → ∀ id ∈ m.map (·.1), id < σ.length := by
        intro l
        induction l with
        | nil => intro m h; simp [renCaps] at h; subst h; simp
        | cons p r ih =>
          intro m h
          obtain ⟨id, off⟩ := p
          simp only [renCaps] at h
          cases hq : posOf σ 0 id with
          | none => simp [hq] at h
          | some j =>
            simp only [hq] at h
            cases hr : renCaps σ r with
            | none => simp [hr] at h
            | some l' =>
              simp [hr] at h; subst h
              intro x hx
              rcases List.mem_cons.1 hx with rfl | hx
              · exact hp hq
              · exact ih hr x hx
      exact this hq

theorem renCs_ids {σ : List Nat} : ∀ {l m : List C}, renCs σ l = some m → ∀ c ∈ m, ∀ id ∈ c.ids, id < σ.length
  | [], m, h => by simp [renCs] at h; subst h; simp
  | c :: r, m, h => by
    simp only [renCs] at h
    cases hc : c.ren σ with
    | none => simp [hc] at h
    | some c' =>
      simp only [hc] at h
      cases hr : renCs σ r with
      | none => simp [hr] at h
      | some l =>
        simp [hr] at h; subst h
        intro x hx
        rcases List.mem_cons.1 hx with rfl | hx
        · exact C.ren_ids hc
        · exact renCs_ids hr x hx

theorem W.ren_ids {σ : List Nat} {x x' : W} (h : x.ren σ = some x') : ∀ id ∈ x'.ids, id < σ.length := by
  cases x with
  | c c =>
    simp only [W.ren] at h
    cases hc : c.ren σ with
    | none => simp [hc] at h
    | some c' => simp [hc] at h; subst h; exact C.ren_ids hc
  | agg l =>
    simp only [W.ren] at h
    cases hc : renCs σ l with
    | none => simp [hc] at h
    | some m =>
      simp [hc] at h; subst h
      intro id hid
      simp only [W.ids, List.mem_flatMap] at hid
      obtain ⟨c, hcm, hid⟩ := hid
      exact renCs_ids hc c hcm id hid
  | ints k l => simp [W.ren] at h; subst h; simp [W.ids]

theorem renWs_ids {σ : List Nat} : ∀ {l m : List W}, renWs σ l = some m → ∀ c ∈ m, ∀ id ∈ c.ids, id < σ.length
  | [], m, h => by simp [renWs] at h; subst h; simp
  | c :: r, m, h => by
    simp only [renWs] at h
    cases hc : c.ren σ with
    | none => simp [hc] at h
    | some c' =>
      simp only [hc] at h
      cases hr : renWs σ r with
      | none => simp [hr] at h
      | some l =>
        simp [hr] at h; subst h
        intro x hx
        rcases List.mem_cons.1 hx with rfl | hx
        · exact W.ren_ids hc
        · exact renWs_ids hr x hx

theorem V.ren_ids {σ : List Nat} {x x' : V} (h : x.ren σ = some x') : ∀ id ∈ x'.ids, id < σ.length := by
  cases x with
  | w c =>
    simp only [V.ren] at h
    cases hc : c.ren σ with
    | none => simp [hc] at h
    | some c' => simp [hc] at h; subst h; exact W.ren_ids hc
  | tup l =>
    simp only [V.ren] at h
    cases hc : renWs σ l with
    | none => simp [hc] at h
    | some m =>
      simp [hc] at h; subst h
      intro id hid
      simp only [V.ids, List.mem_flatMap] at hid
      obtain ⟨c, hcm, hid⟩ := hid
      exact renWs_ids hc c hcm id hid

theorem Blk.ren_ids {σ : List Nat} {b b' : Blk} (h : b.ren σ = some b') : ∀ id ∈ b'.k.ids, id < σ.length := by
  unfold Blk.ren at h
  split at h
  · rename_i k hk
    simp only [Option.some.injEq] at h
    subst h
    cases hb : b.k with
    | cs l =>
      rw [hb] at hk
      simp only [K.ren] at hk
      cases hc : renCs σ l with
      | none => simp [hc] at hk
      | some m =>
        simp [hc] at hk; subst hk
        intro id hid
        simp only [K.ids, List.mem_flatMap] at hid
        obtain ⟨c, hcm, hid⟩ := hid
        exact renCs_ids hc c hcm id hid
    | ints k l => rw [hb] at hk; simp [K.ren] at hk; subst hk; simp [K.ids]
    | strs l => rw [hb] at hk; simp [K.ren] at hk; subst hk; simp [K.ids]
  · cases h

/-- a block seen as a row of whole numbers. -/
def viewK (v : Option IntKind) (k : K) : Option K :=
  match v with
  | none => some k
  | some kd =>
    match k with
    | .cs l => match toInts kd (l.map fun | .v x => x | _ => .nilFunc) with
      | some r => some (.ints kd r)
      | none => none
    | .ints kd' l => bif kEq kd kd' then some (.ints kd l) else none
    | _ => none

theorem viewK_ok {ρ : Env} {v : Option IntKind} {k k' : K} (h : viewK v k = some k') (read : Nat → Option Value) : (k.Is ρ read → k'.Is ρ read) ∧ k'.len = k.len ∧ (∀ id ∈ k'.ids, id ∈ k.ids) := by
  unfold viewK at h
  split at h
  · simp at h; subst h; exact ⟨id, rfl, fun _ h => h⟩
  · rename_i kd
    split at h
    · rename_i l
      split at h
      · rename_i r hr
        simp at h; subst h
        have hlen : r.length = l.length := by
          have := toInts_ok _ _ hr
          have := congrArg List.length this
          simpa using this.symm
        refine ⟨fun hk => ?_, hlen, by simp [K.ids]⟩
        obtain ⟨vs, hl, hv, hi⟩ := K.Is.list hk
        have h2 := toInts_cs hr ((K.Is.congr_cs hl).1 hi)
        exact ((K.Is.congr_ints (by simp [h2])).2 h2).read fun i y _ hy => hv i y hy
      · cases h
    · rename_i kd' l
      cases hk : kEq kd kd' with
      | false => simp [hk] at h
      | true =>
        simp [hk] at h; subst h
        have := kEq_ok hk
        subst this
        exact ⟨id, rfl, fun _ h => h⟩
    · cases h

end Sx
