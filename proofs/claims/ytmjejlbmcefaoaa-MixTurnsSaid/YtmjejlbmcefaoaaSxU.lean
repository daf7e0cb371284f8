/- The symbolic executor, part U: contracts, each proved in its own names of blocks, serve every caller. -/
import Derived.Test.YtmjejlbmcefaoaaSxT
namespace Sx
open Go Go.RowKit

def dedup : List Nat → List Nat → List Nat
  | [], acc => acc
  | x :: r, acc => dedup r (bif memB x acc then acc else acc ++ [x])

theorem dedup_nodup : ∀ (l acc : List Nat), acc.Nodup → (dedup l acc).Nodup
  | [], acc, h => h
  | x :: r, acc, h => by
    simp only [dedup]
    refine dedup_nodup r _ ?_
    cases hm : memB x acc with
    | true => exact h
    | false =>
      simp only [cond_false]
      refine List.nodup_append.2 ⟨h, by simp, fun a ha b hb => ?_⟩
      simp at hb
      subst hb
      rintro rfl
      rw [memB_iff.2 ha] at hm
      cases hm

def getBlks (σ : List Nat) (look : Mem) : List Nat → Option (List Blk)
  | [] => some []
  | id :: r =>
    match look id with
    | some b => match b.ren σ with
      | some b' => match getBlks σ look r with
        | some l => some (b' :: l)
        | none => none
      | none => none
    | none => none

theorem getBlks_ok {σ : List Nat} {look : Mem} : ∀ {l : List Nat} {bs : List Blk}, getBlks σ look l = some bs → bs.length = l.length ∧ ∀ (i : Nat) id, l[i]? = some id → ∃ b b', look id = some b ∧ b.ren σ = some b' ∧ bs[i]? = some b'
  | [], bs, h => by simp [getBlks] at h; subst h; simp
  | id :: r, bs, h => by
    simp only [getBlks] at h
    cases hl : look id with
    | none => simp [hl] at h
    | some b =>
      simp only [hl] at h
      cases hb : b.ren σ with
      | none => simp [hb] at h
      | some b' =>
        simp only [hb] at h
        cases hr : getBlks σ look r with
        | none => simp [hr] at h
        | some l =>
          simp [hr] at h
          subst h
          obtain ⟨h1, h2⟩ := getBlks_ok hr
          refine ⟨by simp [h1], fun i x hx => ?_⟩
          cases i with
          | zero => simp at hx; subst hx; exact ⟨b, b', hl, hb, by simp⟩
          | succ i => simpa using h2 i x (by simpa using hx)

def C.mapId (g : Nat → Nat) : C → C
  | .v x => .v x
  | .ptr id off => .ptr (g id) off
  | .sl id off len => .sl (g id) off len
  | .own id => .own (g id)
  | .fn f caps => .fn f (caps.map fun p => (g p.1, p.2))
def W.mapId (g : Nat → Nat) : W → W
  | .c x => .c (x.mapId g)
  | .agg l => .agg (l.map (C.mapId g))
  | .ints k l => .ints k l
def V.mapId (g : Nat → Nat) : V → V
  | .w x => .w (x.mapId g)
  | .tup l => .tup (l.map (W.mapId g))
def K.mapId (g : Nat → Nat) : K → K
  | .cs l => .cs (l.map (C.mapId g))
  | .ints k l => .ints k l
  | .strs l => .strs l
def Blk.mapId (g : Nat → Nat) (b : Blk) : Blk := ⟨b.ty, b.mode, b.k.mapId g⟩

structure Same3 (ρ : Env) (i : Nat) (ρ' : Env) (j : Nat) : Prop where
  b : ρ'.b j = ρ.b i
  o : ρ'.o j = ρ.o i
  val : ρ'.val j = ρ.val i

theorem RC.mapId {ρ ρ' : Env} {g : Nat → Nat} {c : C} {y : Value} (h : RC ρ c y) (hs : ∀ i ∈ c.ids, Same3 ρ i ρ' (g i)) : RC ρ' (c.mapId g) y := by
  cases c with
  | v x => exact h
  | ptr id off => have := hs id (by simp [C.ids]); simp only [RC, C.mapId] at *; rw [this.b, this.o]; exact h
  | sl id off len => have := hs id (by simp [C.ids]); simp only [RC, C.mapId] at *; rw [this.b, this.o]; exact h
  | own id => have := hs id (by simp [C.ids]); simp only [RC, C.mapId] at *; rw [this.val]; exact h
  | fn f caps =>
    simp only [RC, C.mapId] at *
    rw [h, List.map_map]
    congr 2
    apply List.map_congr_left
    intro p hp
    have := hs p.1 (by simp only [C.ids, List.mem_map]; exact ⟨p, hp, rfl⟩)
    simp [this.b, this.o]

theorem RL.mapId {ρ ρ' : Env} {g : Nat → Nat} {l : List C} {m : List Value} (h : RL (RC ρ) l m) (hs : ∀ c ∈ l, ∀ i ∈ c.ids, Same3 ρ i ρ' (g i)) : RL (RC ρ') (l.map (C.mapId g)) m := by
  induction h with
  | nil => exact .nil
  | cons a _ ih => exact .cons (a.mapId (hs _ (by simp))) (ih fun c hc => hs c (by simp [hc]))

theorem RW.mapId {ρ ρ' : Env} {g : Nat → Nat} {x : W} {y : Value} (h : RW ρ x y) (hs : ∀ i ∈ x.ids, Same3 ρ i ρ' (g i)) : RW ρ' (x.mapId g) y := by
  cases x with
  | c x => exact RC.mapId h hs
  | agg l =>
    obtain ⟨cs, rfl, hl⟩ := h
    exact ⟨cs, rfl, hl.mapId fun c hc i hi => hs i (by simp only [W.ids, List.mem_flatMap]; exact ⟨c, hc, hi⟩)⟩
  | ints k l => exact h

theorem RV.mapId {ρ ρ' : Env} {g : Nat → Nat} {x : V} {y : Value} (h : RV ρ x y) (hs : ∀ i ∈ x.ids, Same3 ρ i ρ' (g i)) : RV ρ' (x.mapId g) y := by
  cases x with
  | w x => exact RW.mapId h hs
  | tup l =>
    obtain ⟨cs, rfl, hl⟩ := h
    refine ⟨cs, rfl, ?_⟩
    have hs' : ∀ c ∈ l, ∀ i ∈ c.ids, Same3 ρ i ρ' (g i) := fun c hc i hi => hs i (by simp only [V.ids, List.mem_flatMap]; exact ⟨c, hc, hi⟩)
    clear hs
    induction hl with
    | nil => exact .nil
    | cons a _ ih => exact .cons (a.mapId (hs' _ (by simp))) (ih fun c hc => hs' c (by simp [hc]))

theorem K.Is.mapId {ρ ρ' : Env} {g : Nat → Nat} {k : K} {read : Nat → Option Value} (h : k.Is ρ read) (hs : ∀ i ∈ k.ids, Same3 ρ i ρ' (g i)) : (k.mapId g).Is ρ' read := by
  cases k with
  | cs l =>
    intro i c hc
    simp only [List.getElem?_map] at hc
    cases hl : l[i]? with
    | none => simp [hl] at hc
    | some c0 =>
      simp [hl] at hc
      subst hc
      obtain ⟨y, hy, hr⟩ := h i c0 hl
      exact ⟨y, hy, hr.mapId fun j hj => hs j (by simp only [K.ids, List.mem_flatMap]; exact ⟨c0, List.mem_of_getElem? hl, hj⟩)⟩
  | ints k l => exact h
  | strs l => exact h

theorem K.mapId_len (g : Nat → Nat) (k : K) : (k.mapId g).len = k.len := by cases k <;> simp [K.mapId, K.len]

theorem BlkRel.mapId {P : Program} {ρ ρ' : Env} {g : Nat → Nat} {b : Blk} {l : Nat} {w : World} (h : BlkRel P ρ l b w) (hl : Same3 ρ l ρ' (g l)) (hs : ∀ i ∈ b.k.ids, Same3 ρ i ρ' (g i)) : BlkRel P ρ' (g l) (b.mapId g) w := by
  obtain ⟨ty, mode, k⟩ := b
  unfold BlkRel at *
  unfold Blk.mapId
  cases mode with
  | ro => simp only at *; rw [hl.b, hl.o, K.mapId_len]; exact ⟨h.1.mapId hs, h.2⟩
  | rw => simp only at *; rw [hl.b, hl.o]; obtain ⟨arr, h1, h2⟩ := h; exact ⟨arr, h1, h2.mapId hs⟩
  | own n => simp only at *; rw [hl.b, hl.o, hl.val, K.mapId_len]; obtain ⟨h0, h1, xs, h2, h3, h4⟩ := h; exact ⟨h0, h1, xs, h2, h3, h4.mapId hs⟩

def backId (σ : List Nat) (base : Nat) (i : Nat) : Nat :=
  match σ[i]? with
  | some id => id
  | none => base + (i - σ.length)

def newL : Nat → List Blk → List (Nat × Option Blk)
  | _, [] => []
  | b, x :: r => (b, some x) :: newL (b + 1) r

def chkRes (m : Nat) (ms : List Blk) (r : Res) : Bool :=
  Nat.ble r.new.length 4 && ((r.v.ids.all fun i => Nat.blt i (m + r.new.length)) &&
  (nodupB (r.upd.map (·.1)) && ((r.upd.all fun p => (match ms[p.1]? with | some b => Nat.beq b.mode.kind p.2.mode.kind | none => false) && (!(Nat.beq p.2.mode.kind 0) && p.2.k.ids.all fun i => Nat.blt i (m + r.new.length))) &&
  r.new.all fun b => b.k.ids.all fun i => Nat.blt i (m + r.new.length))))

def mkCtr (fs : FuncId → List W → List Blk → Option (Res × List Bool)) (f : FuncId) (args : List W) (look : Mem) (base : Nat) : Option Out :=
  let σ := dedup (reach look 3 (args.flatMap W.ids)) []
  match renWs σ args, getBlks σ look σ with
  | some args', some ms =>
    match fs f args' ms with
    | some (r, obs) =>
      bif chkRes σ.length ms r then
        some ⟨some (r.v.mapId (backId σ base)), (r.upd.map fun p => (backId σ base p.1, some (p.2.mapId (backId σ base)))) ++ newL base (r.new.map (Blk.mapId (backId σ base))), obs⟩
      else none
    | none => none
  | _, _ => none

def FsOk (P : Program) (fs : FuncId → List W → List Blk → Option (Res × List Bool)) : Prop :=
  ∀ f args ms r obs, fs f args ms = some (r, obs) → (∀ b ∈ obs, b = true) → Spec P f args ms r

theorem newL_get : ∀ (l : List Blk) (base : Nat) (id : Nat) (b : Option Blk), (id, b) ∈ newL base l → ∃ j blk, l[j]? = some blk ∧ id = base + j ∧ b = some blk
  | [], base, id, b, h => by simp [newL] at h
  | x :: r, base, id, b, h => by
    simp only [newL, List.mem_cons, Prod.mk.injEq] at h
    rcases h with ⟨rfl, rfl⟩ | h
    · exact ⟨0, x, by simp, by omega, rfl⟩
    · obtain ⟨j, blk, h1, h2, h3⟩ := newL_get r (base + 1) id b h
      exact ⟨j + 1, blk, by simpa using h1, by omega, h3⟩

theorem newL_keys : ∀ (l : List Blk) (base : Nat) (j : Nat), j < l.length → base + j ∈ (newL base l).map (·.1)
  | [], base, j, h => by simp at h
  | x :: r, base, 0, h => by simp [newL]
  | x :: r, base, j + 1, h => by
    have := newL_keys r (base + 1) j (by simpa using h)
    simp only [newL, List.map_cons, List.mem_cons]
    right
    rw [show base + (j + 1) = base + 1 + j by omega]
    exact this

theorem applyU_length : ∀ (u : List (Nat × Blk)) (l : List Blk), (applyU l u).length = l.length
  | [], l => rfl
  | (i, b) :: r, l => by simp [applyU, applyU_length r]

theorem applyU_notin : ∀ (u : List (Nat × Blk)) (l : List Blk) (i : Nat), i ∉ u.map (·.1) → (applyU l u)[i]? = l[i]?
  | [], l, i, _ => rfl
  | (j, b) :: r, l, i, h => by
    simp only [List.map_cons, List.mem_cons, not_or] at h
    simp only [applyU]
    rw [applyU_notin r _ i h.2, List.getElem?_set, if_neg (Ne.symm h.1)]

theorem applyU_in : ∀ (u : List (Nat × Blk)) (l : List Blk) (i : Nat) (b : Blk), (u.map (·.1)).Nodup → (i, b) ∈ u → i < l.length → (applyU l u)[i]? = some b
  | [], l, i, b, _, h, _ => by simp at h
  | (j, c) :: r, l, i, b, hn, h, hi => by
    simp only [List.map_cons, List.nodup_cons] at hn
    simp only [applyU]
    simp only [List.mem_cons, Prod.mk.injEq] at h
    rcases h with ⟨rfl, rfl⟩ | h
    · rw [applyU_notin r _ _ hn.1]
      simp [hi]
    · exact applyU_in r _ i b hn.2 h (by simpa using hi)

theorem mkCtr_ok {P : Program} {fs : FuncId → List W → List Blk → Option (Res × List Bool)} (hfs : FsOk P fs) {f : FuncId} {args : List W} {look : Mem} {base : Nat} {out : Out} (h : mkCtr fs f args look base = some out) (ho : ∀ b ∈ out.obs, b = true)
    {ρ : Env} {vs : List Value} {M : Mem} {w : World} (hMs : ∀ id b, look id = some b → M id = some b) (hM : MemOk P ρ M w) (hF : Fresh M base) (ha : RL (RW ρ) args vs) :
    Calls P f vs.toArray w (fun e w' => ∃ y ρ', e = .returned y ∧ Good P ρ ρ' M base out w w' y) := by
  unfold mkCtr at h
  simp only at h
  have hnd := dedup_nodup (reach look 3 (args.flatMap W.ids)) [] List.nodup_nil
  generalize dedup (reach look 3 (args.flatMap W.ids)) [] = σ at h hnd
  split at h
  · rename_i args' ms hren hblks
    split at h
    · rename_i r obs hr
      cases hc : chkRes σ.length ms r with
      | false => simp [hc] at h
      | true =>
        simp only [hc, cond_true, Option.some.injEq] at h
        subst h
        simp only [chkRes, Bool.and_eq_true, List.all_eq_true, Nat.ble_eq, Nat.blt_eq] at hc
        obtain ⟨hc1, hc2, hc3, hc4, hc5⟩ := hc
        have hund := nodupB_ok hc3
        obtain ⟨hlen, hget⟩ := getBlks_ok hblks
        -- the caller's block behind each local one
        have horig : ∀ l, l < σ.length → ∃ b0 bl, M (σ.getD l 0) = some b0 ∧ σ[l]? = some (σ.getD l 0) ∧ b0.ren σ = some bl ∧ ms[l]? = some bl := by
          intro l hl
          have hs : σ[l]? = some (σ.getD l 0) := by simp [List.getD, List.getElem?_eq_getElem hl]
          obtain ⟨b, b', h1, h2, h3⟩ := hget l _ hs
          exact ⟨b, b', hMs _ _ h1, hs, h2, h3⟩
        have hMl : MemOk P (ρ.pull σ) (mOf ms) w := by
          refine ⟨fun l bl hl => ?_, fun i j bi bj hi hj hli hlj hij => ?_⟩
          · rw [mOf_get] at hl
            have hlt : l < σ.length := by have := (List.getElem?_eq_some_iff.1 hl).1; omega
            obtain ⟨b0, bl', h1, h2, h3, h4⟩ := horig l hlt
            rw [hl] at h4; cases h4
            exact (Blk.ren_ok h3 h2).1.2 (hM.rel _ _ h1)
          · rw [mOf_get] at hi hj
            have hil : i < σ.length := by have := (List.getElem?_eq_some_iff.1 hi).1; omega
            have hjl : j < σ.length := by have := (List.getElem?_eq_some_iff.1 hj).1; omega
            obtain ⟨a0, al, h1, h2, h3, h4⟩ := horig i hil
            obtain ⟨c0, cl, k1, k2, k3, k4⟩ := horig j hjl
            rw [hi] at h4; cases h4
            rw [hj] at k4; cases k4
            have hne : σ.getD i 0 ≠ σ.getD j 0 := fun e => hij (nodup_inj hnd i j _ h2 (by rw [k2, e]))
            obtain ⟨_, m1, _⟩ := Blk.ren_ok (P := P) (ρ := ρ) (w := w) h3 h2
            obtain ⟨_, m2, m3⟩ := Blk.ren_ok (P := P) (ρ := ρ) (w := w) k3 k2
            exact hM.inj _ _ a0 c0 h1 k1 ((live_pull h2 m1).1 hli) (hlj.imp (live_pull k2 m2).1 fun ⟨x, y⟩ => ⟨(ro_mode m2).1 x, by rw [← m3]; exact y⟩) hne
        refine (hfs f args' ms r obs hr ho (ρ.pull σ) vs w ((renWs_ok hren vs).2 ha) hMl).mono ?_
        rintro e w' ⟨y, ρl, rfl, hv, hini, hmem, hfr, hnew⟩
        refine ⟨y, ⟨fun id => bif inRb base id then ρl.b (σ.length + (id - base)) else ρ.b id, fun id => bif inRb base id then ρl.o (σ.length + (id - base)) else ρ.o id, fun id => bif inRb base id then ρl.val (σ.length + (id - base)) else ρ.val id⟩, rfl, ?_⟩
        generalize hρ' : (⟨fun id => bif inRb base id then ρl.b (σ.length + (id - base)) else ρ.b id, fun id => bif inRb base id then ρl.o (σ.length + (id - base)) else ρ.o id, fun id => bif inRb base id then ρl.val (σ.length + (id - base)) else ρ.val id⟩ : Env) = ρ'
        have hsameO : ∀ id, ¬ inR base id → ρ.same ρ' id := by
          intro id hid
          have : inRb base id = false := by rw [← Bool.not_eq_true, inRb_iff]; exact hid
          subst hρ'
          exact ⟨by simp [this], by simp [this], by simp [this]⟩
        have hsameN : ∀ id, inRb base id = true → Same3 ρl (σ.length + (id - base)) ρ' id := by
          intro id h
          subst hρ'
          exact ⟨by simp [h], by simp [h], by simp [h]⟩
        have hbackσ : ∀ (l id : Nat), σ[l]? = some id → backId σ base l = id := fun l id h => by simp [backId, h]
        have hbackn : ∀ l, σ.length ≤ l → backId σ base l = base + (l - σ.length) := fun l h => by simp [backId, List.getElem?_eq_none h]
        have hσM : ∀ (l id : Nat), σ[l]? = some id → ∃ b0 bl, M id = some b0 ∧ b0.ren σ = some bl ∧ ms[l]? = some bl := by
          intro l id hl
          obtain ⟨b0, bl, h1, h2, h3, h4⟩ := horig l (List.getElem?_eq_some_iff.1 hl).1
          have e : σ.getD l 0 = id := getD_of hl
          rw [e] at h1
          exact ⟨b0, bl, h1, h3, h4⟩
        have hσR : ∀ (l id : Nat), σ[l]? = some id → ¬ inR base id := fun l id hl => by obtain ⟨b0, _, h1, _⟩ := hσM l id hl; exact hF.dom id b0 h1
        have hS : ∀ l, l < σ.length + r.new.length → Same3 ρl l ρ' (backId σ base l) := by
          intro l hl
          by_cases hlt : l < σ.length
          · obtain ⟨sid, hs⟩ : ∃ s, σ[l]? = some s := ⟨_, List.getElem?_eq_getElem hlt⟩
            have h1 := hsameO _ (hσR l _ hs)
            have h2 := hini l (by omega)
            rw [hbackσ l _ hs]
            exact ⟨by rw [h1.b, h2.b]; simp [Env.pull, hs], by rw [h1.o, h2.o]; simp [Env.pull, hs], by rw [h1.val, h2.val]; simp [Env.pull, hs]⟩
          · have hin : inRb base (base + (l - σ.length)) = true := inRb_iff.2 ⟨by omega, by omega⟩
            rw [hbackn l (by omega)]
            have h3 := hsameN _ hin
            rw [show σ.length + (base + (l - σ.length) - base) = l by omega] at h3
            exact h3
        have hlive3 : ∀ l b b', l < σ.length + r.new.length → b'.mode = b.mode → (live ρ' (backId σ base l) b' ↔ live ρl l b) := by
          intro l b b' hl hm
          unfold live
          rw [hm]
          cases b.mode <;> simp [(hS l hl).val]
        -- what the caller's memory holds behind the call
        have hcase : ∀ id blk, putM M ((r.upd.map fun p => (backId σ base p.1, some (p.2.mapId (backId σ base)))) ++ newL base (r.new.map (Blk.mapId (backId σ base)))) id = some blk →
            (M id = some blk ∧ (∀ l : Nat, σ[l]? ≠ some id) ∧ ¬ inR base id) ∨
            ∃ l bl, l < σ.length + r.new.length ∧ backId σ base l = id ∧ (applyU ms r.upd ++ r.new)[l]? = some bl ∧ blk.mode = bl.mode ∧ blk.k.len = bl.k.len ∧ BlkRel P ρ' id blk w' := by
          intro id blk hp
          have fromloc : ∀ l bl, l < σ.length + r.new.length → (applyU ms r.upd ++ r.new)[l]? = some bl → (∀ i ∈ bl.k.ids, i < σ.length + r.new.length) → backId σ base l = id → blk = bl.mapId (backId σ base) →
              ∃ l bl, l < σ.length + r.new.length ∧ backId σ base l = id ∧ (applyU ms r.upd ++ r.new)[l]? = some bl ∧ blk.mode = bl.mode ∧ blk.k.len = bl.k.len ∧ BlkRel P ρ' id blk w' := by
            intro l bl hl hb hi hid he
            refine ⟨l, bl, hl, hid, hb, by rw [he]; rfl, by rw [he]; exact K.mapId_len _ _, ?_⟩
            have := hmem.rel l bl (by rw [mOf_get]; exact hb)
            rw [he, ← hid]
            exact this.mapId (hS l hl) fun i hii => hS i (hi i hii)
          have fromnew : ∀ j b, r.new[j]? = some b → id = base + j → blk = b.mapId (backId σ base) →
              ∃ l bl, l < σ.length + r.new.length ∧ backId σ base l = id ∧ (applyU ms r.upd ++ r.new)[l]? = some bl ∧ blk.mode = bl.mode ∧ blk.k.len = bl.k.len ∧ BlkRel P ρ' id blk w' := by
            intro j b hj hid he
            have hjl := (List.getElem?_eq_some_iff.1 hj).1
            refine fromloc (σ.length + j) b (by omega) ?_ (hc5 b (List.mem_of_getElem? hj)) ?_ he
            · rw [List.getElem?_append_right (by rw [applyU_length, hlen]; omega), applyU_length, hlen]
              rw [show σ.length + j - σ.length = j by omega]
              exact hj
            · rw [hbackn _ (by omega), hid]; congr 1; omega
          rcases putM_get M _ id blk hp with hmem' | hMid
          · rcases List.mem_append.1 hmem' with hmem' | hmem'
            · right
              simp only [List.mem_map, Prod.mk.injEq, Option.some.injEq] at hmem'
              obtain ⟨⟨l, bl⟩, hpm, hid, he⟩ := hmem'
              have h4 := hc4 _ hpm
              simp only at h4 hid he
              cases hml : ms[l]? with
              | none => rw [hml] at h4; exact absurd h4.1 (by simp)
              | some b1 =>
                have hll : l < ms.length := (List.getElem?_eq_some_iff.1 hml).1
                refine fromloc l bl (by omega) ?_ (fun i hi => h4.2.2 i hi) hid he.symm
                rw [List.getElem?_append_left (by rw [applyU_length]; omega)]
                exact applyU_in r.upd ms l bl hund hpm hll
            · right
              obtain ⟨j, b, h1, h2, h3⟩ := newL_get _ base id _ hmem'
              rw [List.getElem?_map] at h1
              cases hnj : r.new[j]? with
              | none => simp [hnj] at h1
              | some b' =>
                simp [hnj] at h1
                subst h1
                cases h3
                exact fromnew j b' hnj h2 rfl
          · by_cases hσid : ∃ l : Nat, σ[l]? = some id
            · right
              obtain ⟨l, hl⟩ := hσid
              have hll := (List.getElem?_eq_some_iff.1 hl).1
              obtain ⟨b0, bl, h1, h2, h3⟩ := hσM l id hl
              rw [hMid] at h1; cases h1
              by_cases hup : l ∈ r.upd.map (·.1)
              · -- it has been written: then the memory holds the new one
                simp only [List.mem_map] at hup
                obtain ⟨⟨l', bu⟩, hpm, rfl⟩ := hup
                simp only at *
                have hkey : id ∈ ((r.upd.map fun p => (backId σ base p.1, some (p.2.mapId (backId σ base)))) ++ newL base (r.new.map (Blk.mapId (backId σ base)))).map (·.1) := by
                  simp only [List.map_append, List.mem_append, List.map_map, List.mem_map]
                  exact .inl ⟨(l', bu), hpm, by simp [hbackσ l' id hl]⟩
                rw [putM_in _ M (fun _ => none) id hkey] at hp
                rcases putM_get (fun _ => none) _ id blk hp with hmem' | h'
                · rcases List.mem_append.1 hmem' with hmem' | hmem'
                  · simp only [List.mem_map, Prod.mk.injEq, Option.some.injEq] at hmem'
                    obtain ⟨⟨l2, b2⟩, hpm2, hid2, he2⟩ := hmem'
                    have h4 := hc4 _ hpm2
                    simp only at h4 hid2 he2
                    cases hml : ms[l2]? with
                    | none => rw [hml] at h4; exact absurd h4.1 (by simp)
                    | some b1 =>
                      have hll2 : l2 < ms.length := (List.getElem?_eq_some_iff.1 hml).1
                      refine fromloc l2 b2 (by omega) ?_ (fun i hi => h4.2.2 i hi) hid2 he2.symm
                      rw [List.getElem?_append_left (by rw [applyU_length]; omega)]
                      exact applyU_in r.upd ms l2 b2 hund hpm2 hll2
                  · obtain ⟨j, b, h1, h2', h3'⟩ := newL_get _ base id _ hmem'
                    rw [List.getElem?_map] at h1
                    cases hnj : r.new[j]? with
                    | none => simp [hnj] at h1
                    | some b' =>
                      simp [hnj] at h1
                      subst h1
                      cases h3'
                      exact fromnew j b' hnj h2' rfl
                · cases h'
              · have hfin : (applyU ms r.upd ++ r.new)[l]? = some bl := by
                  rw [List.getElem?_append_left (by rw [applyU_length]; omega), applyU_notin _ _ _ hup]
                  exact h3
                obtain ⟨_, m1, m2⟩ := Blk.ren_ok (P := P) (ρ := ρ) (w := w) h2 hl
                refine ⟨l, bl, by omega, hbackσ l id hl, hfin, m1.symm, m2.symm, ?_⟩
                have hrl := hmem.rel l bl (by rw [mOf_get]; exact hfin)
                have hpull : ∀ i, i < σ.length → ρl.same (ρ'.pull σ) i := by
                  intro i hi
                  have := hS i (by omega)
                  obtain ⟨sid, hsi⟩ : ∃ s, σ[i]? = some s := ⟨_, List.getElem?_eq_getElem hi⟩
                  rw [hbackσ i _ hsi] at this
                  exact ⟨by simp [Env.pull, hsi, this.b], by simp [Env.pull, hsi, this.o], by simp [Env.pull, hsi, this.val]⟩
                exact (Blk.ren_ok h2 hl).1.1 (hrl.env (hpull l hll) fun j hj => hpull j (Blk.ren_ids h2 j hj))
            · left
              refine ⟨hMid, fun l hl => hσid ⟨l, hl⟩, hF.dom id blk hMid⟩
        -- a local old block's place among the caller's
        have hold : ∀ l bl blk, l < σ.length → (applyU ms r.upd ++ r.new)[l]? = some bl → blk.mode = bl.mode → blk.k.len = bl.k.len → ∃ b0, M (backId σ base l) = some b0 ∧ ¬ inR base (backId σ base l) ∧ (live ρ' (backId σ base l) blk → live ρ (backId σ base l) b0) ∧
            (live ρ' (backId σ base l) blk ∨ (blk.ro ∧ 0 < blk.k.len) → b0.in ρ (backId σ base l)) := by
          intro l bl blk hl hb hm hkl
          obtain ⟨sid, hs⟩ : ∃ s, σ[l]? = some s := ⟨_, List.getElem?_eq_getElem hl⟩
          obtain ⟨b0, bl0, h1, h2, h3⟩ := hσM l _ hs
          rw [hbackσ l _ hs]
          obtain ⟨_, m1, m2⟩ := Blk.ren_ok (P := P) (ρ := ρ) (w := w) h2 hs
          have hsame := (hsameO _ (hσR l _ hs)).symm
          refine ⟨b0, h1, hσR l _ hs, ?_, ?_⟩
          all_goals
            by_cases hup : l ∈ r.upd.map (·.1)
          · intro hlv
            simp only [List.mem_map] at hup
            obtain ⟨⟨l', bu⟩, hpm, rfl⟩ := hup
            simp only at *
            rw [List.getElem?_append_left (by rw [applyU_length]; omega), applyU_in r.upd ms l' bu hund hpm (by omega)] at hb
            cases hb
            have h4 := (hc4 _ hpm).1
            simp only [h3] at h4
            exact live_kind hsame (by rw [hm, ← m1]; simpa using (Nat.beq_eq.mp h4).symm) hlv
          · intro hlv
            rw [List.getElem?_append_left (by rw [applyU_length]; omega), applyU_notin _ _ _ hup, h3] at hb
            cases hb
            exact live_kind hsame (by rw [hm, m1]) hlv
          · intro hlv
            simp only [List.mem_map] at hup
            obtain ⟨⟨l', bu⟩, hpm, rfl⟩ := hup
            simp only at *
            rw [List.getElem?_append_left (by rw [applyU_length]; omega), applyU_in r.upd ms l' bu hund hpm (by omega)] at hb
            cases hb
            have h4 := hc4 _ hpm
            simp only [h3] at h4
            rcases hlv with hlv | ⟨hro, _⟩
            · exact .inl (live_kind hsame (by rw [hm, ← m1]; simpa using (Nat.beq_eq.mp h4.1).symm) hlv)
            · exfalso
              refine ro_kind (b := blk) ?_ hro
              rw [hm]
              intro e
              have := h4.2.1
              rw [e] at this
              simp at this
          · intro hlv
            rw [List.getElem?_append_left (by rw [applyU_length]; omega), applyU_notin _ _ _ hup, h3] at hb
            cases hb
            rcases hlv with hlv | ⟨hro, hpos⟩
            · exact .inl (live_kind hsame (by rw [hm, m1]) hlv)
            · exact .inr ⟨(ro_mode (hm.trans m1)).1 hro, by rw [← m2, ← hkl]; exact hpos⟩
        have hnewb : ∀ l bl blk, σ.length ≤ l → (applyU ms r.upd ++ r.new)[l]? = some bl → l < σ.length + r.new.length → blk.mode = bl.mode → (live ρ' (backId σ base l) blk ∨ (blk.ro ∧ 0 < blk.k.len)) → w.heap.size ≤ ρ'.b (backId σ base l) := by
          intro l bl blk hl hb hlt hm hlv
          rw [List.getElem?_append_right (by rw [applyU_length, hlen]; omega), applyU_length, hlen] at hb
          obtain ⟨h1, h2⟩ := hnew (l - σ.length) bl hb
          rw [hlen, show σ.length + (l - σ.length) = l by omega] at h2
          rcases hlv with hlv | ⟨hro, _⟩
          · rw [(hS l hlt).b]; exact h2 ((hlive3 l bl blk hlt hm).1 hlv)
          · exact absurd ((ro_mode hm).1 hro) h1
        refine ⟨?_, hsameO, ⟨?_, ?_⟩, ?_, ?_⟩
        · rintro v' ⟨⟩
          exact hv.mapId fun i hi => hS i (hc2 i hi)
        · intro id blk hp
          rcases hcase id blk hp with ⟨h1, h2, h3⟩ | ⟨_, _, _, _, _, _, _, h⟩
          · have h0 := hM.rel id blk h1
            refine (h0.keep (fun hin => ?_) hfr.size).env (hsameO id h3) fun j hj => hsameO j (hF.ids id blk h1 j hj)
            refine hfr.block _ (h0.lt hin) ?_
            rintro ⟨l, bl, hl, hlv, hb⟩
            rw [mOf_get] at hl
            have hll : l < σ.length := by have := (List.getElem?_eq_some_iff.1 hl).1; omega
            obtain ⟨b0, bl', k1, k2, k3, k4⟩ := horig l hll
            rw [hl] at k4; cases k4
            obtain ⟨_, m1, _⟩ := Blk.ren_ok (P := P) (ρ := ρ) (w := w) k3 k2
            refine hM.inj _ id b0 blk k1 h1 ((live_pull k2 m1).1 hlv) hin (fun e => h2 l (by rw [k2, e])) ?_
            rw [← hb]; simp [Env.pull]
          · exact h
        · intro i j bi bj hi hj hli hlj hij
          rcases hcase i bi hi with ⟨a1, a2, a3⟩ | ⟨la, bla, a1, a2, a3, a4, a5, a6⟩ <;> rcases hcase j bj hj with ⟨c1, c2, c3⟩ | ⟨lc, blc, c1, c2, c3, c4, c5, c6⟩
          · have := hM.inj i j bi bj a1 c1 ((live_env (hsameO i a3)).1 hli) (hlj.imp (live_env (hsameO j c3)).1 id) hij
            rw [(hsameO i a3).b, (hsameO j c3).b]; exact this
          · subst c2
            have hli' := (live_env (hsameO i a3)).1 hli
            by_cases hlt : lc < σ.length
            · obtain ⟨b0, d1, d2, d3, d4⟩ := hold lc blc bj hlt c3 c4 c5
              have := hM.inj i _ bi b0 a1 d1 hli' (d4 hlj) hij
              rw [(hsameO i a3).b, (hsameO _ d2).b]; exact this
            · have h1 := (hM.rel i bi a1).lt (.inl hli')
              have h2 := hnewb lc blc bj (by omega) c3 c1 c4 hlj
              rw [(hsameO i a3).b]; omega
          · subst a2
            by_cases hlt : la < σ.length
            · obtain ⟨b0, d1, d2, d3, d4⟩ := hold la bla bi hlt a3 a4 a5
              have := hM.inj _ j b0 bj d1 c1 (d3 hli) (hlj.imp (live_env (hsameO j c3)).1 id) hij
              rw [(hsameO j c3).b, (hsameO _ d2).b]; exact this
            · have hin : bj.in ρ j := hlj.imp (live_env (hsameO j c3)).1 id
              have h1 := (hM.rel j bj c1).lt hin
              have h2 := hnewb la bla bi (by omega) a3 a1 a4 (.inl hli)
              rw [(hsameO j c3).b]; omega
          · subst a2; subst c2
            have hne : la ≠ lc := fun e => hij (by rw [e])
            have := hmem.inj la lc bla blc (by rw [mOf_get]; exact a3) (by rw [mOf_get]; exact c3) ((hlive3 la bla bi a1 a4).1 hli) (hlj.imp (hlive3 lc blc bj c1 c4).1 fun ⟨x, y⟩ => ⟨(ro_mode c4).1 x, by rw [← c5]; exact y⟩) hne
            rw [(hS la a1).b, (hS lc c1).b]; exact this
        · refine hfr.weaken ?_
          rintro b hb ⟨l, bl, hl, hlv, rfl⟩
          rw [mOf_get] at hl
          have hll : l < σ.length := by have := (List.getElem?_eq_some_iff.1 hl).1; omega
          obtain ⟨b0, bl', k1, k2, k3, k4⟩ := horig l hll
          rw [hl] at k4; cases k4
          obtain ⟨_, m1, _⟩ := Blk.ren_ok (P := P) (ρ := ρ) (w := w) k3 k2
          exact ⟨_, b0, k1, (live_pull k2 m1).1 hlv, by simp [Env.pull]⟩
        · intro id blk hp hlv
          rcases hcase id blk hp with ⟨h1, _, h3⟩ | ⟨l, bl, h1, h2, h3, h4, h5, _⟩
          · exact .inr ⟨id, blk, h1, (live_env (hsameO id h3)).1 hlv, (hsameO id h3).b.symm⟩
          · subst h2
            by_cases hlt : l < σ.length
            · obtain ⟨b0, d1, d2, d3, _⟩ := hold l bl blk hlt h3 h4 h5
              exact .inr ⟨_, b0, d1, d3 hlv, (hsameO _ d2).b.symm⟩
            · exact .inl (hnewb l bl blk (by omega) h3 h1 h4 (.inl hlv))
    · cases h
  · cases h

end Sx
