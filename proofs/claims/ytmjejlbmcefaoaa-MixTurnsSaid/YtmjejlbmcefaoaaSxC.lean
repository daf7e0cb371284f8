/- The symbolic executor, part C: what an operation does in a world; the lemmas on memory. -/
import Derived.Test.YtmjejlbmcefaoaaSxB
namespace Sx
open Go Go.RowKit

def inR (base id : Nat) : Prop := base ≤ id ∧ id < base + 4

/-- no id from base on (four of them) is used. -/
structure Fresh (M : Mem) (base : Nat) : Prop where
  dom : ∀ id blk, M id = some blk → ¬ inR base id
  ids : ∀ id blk, M id = some blk → ∀ j ∈ blk.k.ids, ¬ inR base j

structure Good (P : Program) (ρ ρ' : Env) (M : Mem) (base : Nat) (o : Out) (w w' : World) (y : Value) : Prop where
  val : ∀ v, o.v = some v → RV ρ' v y
  env : ∀ id, ¬ inR base id → ρ.same ρ' id
  mem : MemOk P ρ' (putM M o.upd) w'
  fr : Fr (fun b => ∃ id blk, M id = some blk ∧ live ρ id blk ∧ ρ.b id = b) w w'
  lo : ∀ id blk, putM M o.upd id = some blk → live ρ' id blk → w.heap.size ≤ ρ'.b id ∨ ∃ j bj, M j = some bj ∧ live ρ j bj ∧ ρ.b j = ρ'.b id

theorem Env.same.refl (ρ : Env) (id : Nat) : ρ.same ρ id := ⟨rfl, rfl, rfl⟩
theorem Env.same.symm {ρ ρ' : Env} {id : Nat} (h : ρ.same ρ' id) : ρ'.same ρ id := ⟨h.b.symm, h.o.symm, h.val.symm⟩

theorem putM_nil (M : Mem) : putM M [] = M := rfl
theorem putM_one (M : Mem) (id : Nat) (b : Option Blk) : putM M [(id, b)] = fun x => if x = id then b else M x := by
  funext x
  simp only [putM]
  by_cases h : x = id
  · subst h; simp
  · have : Nat.beq x id = false := by rw [← Bool.not_eq_true, Nat.beq_eq]; exact h
    simp [this, h]

theorem live_env {ρ ρ' : Env} {id : Nat} {blk : Blk} (hs : ρ.same ρ' id) : live ρ' id blk ↔ live ρ id blk := by
  unfold live; cases blk.mode <;> simp [hs.val]

theorem BlkRel.env {P : Program} {ρ ρ' : Env} {id : Nat} {blk : Blk} {w : World} (h : BlkRel P ρ id blk w) (hs : ρ.same ρ' id) (hk : ∀ j ∈ blk.k.ids, ρ.same ρ' j) : BlkRel P ρ' id blk w := by
  unfold BlkRel at *
  split at h
  · exact ⟨by rw [hs.b, hs.o]; exact h.1.env hk, by rw [hs.b]; exact h.2⟩
  · obtain ⟨arr, hr, hi⟩ := h
    exact ⟨arr, by rw [hs.b]; exact hr, by rw [hs.o]; exact hi.env hk⟩
  · obtain ⟨ho, hg, xs, hx, hl, hi⟩ := h
    exact ⟨by rw [hs.o]; exact ho, by rw [hs.val, hs.b]; exact hg, xs, by rw [hs.val]; exact hx, hl, hi.env hk⟩

/-- which blocks a block's relation speaks of. -/
def Blk.in (ρ : Env) (id : Nat) (blk : Blk) : Prop := live ρ id blk ∨ (blk.ro ∧ 0 < blk.k.len)

theorem BlkRel.lt {P : Program} {ρ : Env} {id : Nat} {blk : Blk} {w : World} (h : BlkRel P ρ id blk w) (hin : blk.in ρ id) : ρ.b id < w.heap.size := by
  unfold BlkRel at h
  unfold Blk.in live Blk.ro at hin
  split at h
  · rename_i hm; simp only [hm] at hin; exact h.2 (by simpa using hin)
  · obtain ⟨arr, ⟨fz, hr, _⟩, _⟩ := h
    exact (Array.getElem?_eq_some_iff.1 hr).1
  · rename_i n hm
    simp only [hm] at hin
    obtain ⟨ho, hg, xs, hx, _⟩ := h
    have hne : (ρ.val id).ownBlock ≠ none := by simpa using hin
    cases hob : (ρ.val id).ownBlock with
    | none => exact absurd hob hne
    | some g => rw [← hg g hob]; exact (hx.lt g hob).2

theorem BlkRel.keep {P : Program} {ρ : Env} {id : Nat} {blk : Blk} {w w' : World} (h : BlkRel P ρ id blk w)
    (hb : blk.in ρ id → w'.heap[ρ.b id]? = w.heap[ρ.b id]?) (hsz : w.heap.size ≤ w'.heap.size) : BlkRel P ρ id blk w' := by
  have hlt := fun hin => h.lt (P := P) (w := w) hin
  unfold BlkRel at *
  unfold Blk.in live Blk.ro at hb hlt
  split at h
  · rename_i hm
    simp only [hm] at hb hlt
    refine ⟨h.1.read fun i y hi hy => ?_, fun h0 => Nat.lt_of_lt_of_le (h.2 h0) hsz⟩
    rw [← hy]
    exact World.cell?_of_block (hb (by simp; omega))
  · rename_i hm
    simp only [hm] at hb
    obtain ⟨arr, ⟨fz, hr, hf⟩, hi⟩ := h
    exact ⟨arr, ⟨fz, by rw [hb (by simp)]; exact hr, hf⟩, hi⟩
  · rename_i n hm
    simp only [hm] at hb
    obtain ⟨ho, hg, xs, hx, hl, hi⟩ := h
    refine ⟨ho, hg, xs, ?_, hl, hi⟩
    cases hob : (ρ.val id).ownBlock with
    | none =>
      refine ⟨hx.1, .inl ?_⟩
      rcases hx.2 with hn | ⟨g, cap, cur, hv, _⟩
      · exact hn
      · rw [hv] at hob; simp [Value.ownBlock] at hob
    | some g =>
      have hgb := hg g hob
      have hh := hb (by simp [hob])
      refine ⟨hx.1, ?_⟩
      rcases hx.2 with hn | ⟨g', cap, cur, hv, h0, hgg, rest⟩
      · exact .inl hn
      · have : g' = g := by rw [hv] at hob; simpa [Value.ownBlock] using hob
        subst this
        exact .inr ⟨g', cap, cur, hv, h0, by rw [hgb, hh, ← hgb]; exact hgg, rest⟩

theorem Good.same {P : Program} {ρ : Env} {M : Mem} {base : Nat} {v : Option V} {obs : List Bool} {w w' : World} {y : Value} (hM : MemOk P ρ M w)
    (hv : ∀ v', v = some v' → RV ρ v' y) (hw : w'.heap = w.heap) (hos : w'.os = w.os) (htp : w'.tape = w.tape) (hout : w'.output = w.output) : Good P ρ ρ M base ⟨v, [], obs⟩ w w' y where
  val := hv
  env := fun id _ => .refl ρ id
  mem := ⟨fun id blk h => (hM.rel id blk h).keep (fun _ => by rw [hw]) (by rw [hw]; exact Nat.le_refl _), fun i j bi bj hi hj hl hl' hne => hM.inj i j bi bj hi hj hl hl' hne⟩
  fr := ⟨hos, htp, hout, by rw [hw]; exact Nat.le_refl _, fun b _ _ => by rw [hw]⟩
  lo := fun id blk h hl => .inr ⟨id, blk, h, hl, rfl⟩

def Env.set (ρ : Env) (id b : Nat) (v : Value) : Env where
  b := fun x => if x = id then b else ρ.b x
  o := fun x => if x = id then 0 else ρ.o x
  val := fun x => if x = id then v else ρ.val x

theorem Env.set_same {ρ : Env} {id b : Nat} {v : Value} {x : Nat} (h : x ≠ id) : ρ.same (ρ.set id b v) x := ⟨by simp [Env.set, h], by simp [Env.set, h], by simp [Env.set, h]⟩

/-- a new block. -/
theorem Good.alloc {P : Program} {ρ : Env} {M : Mem} {base : Nat} {v : Option V} {obs : List Bool} {w w' : World} {y : Value} {blk : Blk} {u : Value} (hM : MemOk P ρ M w) (hF : Fresh M base)
    (hsz : w.heap.size < w'.heap.size) (hold : ∀ k, k < w.heap.size → w'.heap[k]? = w.heap[k]?) (hos : w'.os = w.os) (htp : w'.tape = w.tape) (hout : w'.output = w.output)
    (hv : ∀ v', v = some v' → RV (ρ.set base w.heap.size u) v' y) (hro : ¬ blk.ro)
    (hb : BlkRel P (ρ.set base w.heap.size u) base blk w') : Good P ρ (ρ.set base w.heap.size u) M base ⟨v, [(base, some blk)], obs⟩ w w' y := by
  have hbR : inR base base := ⟨Nat.le_refl _, by omega⟩
  have hne : ∀ id b, M id = some b → id ≠ base := fun id b h e => hF.dom id b h (e ▸ hbR)
  refine ⟨hv, fun id hid => Env.set_same (fun e => hid (e ▸ hbR)), ⟨?_, ?_⟩, ⟨hos, htp, hout, Nat.le_of_lt hsz, fun b hb _ => hold b hb⟩, ?_⟩
  · intro id b h
    rw [putM_one] at h
    by_cases he : id = base
    · subst he; simp at h; subst h; exact hb
    · simp [he] at h
      have h0 := hM.rel id b h
      have h1 := h0.keep (w' := w') (fun hin => hold _ (h0.lt hin)) (Nat.le_of_lt hsz)
      exact h1.env (Env.set_same he) fun j hj => Env.set_same (fun e => hF.ids id b h j hj (e ▸ hbR))
  · intro i j bi bj hi hj hl hl' hij
    rw [putM_one] at hi hj
    by_cases hi0 : i = base
    · subst hi0
      have hj0 : j ≠ i := fun e => hij e.symm
      simp [hj0] at hj
      have hlj : bj.in ρ j := by
        rcases hl' with h' | h'
        · exact .inl ((live_env (Env.set_same hj0)).1 h')
        · exact .inr h'
      have := (hM.rel j bj hj).lt hlj
      simp [Env.set, hj0]
      omega
    · simp [hi0] at hi
      have hli : live ρ i bi := (live_env (Env.set_same hi0)).1 hl
      have h1 := (hM.rel i bi hi).lt (.inl hli)
      by_cases hj0 : j = base
      · subst hj0; simp [Env.set, hi0]; omega
      · simp [hj0] at hj
        have := hM.inj i j bi bj hi hj hli (hl'.imp (live_env (Env.set_same hj0)).1 id) hij
        simpa [Env.set, hi0, hj0] using this
  · intro id b h hl
    rw [putM_one] at h
    by_cases he : id = base
    · subst he; left; simp [Env.set]
    · simp [he] at h
      right
      exact ⟨id, b, h, (live_env (Env.set_same he)).1 hl, by simp [Env.set, he]⟩

/-- a block that is written. -/
theorem Good.write {P : Program} {ρ : Env} {M : Mem} {base : Nat} {v : Option V} {obs : List Bool} {w w' : World} {y : Value} {id : Nat} {blk blk' : Blk} (hM : MemOk P ρ M w)
    (hid : M id = some blk) (hlive : live ρ id blk) (hmode : blk'.mode = blk.mode) (hsz : w'.heap.size = w.heap.size) (hold : ∀ k, k ≠ ρ.b id → w'.heap[k]? = w.heap[k]?) (hos : w'.os = w.os) (htp : w'.tape = w.tape) (hout : w'.output = w.output)
    (hv : ∀ v', v = some v' → RV ρ v' y) (hb : BlkRel P ρ id blk' w') : Good P ρ ρ M base ⟨v, [(id, some blk')], obs⟩ w w' y := by
  have hlive' : ∀ i b, putM M [(id, some blk')] i = some b → live ρ i b → ∃ b0, M i = some b0 ∧ live ρ i b0 := by
    intro i b h hl
    rw [putM_one] at h
    by_cases he : i = id
    · subst he; exact ⟨blk, hid, hlive⟩
    · simp [he] at h; exact ⟨b, h, hl⟩
  refine ⟨hv, fun i _ => .refl ρ i, ⟨?_, ?_⟩, ⟨hos, htp, hout, Nat.le_of_eq hsz.symm, fun b _ hn => hold b fun e => hn ⟨id, blk, hid, hlive, e.symm⟩⟩, ?_⟩
  · intro i b h
    have h' := h
    rw [putM_one] at h
    by_cases he : i = id
    · subst he; simp at h; subst h; exact hb
    · simp [he] at h
      exact (hM.rel i b h).keep (fun hin => hold _ fun e => (hM.inj id i blk b hid h hlive hin (Ne.symm he)) e.symm) (Nat.le_of_eq hsz.symm)
  · intro i j bi bj hi hj hl hl' hij
    obtain ⟨bi0, hi0, hli0⟩ := hlive' i bi hi hl
    rw [putM_one] at hj
    by_cases he : j = id
    · subst he
      exact hM.inj i j bi0 blk hi0 hid hli0 (.inl hlive) hij
    · simp [he] at hj
      exact hM.inj i j bi0 bj hi0 hj hli0 hl' hij
  · intro i b h hl
    obtain ⟨b0, h0, hl0⟩ := hlive' i b h hl
    exact .inr ⟨i, b0, h0, hl0, rfl⟩

end Sx
