/- The symbolic executor, part A: symbolic values, symbolic memory, what they mean in a world. -/
import Derived.WalkKit
import Derived.Orders
import Derived.KernelRfl
namespace Sx
open Go Go.RowKit

/-- Where a block of the symbolic memory lies. -/
structure Env where
  b : Nat → Nat
  o : Nat → Nat
  val : Nat → Value

inductive C where
  | v (x : Value)
  | ptr (id off : Nat)
  | sl (id off len : Nat)
  | own (id : Nat)
  | fn (f : FuncId) (caps : List (Nat × Nat))

inductive W where
  | c (x : C)
  | agg (l : List C)
  | ints (k : IntKind) (l : List Int)

inductive V where
  | w (x : W)
  | tup (l : List W)

abbrev C.int (k : IntKind) (n : Int) : C := .v (.int k n)
abbrev W.int (k : IntKind) (n : Int) : W := .c (.v (.int k n))
abbrev V.int (k : IntKind) (n : Int) : V := .w (.c (.v (.int k n)))
abbrev V.bool (b : Bool) : V := .w (.c (.v (.bool b)))
abbrev V.str (s : ByteArray) : V := .w (.c (.v (.string s)))

def RC (ρ : Env) : C → Value → Prop
  | .v x, y => y = x
  | .ptr id off, y => y = .pointer (some ⟨ρ.b id, ρ.o id + off, none⟩)
  | .sl id off len, y => ∃ a cap, y = .slice a len cap ∧ len ≤ cap ∧ (0 < len → a = some ⟨ρ.b id, ρ.o id + off, none⟩)
  | .own id, y => y = ρ.val id ∧ y.oneCell' = true
  | .fn f caps, y => y = .func (.func f) #[] (caps.map fun p => Value.pointer (some ⟨ρ.b p.1, ρ.o p.1 + p.2, none⟩)).toArray

inductive RL {α β : Type} (R : α → β → Prop) : List α → List β → Prop
  | nil : RL R [] []
  | cons {a b l m} : R a b → RL R l m → RL R (a :: l) (b :: m)

def RW (ρ : Env) : W → Value → Prop
  | .c x, y => RC ρ x y
  | .agg l, y => ∃ cs, y = .agg cs.toArray ∧ RL (RC ρ) l cs
  | .ints k l, y => y = .agg (l.map (Value.int k)).toArray

def RV (ρ : Env) : V → Value → Prop
  | .w x, y => RW ρ x y
  | .tup l, y => ∃ vs, y = .tuple vs.toArray ∧ RL (RW ρ) l vs

/-- What a block holds. -/
inductive K where
  | cs (l : List C)
  | ints (k : IntKind) (l : List Int)
  | strs (l : List ByteArray)

def K.len : K → Nat
  | .cs l => l.length
  | .ints _ l => l.length
  | .strs l => l.length

inductive Mode where
  | ro | rw | own (n : Nat)

structure Blk where
  ty : TypeId
  mode : Mode
  k : K

def Blk.ro (b : Blk) : Prop := match b.mode with | .ro => True | _ => False

def K.Is (ρ : Env) (k : K) (read : Nat → Option Value) : Prop :=
  match k with
  | .cs l => ∀ i c, l[i]? = some c → ∃ y, read i = some y ∧ RC ρ c y
  | .ints k l => ∀ i, i < l.length → read i = some (.int k (l.getD i 0))
  | .strs l => ∀ i, i < l.length → read i = some (.string (l.getD i .empty))

/-- A row of cells of the heap none of which is frozen. -/
def Row (w : World) (b : Nat) (arr : Array Value) (ty : TypeId) : Prop :=
  ∃ fz : Nat × Nat, w.heap[b]? = some (.cells arr ty fz) ∧ ∀ i, i < arr.size → ¬ (fz.1 ≤ i ∧ i < fz.2)

def live (ρ : Env) (id : Nat) (blk : Blk) : Prop :=
  match blk.mode with
  | .ro => False
  | .rw => True
  | .own _ => (ρ.val id).ownBlock ≠ none

def BlkRel (P : Program) (ρ : Env) (id : Nat) (blk : Blk) (w : World) : Prop :=
  match blk.mode with
  | .ro => K.Is ρ blk.k (fun i => w.cell? ⟨ρ.b id, ρ.o id + i, none⟩) ∧ (0 < blk.k.len → ρ.b id < w.heap.size)
  | .rw => ∃ arr, Row w (ρ.b id) arr blk.ty ∧ K.Is ρ blk.k (fun i => arr[ρ.o id + i]?)
  | .own n => ρ.o id = 0 ∧ (∀ g, (ρ.val id).ownBlock = some g → g = ρ.b id) ∧
      ∃ xs, w.ownsRow 0 blk.ty (P.cellsOf blk.ty) (ρ.val id) n xs ∧ xs.length = blk.k.len ∧ K.Is ρ blk.k (fun i => xs[i]?)

abbrev Mem := Nat → Option Blk
abbrev Tms := Nat → Option V

structure MemOk (P : Program) (ρ : Env) (M : Mem) (w : World) : Prop where
  rel : ∀ id blk, M id = some blk → BlkRel P ρ id blk w
  inj : ∀ i j bi bj, M i = some bi → M j = some bj → live ρ i bi → (live ρ j bj ∨ (bj.ro ∧ 0 < bj.k.len)) → i ≠ j → ρ.b i ≠ ρ.b j

/-- The part of the heap that a call leaves alone. -/
structure Fr (may : Nat → Prop) (w w' : World) : Prop where
  os : w'.os = w.os
  tape : w'.tape = w.tape
  output : w'.output = w.output
  size : w.heap.size ≤ w'.heap.size
  block : ∀ b, b < w.heap.size → ¬ may b → w'.heap[b]? = w.heap[b]?

theorem Fr.refl (may : Nat → Prop) (w : World) : Fr may w w := ⟨rfl, rfl, rfl, Nat.le_refl _, fun _ _ _ => rfl⟩

theorem Fr.trans {may : Nat → Prop} {a b c : World} (h : Fr may a b) (k : Fr may b c) : Fr may a c :=
  ⟨k.os.trans h.os, k.tape.trans h.tape, k.output.trans h.output, Nat.le_trans h.size k.size,
   fun i hi hm => (k.block i (Nat.lt_of_lt_of_le hi h.size) hm).trans (h.block i hi hm)⟩

theorem Fr.weaken {m m' : Nat → Prop} {w w' : World} (h : Fr m w w') (hm : ∀ b, b < w.heap.size → m b → m' b) : Fr m' w w' :=
  ⟨h.os, h.tape, h.output, h.size, fun b hb hn => h.block b hb (fun hh => hn (hm b hb hh))⟩

theorem RL.length {α β : Type} {R : α → β → Prop} {l : List α} {m : List β} (h : RL R l m) : l.length = m.length := by
  induction h with
  | nil => rfl
  | cons _ _ ih => simp [ih]

theorem RL.get {α β : Type} {R : α → β → Prop} {l : List α} {m : List β} (h : RL R l m) : ∀ (i : Nat) (a : α), l[i]? = some a → ∃ b, m[i]? = some b ∧ R a b := by
  induction h with
  | nil => intro i a h; simp at h
  | cons hab _ ih =>
    intro i a h
    cases i with
    | zero => simp at h; subst h; exact ⟨_, by simp, hab⟩
    | succ i => simpa using ih i a (by simpa using h)

theorem RL.of_get {α β : Type} {R : α → β → Prop} : ∀ (l : List α) (m : List β), l.length = m.length →
    (∀ (i : Nat) (a : α) (b : β), l[i]? = some a → m[i]? = some b → R a b) → RL R l m
  | [], [], _, _ => .nil
  | [], _ :: _, h, _ => by simp at h
  | _ :: _, [], h, _ => by simp at h
  | a :: l, b :: m, h, hr => .cons (hr 0 a b (by simp) (by simp)) (RL.of_get l m (by simpa using h) fun i x y hx hy => hr (i + 1) x y (by simpa using hx) (by simpa using hy))

theorem RL.append {α β : Type} {R : α → β → Prop} {l l' : List α} {m m' : List β} (h : RL R l m) (h' : RL R l' m') : RL R (l ++ l') (m ++ m') := by
  induction h with
  | nil => exact h'
  | cons a _ ih => exact .cons a ih

theorem RL.mono {α β : Type} {R R' : α → β → Prop} {l : List α} {m : List β} (h : RL R l m) (hr : ∀ a b, a ∈ l → R a b → R' a b) : RL R' l m := by
  induction h with
  | nil => exact .nil
  | cons a _ ih => exact .cons (hr _ _ (by simp) a) (ih fun a b ha => hr a b (by simp [ha]))

/-- ids that a value names. -/
def C.ids : C → List Nat
  | .v _ => []
  | .ptr id _ => [id]
  | .sl id _ _ => [id]
  | .own id => [id]
  | .fn _ caps => caps.map (·.1)
def W.ids : W → List Nat
  | .c x => x.ids
  | .agg l => l.flatMap C.ids
  | .ints _ _ => []
def V.ids : V → List Nat
  | .w x => x.ids
  | .tup l => l.flatMap W.ids
def K.ids : K → List Nat
  | .cs l => l.flatMap C.ids
  | _ => []

structure Env.same (ρ ρ' : Env) (id : Nat) : Prop where
  b : ρ'.b id = ρ.b id
  o : ρ'.o id = ρ.o id
  val : ρ'.val id = ρ.val id

theorem RC.env {ρ ρ' : Env} {c : C} {y : Value} (h : RC ρ c y) (hs : ∀ id ∈ c.ids, ρ.same ρ' id) : RC ρ' c y := by
  cases c with
  | v x => exact h
  | ptr id off => have := hs id (by simp [C.ids]); simp only [RC] at *; rw [this.b, this.o]; exact h
  | sl id off len => have := hs id (by simp [C.ids]); simp only [RC] at *; rw [this.b, this.o]; exact h
  | own id => have := hs id (by simp [C.ids]); simp only [RC] at *; rw [this.val]; exact h
  | fn f caps =>
    simp only [RC] at *
    rw [h]
    have : (caps.map fun p => Value.pointer (some ⟨ρ.b p.1, ρ.o p.1 + p.2, none⟩)) = (caps.map fun p => Value.pointer (some ⟨ρ'.b p.1, ρ'.o p.1 + p.2, none⟩)) := by
      apply List.map_congr_left
      intro p hp
      have := hs p.1 (by simp only [C.ids, List.mem_map]; exact ⟨p, hp, rfl⟩)
      rw [this.b, this.o]
    rw [this]

theorem RW.env {ρ ρ' : Env} {x : W} {y : Value} (h : RW ρ x y) (hs : ∀ id ∈ x.ids, ρ.same ρ' id) : RW ρ' x y := by
  cases x with
  | c x => exact RC.env h hs
  | agg l =>
    obtain ⟨cs, rfl, hl⟩ := h
    exact ⟨cs, rfl, hl.mono fun a b ha hab => hab.env fun id hid => hs id (by simp only [W.ids, List.mem_flatMap]; exact ⟨a, ha, hid⟩)⟩
  | ints k l => exact h

theorem RV.env {ρ ρ' : Env} {x : V} {y : Value} (h : RV ρ x y) (hs : ∀ id ∈ x.ids, ρ.same ρ' id) : RV ρ' x y := by
  cases x with
  | w x => exact RW.env h hs
  | tup l =>
    obtain ⟨cs, rfl, hl⟩ := h
    exact ⟨cs, rfl, hl.mono fun a b ha hab => hab.env fun id hid => hs id (by simp only [V.ids, List.mem_flatMap]; exact ⟨a, ha, hid⟩)⟩

theorem K.Is.env {ρ ρ' : Env} {k : K} {read : Nat → Option Value} (h : k.Is ρ read) (hs : ∀ id ∈ k.ids, ρ.same ρ' id) : k.Is ρ' read := by
  cases k with
  | cs l =>
    intro i c hc
    obtain ⟨y, hy, hr⟩ := h i c hc
    exact ⟨y, hy, hr.env fun id hid => hs id (by simp only [K.ids, List.mem_flatMap]; exact ⟨c, List.mem_of_getElem? hc, hid⟩)⟩
  | ints k l => exact h
  | strs l => exact h

theorem K.Is.read {ρ : Env} {k : K} {read read' : Nat → Option Value} (h : k.Is ρ read) (hs : ∀ i y, i < k.len → read i = some y → read' i = some y) : k.Is ρ read' := by
  cases k with
  | cs l =>
    intro i c hc
    obtain ⟨y, hy, hr⟩ := h i c hc
    have : i < l.length := by
      rcases Nat.lt_or_ge i l.length with h' | h'
      · exact h'
      · simp [List.getElem?_eq_none h'] at hc
    exact ⟨y, hs i y this hy, hr⟩
  | ints k l => intro i hi; exact hs i _ hi (h i hi)
  | strs l => intro i hi; exact hs i _ hi (h i hi)

end Sx
