/- A symbolic executor, checked once, and what it shows of the functions: part 3. -/
import Derived.Test.YtmjejlbmcefaoaaPkB
import Derived.Great.BuildSlice
import Derived.KernelRfl
import Derived.Lib.ConvBytes
import Derived.Orders
import Derived.WalkKit
namespace Sx
open Go Go.RowKit

/-- Where a block of the symbolic memory lies. -/
structure Env where
  b : Nat → Nat
  o : Nat → Nat
  val : Nat → Value

inductive C where
  | v (x : Value)
  | ptr (id off : Nat)
  | sl (id off len : Nat)
  | own (id : Nat)
  | fn (f : FuncId) (caps : List (Nat × Nat))
  | u (x : Nat)

inductive W where
  | c (x : C)
  | agg (l : List C)
  | ints (k : IntKind) (l : List Int)

inductive V where
  | w (x : W)
  | tup (l : List W)

abbrev C.int (k : IntKind) (n : Int) : C := .v (.int k n)
abbrev W.int (k : IntKind) (n : Int) : W := .c (.v (.int k n))
abbrev V.int (k : IntKind) (n : Int) : V := .w (.c (.v (.int k n)))
abbrev V.bool (b : Bool) : V := .w (.c (.v (.bool b)))
abbrev V.str (s : ByteArray) : V := .w (.c (.v (.string s)))

def RC (ρ : Env) : C → Value → Prop
  | .v x, y => y = x
  | .ptr id off, y => y = .pointer (some ⟨ρ.b id, ρ.o id + off, none⟩)
  | .sl id off len, y => ∃ a cap, y = .slice a len cap ∧ len ≤ cap ∧ (0 < len → a = some ⟨ρ.b id, ρ.o id + off, none⟩)
  | .own id, y => y = ρ.val id ∧ y.oneCell' = true
  | .fn f caps, y => y = .func (.func f) #[] (caps.map fun p => Value.pointer (some ⟨ρ.b p.1, ρ.o p.1 + p.2, none⟩)).toArray
  | .u x, y => y = .int .u64 ((x % 18446744073709551616 : Nat) : Int)

inductive RL {α β : Type} (R : α → β → Prop) : List α → List β → Prop
  | nil : RL R [] []
  | cons {a b l m} : R a b → RL R l m → RL R (a :: l) (b :: m)

def RW (ρ : Env) : W → Value → Prop
  | .c x, y => RC ρ x y
  | .agg l, y => ∃ cs, y = .agg cs.toArray ∧ RL (RC ρ) l cs
  | .ints k l, y => y = .agg (l.map (Value.int k)).toArray

def RV (ρ : Env) : V → Value → Prop
  | .w x, y => RW ρ x y
  | .tup l, y => ∃ vs, y = .tuple vs.toArray ∧ RL (RW ρ) l vs

/-- What a block holds. -/
inductive K where
  | cs (l : List C)
  | ints (k : IntKind) (l : List Int)
  | strs (l : List ByteArray)

def K.len : K → Nat
  | .cs l => l.length
  | .ints _ l => l.length
  | .strs l => l.length

inductive Mode where
  | ro | rw | own (n : Nat)

structure Blk where
  ty : TypeId
  mode : Mode
  k : K

def Blk.ro (b : Blk) : Prop := match b.mode with | .ro => True | _ => False

def K.Is (ρ : Env) (k : K) (read : Nat → Option Value) : Prop :=
  match k with
  | .cs l => ∀ i c, l[i]? = some c → ∃ y, read i = some y ∧ RC ρ c y
  | .ints k l => ∀ i, i < l.length → read i = some (.int k (l.getD i 0))
  | .strs l => ∀ i, i < l.length → read i = some (.string (l.getD i .empty))

/-- A row of cells of the heap none of which is frozen. -/
def Row (w : World) (b : Nat) (arr : Array Value) (ty : TypeId) : Prop :=
  ∃ fz : Nat × Nat, w.heap[b]? = some (.cells arr ty fz) ∧ ∀ i, i < arr.size → ¬ (fz.1 ≤ i ∧ i < fz.2)

def live (ρ : Env) (id : Nat) (blk : Blk) : Prop :=
  match blk.mode with
  | .ro => False
  | .rw => True
  | .own _ => (ρ.val id).ownBlock ≠ none

def BlkRel (P : Program) (ρ : Env) (id : Nat) (blk : Blk) (w : World) : Prop :=
  match blk.mode with
  | .ro => K.Is ρ blk.k (fun i => w.cell? ⟨ρ.b id, ρ.o id + i, none⟩) ∧ (0 < blk.k.len → ρ.b id < w.heap.size)
  | .rw => ∃ arr, Row w (ρ.b id) arr blk.ty ∧ K.Is ρ blk.k (fun i => arr[ρ.o id + i]?)
  | .own n => ρ.o id = 0 ∧ (∀ g, (ρ.val id).ownBlock = some g → g = ρ.b id) ∧
      ∃ xs, w.ownsRow 0 blk.ty (P.cellsOf blk.ty) (ρ.val id) n xs ∧ xs.length = blk.k.len ∧ K.Is ρ blk.k (fun i => xs[i]?)

abbrev Mem := Nat → Option Blk
abbrev Tms := Nat → Option V

structure MemOk (P : Program) (ρ : Env) (M : Mem) (w : World) : Prop where
  rel : ∀ id blk, M id = some blk → BlkRel P ρ id blk w
  inj : ∀ i j bi bj, M i = some bi → M j = some bj → live ρ i bi → (live ρ j bj ∨ (bj.ro ∧ 0 < bj.k.len)) → i ≠ j → ρ.b i ≠ ρ.b j

/-- The part of the heap that a call leaves alone. -/
structure Fr (may : Nat → Prop) (w w' : World) : Prop where
  os : w'.os = w.os
  tape : w'.tape = w.tape
  output : w'.output = w.output
  size : w.heap.size ≤ w'.heap.size
  block : ∀ b, b < w.heap.size → ¬ may b → w'.heap[b]? = w.heap[b]?

theorem Fr.refl (may : Nat → Prop) (w : World) : Fr may w w := ⟨rfl, rfl, rfl, Nat.le_refl _, fun _ _ _ => rfl⟩

theorem Fr.trans {may : Nat → Prop} {a b c : World} (h : Fr may a b) (k : Fr may b c) : Fr may a c :=
  ⟨k.os.trans h.os, k.tape.trans h.tape, k.output.trans h.output, Nat.le_trans h.size k.size,
   fun i hi hm => (k.block i (Nat.lt_of_lt_of_le hi h.size) hm).trans (h.block i hi hm)⟩

theorem Fr.weaken {m m' : Nat → Prop} {w w' : World} (h : Fr m w w') (hm : ∀ b, b < w.heap.size → m b → m' b) : Fr m' w w' :=
  ⟨h.os, h.tape, h.output, h.size, fun b hb hn => h.block b hb (fun hh => hn (hm b hb hh))⟩

theorem RL.length {α β : Type} {R : α → β → Prop} {l : List α} {m : List β} (h : RL R l m) : l.length = m.length := by
  induction h with
  | nil => rfl
  | cons _ _ ih => simp [ih]

theorem RL.get {α β : Type} {R : α → β → Prop} {l : List α} {m : List β} (h : RL R l m) : ∀ (i : Nat) (a : α), l[i]? = some a → ∃ b, m[i]? = some b ∧ R a b := by
  induction h with
  | nil => intro i a h; simp at h
  | cons hab _ ih =>
    intro i a h
    cases i with
    | zero => simp at h; subst h; exact ⟨_, by simp, hab⟩
    | succ i => simpa using ih i a (by simpa using h)

theorem RL.of_get {α β : Type} {R : α → β → Prop} : ∀ (l : List α) (m : List β), l.length = m.length →
    (∀ (i : Nat) (a : α) (b : β), l[i]? = some a → m[i]? = some b → R a b) → RL R l m
  | [], [], _, _ => .nil
  | [], _ :: _, h, _ => by simp at h
  | _ :: _, [], h, _ => by simp at h
  | a :: l, b :: m, h, hr => .cons (hr 0 a b (by simp) (by simp)) (RL.of_get l m (by simpa using h) fun i x y hx hy => hr (i + 1) x y (by simpa using hx) (by simpa using hy))

theorem RL.append {α β : Type} {R : α → β → Prop} {l l' : List α} {m m' : List β} (h : RL R l m) (h' : RL R l' m') : RL R (l ++ l') (m ++ m') := by
  induction h with
  | nil => exact h'
  | cons a _ ih => exact .cons a ih

theorem RL.mono {α β : Type} {R R' : α → β → Prop} {l : List α} {m : List β} (h : RL R l m) (hr : ∀ a b, a ∈ l → R a b → R' a b) : RL R' l m := by
  induction h with
  | nil => exact .nil
  | cons a _ ih => exact .cons (hr _ _ (by simp) a) (ih fun a b ha => hr a b (by simp [ha]))

/-- ids that a value names. -/
def C.ids : C → List Nat
  | .v _ => []
  | .ptr id _ => [id]
  | .sl id _ _ => [id]
  | .own id => [id]
  | .fn _ caps => caps.map (·.1)
  | .u _ => []
def W.ids : W → List Nat
  | .c x => x.ids
  | .agg l => l.flatMap C.ids
  | .ints _ _ => []
def V.ids : V → List Nat
  | .w x => x.ids
  | .tup l => l.flatMap W.ids
def K.ids : K → List Nat
  | .cs l => l.flatMap C.ids
  | _ => []

structure Env.same (ρ ρ' : Env) (id : Nat) : Prop where
  b : ρ'.b id = ρ.b id
  o : ρ'.o id = ρ.o id
  val : ρ'.val id = ρ.val id

theorem RC.env {ρ ρ' : Env} {c : C} {y : Value} (h : RC ρ c y) (hs : ∀ id ∈ c.ids, ρ.same ρ' id) : RC ρ' c y := by
  cases c with
  | v x => exact h
  | ptr id off => have := hs id (by simp [C.ids]); simp only [RC] at *; rw [this.b, this.o]; exact h
  | sl id off len => have := hs id (by simp [C.ids]); simp only [RC] at *; rw [this.b, this.o]; exact h
  | own id => have := hs id (by simp [C.ids]); simp only [RC] at *; rw [this.val]; exact h
  | fn f caps =>
    simp only [RC] at *
    rw [h]
    have : (caps.map fun p => Value.pointer (some ⟨ρ.b p.1, ρ.o p.1 + p.2, none⟩)) = (caps.map fun p => Value.pointer (some ⟨ρ'.b p.1, ρ'.o p.1 + p.2, none⟩)) := by
      apply List.map_congr_left
      intro p hp
      have := hs p.1 (by simp only [C.ids, List.mem_map]; exact ⟨p, hp, rfl⟩)
      rw [this.b, this.o]
    rw [this]
  | u x => exact h

theorem RW.env {ρ ρ' : Env} {x : W} {y : Value} (h : RW ρ x y) (hs : ∀ id ∈ x.ids, ρ.same ρ' id) : RW ρ' x y := by
  cases x with
  | c x => exact RC.env h hs
  | agg l =>
    obtain ⟨cs, rfl, hl⟩ := h
    exact ⟨cs, rfl, hl.mono fun a b ha hab => hab.env fun id hid => hs id (by simp only [W.ids, List.mem_flatMap]; exact ⟨a, ha, hid⟩)⟩
  | ints k l => exact h

theorem RV.env {ρ ρ' : Env} {x : V} {y : Value} (h : RV ρ x y) (hs : ∀ id ∈ x.ids, ρ.same ρ' id) : RV ρ' x y := by
  cases x with
  | w x => exact RW.env h hs
  | tup l =>
    obtain ⟨cs, rfl, hl⟩ := h
    exact ⟨cs, rfl, hl.mono fun a b ha hab => hab.env fun id hid => hs id (by simp only [V.ids, List.mem_flatMap]; exact ⟨a, ha, hid⟩)⟩

theorem K.Is.env {ρ ρ' : Env} {k : K} {read : Nat → Option Value} (h : k.Is ρ read) (hs : ∀ id ∈ k.ids, ρ.same ρ' id) : k.Is ρ' read := by
  cases k with
  | cs l =>
    intro i c hc
    obtain ⟨y, hy, hr⟩ := h i c hc
    exact ⟨y, hy, hr.env fun id hid => hs id (by simp only [K.ids, List.mem_flatMap]; exact ⟨c, List.mem_of_getElem? hc, hid⟩)⟩
  | ints k l => exact h
  | strs l => exact h

theorem K.Is.read {ρ : Env} {k : K} {read read' : Nat → Option Value} (h : k.Is ρ read) (hs : ∀ i y, i < k.len → read i = some y → read' i = some y) : k.Is ρ read' := by
  cases k with
  | cs l =>
    intro i c hc
    obtain ⟨y, hy, hr⟩ := h i c hc
    have : i < l.length := by
      rcases Nat.lt_or_ge i l.length with h' | h'
      · exact h'
      · simp [List.getElem?_eq_none h'] at hc
    exact ⟨y, hs i y this hy, hr⟩
  | ints k l => intro i hi; exact hs i _ hi (h i hi)
  | strs l => intro i hi; exact hs i _ hi (h i hi)

end Sx

namespace Sx
open Go Go.RowKit

/-- a number's four words. -/
def numC (n : Nat) : List C := [.u n, .u (n / 18446744073709551616), .u (n / 340282366920938463463374607431768211456), .u (n / 6277101735386680763835789423207666416102355444464034512896)]
def numCs : List Nat → List C
  | [] => []
  | n :: r => numC n ++ numCs r
def num4 (a b c d : Nat) : Nat := a + 18446744073709551616 * (b + 18446744073709551616 * (c + 18446744073709551616 * d))

/-- a number as its words tell it. -/
def nn (n : Nat) : Nat := num4 (n % 18446744073709551616) (n / 18446744073709551616 % 18446744073709551616) (n / 340282366920938463463374607431768211456 % 18446744073709551616) (n / 6277101735386680763835789423207666416102355444464034512896 % 18446744073709551616)
theorem nn_eq (n : Nat) : nn n = n % 115792089237316195423570985008687907853269984665640564039457584007913129639936 := by
  unfold nn num4
  omega
theorem nn_id {n : Nat} (h : n < 115792089237316195423570985008687907853269984665640564039457584007913129639936) : nn n = n := by rw [nn_eq, Nat.mod_eq_of_lt h]

/-- a cell that is a word: its number, what it asks. -/
def wOf : C → Option (Nat × List Bool)
  | .u x => some (x % 18446744073709551616, [])
  | .v (.int .u64 n) => some (n.toNat, [decide (0 ≤ n) && decide (n < 18446744073709551616)])
  | _ => none
def num : List C → Option (Nat × List Bool)
  | [a, b, c, d] => match wOf a, wOf b, wOf c, wOf d with
    | some (a, o), some (b, p), some (c, q), some (d, r) => some (num4 a b c d, o ++ (p ++ (q ++ r)))
    | _, _, _, _ => none
  | _ => none
def nums : List C → Option (List Nat × List Bool)
  | [] => some ([], [])
  | a :: b :: c :: d :: r => match num [a, b, c, d] with
    | some (n, o) => match nums r with
      | some (l, p) => some (n :: l, o ++ p)
      | none => none
    | none => none
  | _ => none
def P256 : Nat := 115792089237316195423570985008687907853269984665640564039457584007913129639936

theorem wOf_ok {c : C} {a : Nat} {o : List Bool} (h : wOf c = some (a, o)) (ho : ∀ b ∈ o, b = true) : a < 18446744073709551616 ∧ ∀ ρ y, RC ρ c y → y = .int .u64 (a : Int) := by
  unfold wOf at h
  split at h
  · rename_i x
    cases h
    exact ⟨Nat.mod_lt _ (by decide), fun ρ y hy => hy⟩
  · rename_i n
    cases h
    have := ho _ (List.mem_singleton.2 rfl)
    simp only [Bool.and_eq_true, decide_eq_true_eq] at this
    refine ⟨by omega, fun ρ y hy => ?_⟩
    have hy' : y = .int .u64 n := hy
    rw [hy', Int.toNat_of_nonneg this.1]
  · cases h

theorem num4_cells {a b c d : Nat} (ha : a < 18446744073709551616) (hb : b < 18446744073709551616) (hc : c < 18446744073709551616) (hd : d < 18446744073709551616) :
    num4 a b c d % 18446744073709551616 = a ∧ num4 a b c d / 18446744073709551616 % 18446744073709551616 = b ∧ num4 a b c d / 340282366920938463463374607431768211456 % 18446744073709551616 = c ∧
    num4 a b c d / 6277101735386680763835789423207666416102355444464034512896 % 18446744073709551616 = d ∧ num4 a b c d < P256 := by
  unfold num4 P256
  omega

theorem num_ok {l : List C} {n : Nat} {o : List Bool} (h : num l = some (n, o)) (ho : ∀ b ∈ o, b = true) : n < P256 ∧ l.length = 4 ∧ ∀ ρ cs, RL (RC ρ) l cs → ∀ ρ', RL (RC ρ') (numC n) cs := by
  unfold num at h
  split at h
  · rename_i a b c d
    split at h
    · rename_i a' o1 b' o2 c' o3 d' o4 h1 h2 h3 h4
      cases h
      obtain ⟨a1, a2⟩ := wOf_ok h1 (fun b hb => ho b (by simp [hb]))
      obtain ⟨b1, b2⟩ := wOf_ok h2 (fun b hb => ho b (by simp [hb]))
      obtain ⟨c1, c2⟩ := wOf_ok h3 (fun b hb => ho b (by simp [hb]))
      obtain ⟨d1, d2⟩ := wOf_ok h4 (fun b hb => ho b (by simp [hb]))
      obtain ⟨e1, e2, e3, e4, e5⟩ := num4_cells a1 b1 c1 d1
      refine ⟨e5, rfl, fun ρ cs hl ρ' => ?_⟩
      cases hl with | cons x1 hl => cases hl with | cons x2 hl => cases hl with | cons x3 hl => cases hl with | cons x4 hl => cases hl with | nil =>
      refine .cons ?_ (.cons ?_ (.cons ?_ (.cons ?_ .nil)))
      · show _ = _; rw [e1]; exact a2 _ _ x1
      · show _ = _; rw [e2]; exact b2 _ _ x2
      · show _ = _; rw [e3]; exact c2 _ _ x3
      · show _ = _; rw [e4]; exact d2 _ _ x4
    · cases h
  · cases h

theorem numCs_ids : ∀ l : List Nat, ∀ c ∈ numCs l, c.ids = []
  | [], c, h => by cases h
  | n :: r, c, h => by
    simp only [numCs, numC, List.mem_append, List.mem_cons, List.not_mem_nil, or_false] at h
    rcases h with (rfl | rfl | rfl | rfl) | h
    · rfl
    · rfl
    · rfl
    · rfl
    · exact numCs_ids r c h

theorem nums_ok : ∀ {l : List C} {ns : List Nat} {o : List Bool}, nums l = some (ns, o) → (∀ b ∈ o, b = true) → (∀ n ∈ ns, n < P256) ∧ l.length = 4 * ns.length ∧ ∀ ρ cs, RL (RC ρ) l cs → ∀ ρ', RL (RC ρ') (numCs ns) cs
  | [], ns, o, h, _ => by simp [nums] at h; obtain ⟨rfl, _⟩ := h; exact ⟨by simp, rfl, fun ρ cs h ρ' => by cases h; exact .nil⟩
  | [_], ns, o, h, _ => by simp [nums] at h
  | [_, _], ns, o, h, _ => by simp [nums] at h
  | [_, _, _], ns, o, h, _ => by simp [nums] at h
  | a :: b :: c :: d :: r, ns, o, h, ho => by
    simp only [nums] at h
    cases h1 : num [a, b, c, d] with
    | none => simp [h1] at h
    | some p =>
      obtain ⟨n, o1⟩ := p
      simp only [h1] at h
      cases h2 : nums r with
      | none => simp [h2] at h
      | some q =>
        obtain ⟨l, o2⟩ := q
        simp [h2] at h
        obtain ⟨rfl, rfl⟩ := h
        obtain ⟨a1, _, a3⟩ := num_ok h1 (fun b hb => ho b (by simp [hb]))
        obtain ⟨b1, b2, b3⟩ := nums_ok h2 (fun b hb => ho b (by simp [hb]))
        refine ⟨fun m hm => ?_, by simp only [List.length_cons, b2]; omega, fun ρ cs hl ρ' => ?_⟩
        · rcases List.mem_cons.1 hm with rfl | hm
          · exact a1
          · exact b1 m hm
        · cases hl with | cons x1 hl => cases hl with | cons x2 hl => cases hl with | cons x3 hl => cases hl with | cons x4 hl =>
          exact (a3 ρ _ (.cons x1 (.cons x2 (.cons x3 (.cons x4 .nil)))) ρ').append (b3 ρ _ hl ρ')

theorem nums_len : ∀ {l : List C} {ns : List Nat} {o : List Bool}, nums l = some (ns, o) → l.length = 4 * ns.length
  | [], ns, o, h => by simp [nums] at h; obtain ⟨rfl, _⟩ := h; rfl
  | [_], ns, o, h => by simp [nums] at h
  | [_, _], ns, o, h => by simp [nums] at h
  | [_, _, _], ns, o, h => by simp [nums] at h
  | a :: b :: c :: d :: r, ns, o, h => by
    simp only [nums] at h
    cases h1 : num [a, b, c, d] with
    | none => simp [h1] at h
    | some p =>
      obtain ⟨n, o1⟩ := p
      simp only [h1] at h
      cases h2 : nums r with
      | none => simp [h2] at h
      | some q =>
        obtain ⟨l, o2⟩ := q
        simp [h2] at h
        obtain ⟨rfl, rfl⟩ := h
        simp only [List.length_cons, nums_len h2]; omega
theorem wOf_ids {c : C} {p : Nat × List Bool} (h : wOf c = some p) : c.ids = [] := by
  unfold wOf at h
  split at h
  · rfl
  · rfl
  · cases h
theorem nums_idsC : ∀ {l : List C} {p : List Nat × List Bool}, nums l = some p → ∀ c ∈ l, c.ids = []
  | [], p, _, c, hc => by cases hc
  | [_], p, h, _, _ => by simp [nums] at h
  | [_, _], p, h, _, _ => by simp [nums] at h
  | [_, _, _], p, h, _, _ => by simp [nums] at h
  | a :: b :: c :: d :: r, p, h, x, hx => by
    simp only [nums] at h
    cases h1 : num [a, b, c, d] with
    | none => simp [h1] at h
    | some q =>
      simp only [h1] at h
      cases h2 : nums r with
      | none => simp [h2] at h
      | some q2 =>
        simp only [num] at h1
        split at h1
        · rename_i w1 w2 w3 w4
          simp only [List.mem_cons] at hx
          rcases hx with rfl | rfl | rfl | rfl | hx
          · exact wOf_ids w1
          · exact wOf_ids w2
          · exact wOf_ids w3
          · exact wOf_ids w4
          · exact nums_idsC h2 x hx
        · cases h1
theorem nums_ids {l : List C} {p : List Nat × List Bool} (h : nums l = some p) : (K.cs l).ids = [] := by
  simp only [K.ids, List.flatMap_eq_nil_iff]
  exact nums_idsC h

/-- rows of numbers held against one another. -/
def C.isU : C → Bool
  | .u _ => true
  | _ => false
def eqNs : List Nat → List Nat → Bool
  | [], [] => true
  | [a], [b] => Nat.beq a b
  | a :: r, b :: s => Nat.beq a b && eqNs r s
  | _, _ => false
def isEq (op : BinOp) : Bool := match op with | .eql => true | _ => false
def isNe (op : BinOp) : Bool := match op with | .neq => true | _ => false
end Sx

namespace Sx
open Go Go.RowKit

def W.cells : W → List C
  | .c x => [x]
  | .agg l => l
  | .ints k l => l.map (C.int k)

/-- a word by its plain value. -/
def C.norm : C → C
  | .u x => .v (.int .u64 ((x % 18446744073709551616 : Nat) : Int))
  | c => c
def W.norm : W → W
  | .c x => .c x.norm
  | .agg l => .agg (l.map C.norm)
  | .ints k l => .ints k l
def C.lit (c : C) : Value := match c.norm with | .v x => x | _ => .nilFunc

def W.k : W → K
  | .c x => .cs [x]
  | .agg l => .cs l
  | .ints k l => .ints k l

/-- a literal cell; words by their numbers. -/
def wC : Value → C
  | .int .u64 (.ofNat n) => bif Nat.blt n 18446744073709551616 then .u n else .v (.int .u64 (.ofNat n))
  | v => .v v
/-- literal cells; where there are four or more, words by their numbers. -/
def wCs (cs : List Value) : List C := bif Nat.ble 4 cs.length then cs.map wC else cs.map C.v

def litV (v : Value) : V :=
  match v with
  | .agg cs => .w (.agg (wCs cs.toList))
  | v => .w (.c (.v v))

def ev (t : Tms) : Operand → Option V
  | .tmp x => t x
  | .const v => some (litV v)
  | .global _ => none
  | .func f => some (.w (.c (.v (.func (.func f) #[] #[]))))

def evw (t : Tms) (x : Operand) : Option W :=
  match ev t x with
  | some (.w x) => some x
  | _ => none

def evn (t : Tms) (x : Operand) : Option W :=
  match evw t x with
  | some x => some x.norm
  | none => none

def evws (t : Tms) : List Operand → Option (List W)
  | [] => some []
  | x :: r =>
    match evw t x with
    | some v => match evws t r with
      | some l => some (v :: l)
      | none => none
    | none => none

structure Out where
  v : Option V
  upd : List (Nat × Option Blk)
  obs : List Bool

def out1 (v : V) : Option Out := some ⟨some v, [], []⟩
def outo (v : V) (obs : List Bool) : Option Out := some ⟨some v, [], obs⟩

def putM (M : Mem) : List (Nat × Option Blk) → Mem
  | [] => M
  | (id, b) :: r => putM (fun x => bif Nat.beq x id then b else M x) r

def putT (t : Tms) (dst : Option Nat) (v : Option V) : Tms :=
  match dst with
  | some d => fun x => bif Nat.beq x d then v else t x
  | none => t

def isAggT (P : Program) (T : TypeId) : Bool :=
  match P.underlying T with
  | some (.struct _) => true
  | some (.array _ _) => true
  | _ => false

def hasT (P : Program) (T : TypeId) : Bool :=
  match P.underlying T with
  | some _ => true
  | none => false

def K.at (k : K) (i : Nat) : Option (C × List Bool) :=
  match k with
  | .cs l => match l[i]? with
    | some c => some (c, [])
    | none => none
  | .ints k l => some (.v (.int k (l.getD i 0)), [Nat.blt i l.length])
  | .strs l => some (.v (.string (l.getD i .empty)), [Nat.blt i l.length])

def K.take (k : K) (off j : Nat) : Nat → Option (List C × List Bool)
  | 0 => some ([], [])
  | n + 1 =>
    match k.at (off + j) with
    | some (c, o) => match K.take k off (j + 1) n with
      | some (l, o') => some (c :: l, o ++ o')
      | none => none
    | none => none

def kEq (a b : IntKind) : Bool := decide (a = b)

def C.one : C → Bool
  | .v (.agg _) => false
  | .v (.tuple _) => false
  | _ => true

def K.set (k : K) (i : Nat) (c : C) : Option (K × List Bool) :=
  match k with
  | .cs l => bif Nat.blt i l.length && c.one then some (.cs (l.set i c), []) else none
  | .ints k l =>
    match c.norm with
    | .v (.int k' n) => bif kEq k k' then some (.ints k (l.set i n), [Nat.blt i l.length]) else none
    | _ => none
  | .strs l =>
    match c with
    | .v (.string s) => some (.strs (l.set i s), [Nat.blt i l.length])
    | _ => none

def K.sets (k : K) (off j : Nat) : List C → Option (K × List Bool)
  | [] => some (k, [])
  | c :: r =>
    match k.set (off + j) c with
    | some (k', o) => match K.sets k' off (j + 1) r with
      | some (k'', o') => some (k'', o ++ o')
      | none => none
    | none => none

/-- integer operations, as the model has them, what they ask beside. -/
def intOp (op : BinOp) (k : IntKind) (a b : Int) : Option (V × List Bool) :=
  match op with
  | .add => some (V.int k (k.wrap (a + b)), [])
  | .sub => some (V.int k (k.wrap (a - b)), [])
  | .mul => some (V.int k (k.wrap (a * b)), [])
  | .quo => some (V.int k (k.wrap (a.tdiv b)), [!(decide (b = 0))])
  | .rem => some (V.int k (a.tmod b), [!(decide (b = 0))])
  | .and => some (V.int k (k.wrap (BitVec.ofInt k.bits a &&& BitVec.ofInt k.bits b).toNat), [])
  | .or => some (V.int k (k.wrap (BitVec.ofInt k.bits a ||| BitVec.ofInt k.bits b).toNat), [])
  | .xor => some (V.int k (k.wrap (BitVec.ofInt k.bits a ^^^ BitVec.ofInt k.bits b).toNat), [])
  | .andNot => some (V.int k (k.wrap (BitVec.ofInt k.bits a &&& ~~~(BitVec.ofInt k.bits b)).toNat), [])
  | .eql => some (V.bool (a == b), [])
  | .neq => some (V.bool (a != b), [])
  | .lss => some (V.bool (decide (a < b)), [])
  | .leq => some (V.bool (decide (a ≤ b)), [])
  | .gtr => some (V.bool (decide (a > b)), [])
  | .geq => some (V.bool (decide (a ≥ b)), [])
  | _ => none

def shOp (op : BinOp) (k : IntKind) (a b : Int) : Option (V × List Bool) :=
  match op with
  | .shl => some (V.int k (k.wrap (a * 2 ^ (min b.toNat k.bits))), [decide (0 ≤ b)])
  | .shr => some (V.int k (a.fdiv (2 ^ (min b.toNat k.bits))), [decide (0 ≤ b)])
  | _ => none

def isSh (op : BinOp) : Bool := match op with | .shl => true | .shr => true | _ => false

def strOp (op : BinOp) (a b : ByteArray) : Option (V × List Bool) :=
  match op with
  | .add => some (V.str (a ++ b), [Nat.ble (a.size + b.size) 9223372036854775807])
  | .eql => some (V.bool (a.toList == b.toList), [])
  | .neq => some (V.bool (!(a.toList == b.toList)), [])
  | _ => none

/-- cells of numbers, bools and strings held against one another. -/
def eqCells : List C → List C → Option Bool
  | [], [] => some true
  | .v (.int k a) :: r, .v (.int k' b) :: s =>
    bif kEq k k' then (match eqCells r s with | some x => some ((a == b) && x) | none => none) else none
  | .v (.string a) :: r, .v (.string b) :: s => match eqCells r s with | some x => some ((a == b) && x) | none => none
  | .v (.bool a) :: r, .v (.bool b) :: s => match eqCells r s with | some x => some ((a == b) && x) | none => none
  | _, _ => none

/-- a cell's kind: 0 a number, 1 a bool, 2 a string. -/
def C.code : C → Nat
  | .v (.int _ _) => 0
  | .v (.bool _) => 1
  | .v (.string _) => 2
  | _ => 3

def codesOk : Option (List Nat) → List C → Bool
  | some [], [] => true
  | some (k :: r), c :: l => Nat.beq c.code k && codesOk (some r) l
  | _, _ => false

/-- tables: contracts of functions, results of functions without a body, types whose values '==' holds cell by cell. -/
structure Tab where
  ctr : FuncId → List W → Mem → Nat → Option Out
  ext : FuncId → List W → Option Out
  eqs : TypeId → Option (List Nat)

def isBoolT (P : Program) (T : TypeId) : Bool := match P.underlying T with | some .bool => true | _ => false
def isPtrT (P : Program) (T : TypeId) : Bool := match P.underlying T with | some (.pointer _) => true | _ => false

def binEv (P : Program) (tab : Tab) (op : BinOp) (T : TypeId) (x y : W) : Option Out :=
  match x, y with
  | .c (.v (.int k a)), .c (.v (.int k' b)) =>
    bif isSh op then (match shOp op k a b with | some (v, o) => outo v o | none => none)
    else bif kEq k k' then (match intOp op k a b with | some (v, o) => outo v o | none => none) else none
  | .c (.v (.string a)), .c (.v (.string b)) => match strOp op a b with | some (v, o) => outo v o | none => none
  | .c (.v (.bool a)), .c (.v (.bool b)) => bif isBoolT P T then (bif isEq op then out1 (V.bool (a == b)) else bif isNe op then out1 (V.bool (!(a == b))) else none) else none
  | .c (.ptr _ _), .c (.v (.pointer none)) => bif isPtrT P T then (bif isEq op then out1 (V.bool false) else bif isNe op then out1 (V.bool true) else none) else none
  | .c (.v (.pointer none)), .c (.v (.pointer none)) => bif isPtrT P T then (bif isEq op then out1 (V.bool true) else bif isNe op then out1 (V.bool false) else none) else none
  | .agg l, .agg m =>
    bif codesOk (tab.eqs T) l then
      match eqCells l m with
      | some r => bif isEq op then out1 (V.bool r) else bif isNe op then out1 (V.bool (!r)) else none
      | none => none
    else none
  | _, _ => none

/-- operations on words, by their numbers. -/
def uOp (op : BinOp) (x y : Nat) : Option V :=
  match op with
  | .add => some (.w (.c (.u (x + y))))
  | .sub => some (.w (.c (.u (x + (18446744073709551616 - y % 18446744073709551616)))))
  | .mul => some (.w (.c (.u (x * y))))
  | .and => some (.w (.c (.u (x &&& y))))
  | .or => some (.w (.c (.u (x ||| y))))
  | .xor => some (.w (.c (.u (x ^^^ y))))
  | .eql => some (V.bool (Nat.beq (x % 18446744073709551616) (y % 18446744073709551616)))
  | .neq => some (V.bool (!(Nat.beq (x % 18446744073709551616) (y % 18446744073709551616))))
  | .lss => some (V.bool (Nat.blt (x % 18446744073709551616) (y % 18446744073709551616)))
  | .gtr => some (V.bool (Nat.blt (y % 18446744073709551616) (x % 18446744073709551616)))
  | .leq => some (V.bool (Nat.ble (x % 18446744073709551616) (y % 18446744073709551616)))
  | .geq => some (V.bool (Nat.ble (y % 18446744073709551616) (x % 18446744073709551616)))
  | _ => none
def uSh (op : BinOp) (x : Nat) (b : Int) : Option V :=
  match op with
  | .shl => some (.w (.c (.u (x * 2 ^ b.toNat))))
  | .shr => some (.w (.c (.u (x % 18446744073709551616 / 2 ^ b.toNat))))
  | _ => none
def isCmp (op : BinOp) : Bool := match op with | .eql => true | .neq => true | .lss => true | .gtr => true | .leq => true | .geq => true | _ => false
def flipCmp (op : BinOp) : BinOp := match op with | .lss => .gtr | .gtr => .lss | .leq => .geq | .geq => .leq | op => op
/-- a word held against a number. -/
def uCmp (op : BinOp) (x : Nat) (n : Int) : Option V :=
  match op with
  | .eql => some (V.bool (bif decide (0 ≤ n) then Nat.beq (x % 18446744073709551616) n.toNat else false))
  | .neq => some (V.bool (bif decide (0 ≤ n) then !(Nat.beq (x % 18446744073709551616) n.toNat) else true))
  | .lss => some (V.bool (bif decide (0 ≤ n) then Nat.blt (x % 18446744073709551616) n.toNat else false))
  | .gtr => some (V.bool (bif decide (0 ≤ n) then Nat.blt n.toNat (x % 18446744073709551616) else true))
  | .leq => some (V.bool (bif decide (0 ≤ n) then Nat.ble (x % 18446744073709551616) n.toNat else false))
  | .geq => some (V.bool (bif decide (0 ≤ n) then Nat.ble n.toNat (x % 18446744073709551616) else true))
  | _ => none
/-- a literal word. -/
def litU (n : Int) : Option Nat :=
  match n with
  | .ofNat m => bif Nat.blt m 18446744073709551616 then some m else none
  | .negSucc _ => none

def binU (P : Program) (tab : Tab) (op : BinOp) (T : TypeId) (x y : W) : Option Out :=
  match x, y with
  | .agg l, .agg m =>
    bif l.all C.isU && (m.all C.isU && codesOk (tab.eqs T) (l.map C.norm)) then
      match nums l, nums m with
      | some (a, _), some (b, _) => bif Nat.beq a.length b.length then (bif isEq op then out1 (V.bool (eqNs a b)) else bif isNe op then out1 (V.bool (!(eqNs a b))) else none) else none
      | _, _ => binEv P tab op T (.agg (l.map C.norm)) (.agg (m.map C.norm))
    else binEv P tab op T (.agg (l.map C.norm)) (.agg (m.map C.norm))
  | .c (.u a), .c (.u b) => match uOp op a b with
    | some v => out1 v
    | none => binEv P tab op T x.norm y.norm
  | .c (.u a), .c (.v (.int k b)) =>
    bif isSh op then (match uSh op a b with
      | some v => outo v [decide (0 ≤ b)]
      | none => none)
    else bif kEq .u64 k then
      bif isCmp op then (match uCmp op a b with
        | some v => out1 v
        | none => none)
      else
      match litU b with
      | some m => match uOp op a m with
        | some v => out1 v
        | none => binEv P tab op T x.norm y.norm
      | none => binEv P tab op T x.norm y.norm
    else none
  | .c (.v (.int .u64 a)), .c (.u b) =>
    bif isSh op then binEv P tab op T x.norm y.norm else
    bif isCmp op then (match uCmp (flipCmp op) b a with
      | some v => out1 v
      | none => none)
    else
    match litU a with
    | some m => match uOp op m b with
      | some v => out1 v
      | none => binEv P tab op T x.norm y.norm
    | none => binEv P tab op T x.norm y.norm
  | _, _ => binEv P tab op T x.norm y.norm

def unEv (op : UnOp) (x : W) : Option Out :=
  match op, x with
  | .not, .c (.v (.bool b)) => out1 (V.bool (!b))
  | .neg, .c (.v (.int k n)) => out1 (V.int k (k.wrap (0 - n)))
  | .xor, .c (.v (.int k n)) => out1 (V.int k (k.wrap (BitVec.ofInt k.bits (if k.signed then -1 else k.max) ^^^ BitVec.ofInt k.bits n).toNat))
  | _, _ => none

def rw (T : TypeId) (k : K) : Option Blk := some ⟨T, .rw, k⟩

/-- a pointer's place. -/
def C.place : C → Option (Nat × Nat)
  | .ptr id off => some (id, off)
  | _ => none

/-- no literal aggregate in a cell's place. -/
def W.flat : W → Bool
  | .c x => x.one
  | _ => true

def wPlace : W → Option (Nat × Nat)
  | .c (.ptr id off) => some (id, off)
  | _ => none

def Mode.writes : Mode → Bool
  | .ro => false
  | .rw => true
  | .own _ => true

def loadEv (P : Program) (M : Mem) (T : TypeId) (x : W) : Option Out :=
  match wPlace x with
  | some (id, off) =>
    match M id with
    | some blk =>
      bif isAggT P T then
        bif Nat.blt 16 (P.cellsOf T) then
          match blk.k, off with
          | .ints k l, 0 => outo (.w (.ints k l)) [Nat.beq l.length (P.cellsOf T)]
          | _, _ =>
            match blk.k.take off 0 (P.cellsOf T) with
            | some (l, o) => outo (.w (.agg l)) o
            | none => none
        else
          match blk.k.take off 0 (P.cellsOf T) with
          | some (l, o) => outo (.w (.agg l)) o
          | none => none
      else bif hasT P T then
        match blk.k.at off with
        | some (c, o) => outo (.w (.c c)) o
        | none => none
      else none
    | none => none
  | none => none

def toInts (k : IntKind) : List Value → Option (List Int)
  | [] => some []
  | .int k' n :: r => bif kEq k k' then (match toInts k r with | some l => some (n :: l) | none => none) else none
  | _ => none

/-- a row with others' bytes laid over it from a place on. -/
def putL (l : List Int) (off : Nat) (xs : List Int) : List Int := l.take off ++ (xs ++ l.drop (off + xs.length))

/-- many cells laid over a row of numbers. -/
def putCells (P : Program) (T : TypeId) (id off : Nat) (blk : Blk) (cs : List C) : Option Out :=
  bif Nat.ble 16 cs.length then
    match blk.k with
    | .ints k l => match toInts k (cs.map C.lit) with
      | some xs => some ⟨none, [(id, some { blk with k := .ints k (putL l off xs) })], [Nat.beq cs.length (P.cellsOf T), Nat.ble (off + cs.length) l.length]⟩
      | none => none
    | _ => none
  else none
def storeEv (P : Program) (M : Mem) (T : TypeId) (x : W) (v : W) : Option Out :=
  match wPlace x with
  | some (id, off) =>
    match M id with
    | some blk =>
      bif blk.mode.writes && hasT P T && Nat.blt 0 (P.cellsOf T) then
        match v, off with
        | .ints k l, 0 =>
          some ⟨none, [(id, some { blk with k := .ints k l })], [Nat.beq l.length (P.cellsOf T), Nat.beq l.length blk.k.len]⟩
        | .agg cs, _ =>
          match putCells P T id off blk cs with
          | some out => some out
          | none =>
            match blk.k.sets off 0 cs with
            | some (k', o) => some ⟨none, [(id, some { blk with k := k' })], Nat.beq cs.length (P.cellsOf T) :: o⟩
            | none => none
        | _, _ =>
          match (bif v.flat then blk.k.sets off 0 v.cells else none) with
          | some (k', o) => some ⟨none, [(id, some { blk with k := k' })], Nat.beq v.cells.length (P.cellsOf T) :: o⟩
          | none => none
      else none
    | none => none
  | none => none

def kOfZero (cs : List Value) : K :=
  bif Nat.blt 16 cs.length then
    match cs with
    | .int k n :: r => match toInts k (.int k n :: r) with
      | some l => .ints k l
      | none => .cs (cs.map C.v)
    | _ => .cs (cs.map C.v)
  else .cs (wCs cs)

def zeroOf (P : Program) (T : TypeId) : Option (List Value) :=
  match P.info? T with
  | some i => match i.zero with
    | some v => some v.cells.toList
    | none => none
  | none => none

def allocEv (P : Program) (base : Nat) (T : TypeId) : Option Out :=
  match zeroOf P T with
  | some cs => some ⟨some (.w (.c (.ptr base 0))), [(base, rw T (kOfZero cs))], []⟩
  | none => none

def boxEv (base : Nat) (T : TypeId) (x : W) : Option Out :=
  bif x.flat then some ⟨some (.w (.c (.ptr base 0))), [(base, rw T x.k)], []⟩ else none

def fillC (place : Nat → Option (Nat × Nat)) (cells : List C) : List (Nat × W) → Option (List C)
  | [] => some cells
  | (i, v) :: rest =>
    match place i with
    | none => none
    | some (off, size) =>
      bif Nat.beq v.cells.length size && Nat.ble (off + size) cells.length && v.flat then
        fillC place (cells.take off ++ v.cells ++ cells.drop (off + size)) rest
      else none

def evParts (t : Tms) : List (Nat × Operand) → Option (List (Nat × W))
  | [] => some []
  | (i, x) :: r =>
    match evw t x with
    | some v => match evParts t r with
      | some l => some ((i, v) :: l)
      | none => none
    | none => none

def buildEv (P : Program) (T : TypeId) (parts : List (Nat × W)) : Option Out :=
  match P.info? T, P.underlying T with
  | some it, some (.array _ e) =>
    match it.zero, P.info? e with
    | some z, some ie =>
      match fillC (fun i => some (i * ie.size, ie.size)) (wCs z.cells.toList) parts with
      | some l => out1 (.w (.agg l))
      | none => none
    | _, _ => none
  | some it, some (.struct fields) =>
    match it.zero, fields.toList.mapM (fun f => (P.info? f.type).map fun i => (f.offset, i.size)) with
    | some z, some places =>
      match fillC (places.toArray[·]?) (wCs z.cells.toList) parts with
      | some l => out1 (.w (.agg l))
      | none => none
    | _, _ => none
  | _, _ => none

def elemOfSlice (P : Program) (T : TypeId) : Option TypeId :=
  match P.underlying T with
  | some (.slice e) => some e
  | _ => none

def zeros (z : Array Value) (n : Nat) : List C := (List.range n).map fun i => C.v (z[i % z.size]!)

/-- cells that are all numbers of one kind, as numbers. -/
def kOfC (l : List C) : K :=
  match l with
  | .v (.int k _) :: _ => match toInts k (l.map fun | .v x => x | _ => .nilFunc) with
    | some r => .ints k r
    | none => .cs l
  | _ => .cs l

def oneRow : List (Nat × W) → Nat → Option (IntKind × List Int)
  | [(0, .ints k l)], 1 => some (k, l)
  | _, _ => none
def buildSliceEv (P : Program) (base : Nat) (T : TypeId) (len : Nat) (parts : List (Nat × W)) : Option Out :=
  match elemOfSlice P T with
  | some e =>
    match P.info? e with
    | some ie =>
      match ie.zero with
      | some z =>
        bif Nat.ble (len * ie.size) 16777216 && Nat.blt 0 (len * ie.size) then
          match oneRow parts len with
          | some (k, l) => some ⟨some (.w (.c (.own base))), [(base, some ⟨e, .own len, .ints k l⟩)], [Nat.beq l.length ie.size]⟩
          | none =>
          match fillC (fun i => some (i * ie.size, ie.size)) (zeros z.cells (len * ie.size)) parts with
          | some l => some ⟨some (.w (.c (.own base))), [(base, some ⟨e, .own len, kOfC l⟩)], []⟩
          | none => none
        else none
      | none => none
    | none => none
  | none => none

def fieldOf (P : Program) (T : TypeId) (f : Nat) : Option (Nat × TypeId) :=
  match P.underlying T with
  | some (.struct fields) => match fields[f]? with
    | some x => some (x.offset, x.type)
    | none => none
  | _ => none

def fieldAddrEv (P : Program) (T : TypeId) (x : W) (f : Nat) : Option Out :=
  match wPlace x, fieldOf P T f with
  | some (id, off), some (fo, ft) =>
    bif Nat.beq (P.cellsOf ft) 0 || !(hasT P ft) then none else out1 (.w (.c (.ptr id (off + fo))))
  | _, _ => none

def partOf (P : Program) (T : TypeId) (l : List C) (off : Nat) : Option W :=
  bif isAggT P T then some (.agg ((l.drop off).take (P.cellsOf T)))
  else bif hasT P T then (match l[off]? with | some c => some (.c c) | none => none)
  else none

def fieldEv (P : Program) (T : TypeId) (x : W) (f : Nat) : Option Out :=
  match x, fieldOf P T f with
  | .agg l, some (fo, ft) => match partOf P ft l fo with
    | some w => out1 (.w w)
    | none => none
  | _, _ => none

def arrOf (P : Program) (T : TypeId) : Option (Nat × TypeId) :=
  match P.underlying T with
  | some (.array n e) => some (n, e)
  | _ => none

/-- which element of a slice: block, place of its first cell, length. -/
def C.slice (M : Mem) : C → Option (Nat × Nat × Nat)
  | .sl id off len => some (id, off, len)
  | .own id => match M id with
    | some ⟨_, .own n, _⟩ => some (id, 0, n)
    | _ => none
  | _ => none

def inb (i : Int) (n : Nat) : List Bool := [decide (0 ≤ i), decide (i < (n : Int))]

/-- off + n * c, so written that it reckons itself out where off is 0, c is 1. -/
def spot (off n c : Nat) : Nat :=
  match off with
  | 0 => match c with
    | 1 => n
    | c => n * c
  | o + 1 => match c with
    | 1 => o + 1 + n
    | c => o + 1 + n * c

theorem spot_eq (off n c : Nat) : spot off n c = off + n * c := by
  unfold spot
  split <;> split <;> simp

def indexAddrEv (P : Program) (M : Mem) (T : TypeId) (x i : W) : Option Out :=
  match i with
  | .c (.v (.int _ i)) =>
    match P.underlying T with
    | some (.array n e) =>
      match wPlace x with
      | some (id, off) => bif hasT P e then outo (.w (.c (.ptr id (spot off i.toNat (P.cellsOf e))))) (inb i n) else none
      | none => none
    | some (.slice e) =>
      match x with
      | .c c => match c.slice M with
        | some (id, off, n) => bif hasT P e then outo (.w (.c (.ptr id (spot off i.toNat (P.cellsOf e))))) (inb i n) else none
        | none => none
      | _ => none
    | _ => none
  | _ => none

/-- a string's byte. -/
def bt (s : ByteArray) (i : Int) : Int := ((s[i.toNat]?.getD 0).toNat : Int)

def indexEv (P : Program) (T : TypeId) (x i : W) : Option Out :=
  match i with
  | .c (.v (.int _ i)) =>
    match P.underlying T with
    | some .string =>
      match x with
      | .c (.v (.string s)) => outo (V.int .u8 (bt s i)) (inb i s.size)
      | _ => none
    | some (.array n e) =>
      match x with
      | .agg l => match partOf P e l (i.toNat * P.cellsOf e) with
        | some w => outo (.w w) (inb i n)
        | none => none
      | .ints k l => bif Nat.beq (P.cellsOf e) 1 && !(isAggT P e) && hasT P e then outo (V.int k (l.getD i.toNat 0)) (Nat.blt i.toNat l.length :: inb i n) else none
      | _ => none
    | _ => none
  | _ => none

def intOf' : Option W → Option Int
  | some (.c (.v (.int _ n))) => some n
  | _ => none

/-- an expression's bounds: what is not there is 0 and the length. -/
def lowOf : Option (Option W) → Option Int
  | none => some 0
  | some w => intOf' w

def highOf (n : Nat) : Option (Option W) → Option Int
  | none => some n
  | some w => intOf' w

def cut (s : ByteArray) (l h : Int) : ByteArray := s.extract l.toNat h.toNat

def sliceEv (P : Program) (M : Mem) (T : TypeId) (x : W) (lo hi mx : Option (Option W)) : Option Out :=
  match P.underlying T with
  | some .string =>
    match x, mx with
    | .c (.v (.string s)), none =>
      match lowOf lo, highOf s.size hi with
      | some l, some h => outo (V.str (cut s l h)) [decide (0 ≤ l), decide (l ≤ h), decide (0 ≤ h), decide (h ≤ (s.size : Int))]
      | _, _ => none
    | _, _ => none
  | some (.array n e) =>
    match wPlace x, mx with
    | some (id, off), none =>
      match lowOf lo, highOf n hi with
      | some l, some h => bif hasT P e then outo (.w (.c (.sl id (spot off l.toNat (P.cellsOf e)) (h.toNat - l.toNat)))) [decide (0 ≤ l), decide (l ≤ h), decide (0 ≤ h), decide (h ≤ (n : Int))] else none
      | _, _ => none
    | _, _ => none
  | some (.slice e) =>
    match x with
    | .c c => match c.slice M with
      | some (id, off, n) =>
        match mx with
        | none =>
          match lowOf lo, highOf n hi with
          | some l, some h => bif hasT P e then outo (.w (.c (.sl id (spot off l.toNat (P.cellsOf e)) (h.toNat - l.toNat)))) [decide (0 ≤ l), decide (l ≤ h), decide (0 ≤ h), decide (h ≤ (n : Int))] else none
          | _, _ => none
        | some m =>
          match hi with
          | none => none
          | some hw =>
            match lowOf lo, lowOf (some hw), lowOf (some m) with
            | some l, some h, some m => bif hasT P e then outo (.w (.c (.sl id (spot off l.toNat (P.cellsOf e)) (h.toNat - l.toNat)))) [decide (0 ≤ l), decide (l ≤ h), decide (h ≤ m), decide (m ≤ (n : Int))] else none
            | _, _, _ => none
      | none => none
    | _ => none
  | _ => none

def intKindOf (P : Program) (T : TypeId) : Option IntKind :=
  match P.underlying T with
  | some (.int k) => some k
  | _ => none

def isStrT (P : Program) (T : TypeId) : Bool := match P.underlying T with | some .string => true | _ => false

/-- bytes that a block holds, as a list of numbers. -/
def K.bytes (k : K) (off n : Nat) : Option (List Int × List Bool) :=
  match k with
  | .ints .u8 l => some ((l.drop off).take n, [Nat.ble (off + n) l.length])
  | .cs l => match toInts .u8 (((l.drop off).take n).map C.lit) with
    | some r => some (r, [Nat.ble (off + n) l.length])
    | none => none
  | _ => none

def strOf (l : List Int) : ByteArray := ⟨(l.map fun n => UInt8.ofNat n.toNat).toArray⟩
def bytesOf (s : ByteArray) : List Int := s.data.toList.map fun b => (b.toNat : Int)

def convEv (P : Program) (M : Mem) (base : Nat) (src dst : TypeId) (x : W) : Option Out :=
  match x with
  | .c (.v (.int _ n)) =>
    match intKindOf P dst with
    | some k => bif hasT P src then outo (V.int k (k.wrap n)) [] else none
    | none => none
  | .c (.v (.string s)) =>
    bif isStrT P dst && hasT P src then out1 (V.str s)
    else match elemOfSlice P dst with
      | some e => match intKindOf P e with
        | some .u8 => bif hasT P src then some ⟨some (.w (.c (.sl base 0 s.size))), [(base, rw e (.ints .u8 (bytesOf s)))], []⟩ else none
        | _ => none
      | none => none
  | .c c =>
    bif isStrT P dst then
      match elemOfSlice P src with
      | some e => match intKindOf P e with
        | some .u8 =>
          match c.slice M with
          | some (id, off, n) => match M id with
            | some blk => match blk.k.bytes off n with
              | some (l, o) => outo (V.str (strOf l)) o
              | none => none
            | none => none
          | none => bif (match c with | .v (.slice none 0 0) => true | _ => false) then out1 (V.str .empty) else none
        | _ => none
      | none => none
    else none
  | _ => none

def convU (P : Program) (M : Mem) (base : Nat) (src dst : TypeId) (x : W) : Option Out :=
  match x with
  | .c (.u n) => match intKindOf P dst with
    | some .u64 => bif hasT P src then outo (.w (.c (.u n))) [] else none
    | _ => convEv P M base src dst x.norm
  | _ => convEv P M base src dst x.norm

def makeSliceEv (P : Program) (base : Nat) (T : TypeId) (l c : W) : Option Out :=
  match l, c with
  | .c (.v (.int _ l)), .c (.v (.int _ c)) =>
    match elemOfSlice P T with
    | some e =>
      match zeroOf P e with
      | some [.int k z] =>
        bif Nat.beq (P.cellsOf e) 1 && Nat.ble (P.bytesOf e) 16 then
          some ⟨some (.w (.c (.own base))), [(base, some ⟨e, .own l.toNat, .ints k (List.replicate l.toNat z)⟩)],
            [decide (0 ≤ l), decide (l ≤ c), decide (c ≤ 1099511627776)]⟩
        else none
      | _ => none
    | none => none
  | _, _ => none

def K.drops (k : K) (off n : Nat) : Option (K × List Bool) :=
  match k with
  | .cs l => some (.cs ((l.drop off).take n), [Nat.ble (off + n) l.length])
  | .ints k l => some (.ints k ((l.drop off).take n), [Nat.ble (off + n) l.length])
  | .strs l => some (.strs ((l.drop off).take n), [Nat.ble (off + n) l.length])

def K.cat (a b : K) : Option K :=
  match a, b with
  | .cs l, .cs m => some (.cs (l ++ m))
  | .ints k l, .ints k' m => bif kEq k k' then some (.ints k (l ++ m)) else none
  | .ints k l, .cs m => match toInts k (m.map C.lit) with
    | some r => some (.ints k (l ++ r))
    | none => none
  | .strs l, .strs m => some (.strs (l ++ m))
  | .strs l, .cs [.v (.string s)] => some (.strs (l ++ [s]))
  | .cs [], .ints k m => some (.ints k m)
  | .cs (c :: l), .ints k m => match toInts k ((c :: l).map C.lit) with
    | some r => some (.ints k (r ++ m))
    | none => none
  | .cs [], .strs m => some (.strs m)
  | _, _ => none

def startK (P : Program) (e : TypeId) : K :=
  match P.underlying e with
  | some (.int k) => .ints k []
  | some .string => .strs []
  | some (.array _ e') => match P.underlying e' with
    | some (.int k) => .ints k []
    | _ => .cs []
  | _ => .cs []

/-- the slice that is appended to: its block's number, its cells. -/
def appTo (P : Program) (M : Mem) (e : TypeId) : C → Option (Option Nat × Nat × K)
  | .own id => match M id with
    | some ⟨e', .own n, k⟩ => bif Nat.beq e e' then some (some id, n, k) else none
    | _ => none
  | .v (.slice none 0 0) => some (none, 0, startK P e)
  | _ => none

def K.ones : K → Bool
  | .cs l => l.all C.one
  | _ => true

def zok (P : Program) (e : TypeId) : Bool :=
  match zeroOf P e with
  | some z => Nat.beq z.length (P.cellsOf e)
  | none => false

def appendEv (P : Program) (M : Mem) (base : Nat) (T T' : TypeId) (s x : W) : Option Out :=
  match s, x, elemOfSlice P T with
  | .c s, .c (.v (.slice none 0 0)), some e =>
    match appTo P M e s with
    | some _ => bif Nat.beq T T' && hasT P e then some ⟨some (.w (.c s)), [], []⟩ else none
    | none => none
  | .c s, .c x, some e =>
    match appTo P M e s, x.slice M with
    | some (oid, n, k), some (id', off', m) =>
      match M id' with
      | some blk' =>
        match blk'.k.drops off' (m * P.cellsOf e) with
        | some (k', o) =>
          match k.cat k' with
          | some k'' =>
            bif Nat.beq T T' && Nat.blt 0 (P.cellsOf e) && zok P e && k'.ones then
              some ⟨some (.w (.c (.own base))), (match oid with | some id => [(id, none)] | none => []) ++ [(base, some ⟨e, .own (n + m), k''⟩)],
                Nat.ble ((n + m) * P.bytesOf e) 1099511627776 :: Nat.ble (n + m) 1099511627776 :: o⟩
            else none
          | none => none
        | none => none
      | none => none
    | _, _ => none
  | _, _, _ => none

def lenEv (P : Program) (M : Mem) (T : TypeId) (x : W) : Option Out :=
  match P.underlying T with
  | some .string => match x with
    | .c (.v (.string s)) => out1 (V.int .i64 s.size)
    | _ => none
  | some (.array n _) => out1 (V.int .i64 n)
  | some (.slice _) => match x with
    | .c (.v (.slice none 0 0)) => out1 (V.int .i64 0)
    | .c c => match c.slice M with
      | some (_, _, n) => out1 (V.int .i64 n)
      | none => none
    | _ => none
  | _ => none

def min2Ev (x y : W) : Option Out :=
  match x, y with
  | .c (.v (.int k a)), .c (.v (.int k' b)) => bif kEq k k' then out1 (V.int k (if b < a then b else a)) else none
  | _, _ => none
def max2Ev (x y : W) : Option Out :=
  match x, y with
  | .c (.v (.int k a)), .c (.v (.int k' b)) => bif kEq k k' then out1 (V.int k (if b > a then b else a)) else none
  | _, _ => none

/-- a text's or a slice's bytes. -/
def srcBytes (M : Mem) (x : W) : Option (List Int × List Bool) :=
  match x with
  | .c (.v (.string s)) => some (bytesOf s, [])
  | .c c => match c.slice M with
    | some (id, off, n) => match M id with
      | some blk => blk.k.bytes off n
      | none => none
    | none => none
  | _ => none

def copyEv (P : Program) (M : Mem) (T : TypeId) (d x : W) : Option Out :=
  match d, elemOfSlice P T, srcBytes M x with
  | .c d, some e, some (xs, o) =>
    match d.slice M with
    | some (id, off, n) =>
      match M id with
      | some ⟨ty, mode, .ints .u8 l⟩ =>
        bif mode.writes && Nat.beq (P.cellsOf e) 1 then
          some ⟨some (V.int .i64 (min xs.length n : Nat)), [(id, some ⟨ty, mode, .ints .u8 (putL l off (xs.take n))⟩)], Nat.ble (off + n) l.length :: o⟩
        else none
      | _ => none
    | none => none
  | _, _, _ => none

def builtinEv (P : Program) (M : Mem) (base : Nat) (b : Builtin) (ts : Array TypeId) (args : List W) : Option Out :=
  match b, args with
  | .len, [x] => match ts[0]? with
    | some T => lenEv P M T x
    | none => none
  | .append, [s, x] => match ts[0]?, ts[1]? with
    | some T, some T' => appendEv P M base T T' s x
    | _, _ => none
  | .copy, [d, x] => match ts[0]? with
    | some T => copyEv P M T d x
    | none => none
  | .min, [x, y] => min2Ev x y
  | .max, [x, y] => max2Ev x y
  | _, _ => none

def fnOf : C → Option (FuncId × List W × List W)
  | .v (.func (.func f) fs cs) => some (f, fs.toList.map (fun v => match litV v with | .w x => x | _ => .c (.v v)), cs.toList.map (fun v => match litV v with | .w x => x | _ => .c (.v v)))
  | .fn f caps => some (f, [], caps.map fun p => .c (.ptr p.1 p.2))
  | _ => none

def callEv (P : Program) (tab : Tab) (M : Mem) (base : Nat) (f : W) (args : List W) : Option Out :=
  match f with
  | .c c => match fnOf c with
    | some (f, fs, cs) =>
      match P.funcs[f]? with
      | some fn => bif fn.body.isSome then tab.ctr f (fs ++ args ++ cs) M base else tab.ext f ((fs ++ args ++ cs).map W.norm)
      | none => none
    | none => none
  | _ => none

def caps? : List W → Option (List (Nat × Nat))
  | [] => some []
  | .c (.ptr id off) :: r => match caps? r with | some l => some ((id, off) :: l) | none => none
  | _ => none

def litCs : List C → Option (List Value)
  | [] => some []
  | .v x :: r => match litCs r with | some l => some (x :: l) | none => none
  | _ => none
def litWs : List W → Option (List Value)
  | [] => some []
  | .c (.v x) :: r => match litWs r with | some l => some (x :: l) | none => none
  | .agg l :: r => match litCs l, litWs r with | some cs, some m => some (.agg cs.toArray :: m) | _, _ => none
  | _ => none

def makeFuncEv (f : Fn) (first caps : List W) : Option Out :=
  match f, first with
  | .func f, [] =>
    match caps with
    | [] => out1 (.w (.c (.v (.func (.func f) #[] #[]))))
    | _ => match caps? caps with
      | some l => out1 (.w (.c (.fn f l)))
      | none => none
  | .func f, x :: r =>
    match litWs (x :: r), caps with
    | some fs, [] => out1 (.w (.c (.v (.func (.func f) fs.toArray #[]))))
    | _, _ => none
  | _, _ => none

def oev (t : Tms) : Option Operand → Option (Option W)
  | none => none
  | some x => some (evw t x)

/-- a slice as a pointer to an array. -/
def arrayAtEv (P : Program) (M : Mem) (T : TypeId) (x : W) : Option Out :=
  match arrOf P T with
  | some (n, _) =>
    match x with
    | .c c => match c.slice M with
      | some (id, off, m) => bif Nat.blt 0 n then outo (.w (.c (.ptr id off))) [Nat.ble n m] else none
      | none => none
    | _ => none
  | none => none

/-- one operation. -/
def core (P : Program) (tab : Tab) (base : Nat) (o : Oper) (t : Tms) (M : Mem) : Option Out :=
  match o.op with
  | .move x => match ev t x with | some v => out1 v | none => none
  | .assign x => match ev t x with | some v => out1 v | none => none
  | .pick c a b =>
    match ev t c with
    | some (.w (.c (.v (.bool c)))) => match (bif c then ev t a else ev t b) with | some v => out1 v | none => none
    | _ => none
  | .alloc T => allocEv P base T
  | .box T x => match evw t x with | some x => boxEv base T x | none => none
  | .build T ps => match evParts t ps.toList with | some l => buildEv P T l | none => none
  | .buildSlice T n ps => match evParts t ps.toList with | some l => buildSliceEv P base T n l | none => none
  | .load T x => match evw t x with | some x => loadEv P M T x | none => none
  | .store T x v => match evw t x, evw t v with | some x, some v => storeEv P M T x v | _, _ => none
  | .nilCheck x => match ev t x with
    | some (.w (.c (.ptr id off))) => out1 (.w (.c (.ptr id off)))
    | some (.w (.c (.fn f c))) => out1 (.w (.c (.fn f c)))
    | some (.w (.c (.v (.func (.func f) a b)))) => out1 (.w (.c (.v (.func (.func f) a b))))
    | _ => none
  | .binOp op T x y _ => match evw t x, evw t y with | some x, some y => binU P tab op T x y | _, _ => none
  | .unOp op _ x => match evn t x with | some x => unEv op x | none => none
  | .convert s d x => match evw t x with | some x => convU P M base s d x | none => none
  | .makeFunc f first caps => match evws t first.toList, evws t caps.toList with | some a, some b => makeFuncEv f a b | _, _ => none
  | .makeSlice T l c => match evw t l, evw t c with | some l, some c => makeSliceEv P base T l c | _, _ => none
  | .slice T x lo hi mx => match evw t x with | some x => sliceEv P M T x (oev t lo) (oev t hi) (oev t mx) | none => none
  | .fieldAddr T x f => match evw t x with | some x => fieldAddrEv P T x f | none => none
  | .field T x f => match evw t x with | some x => fieldEv P T x f | none => none
  | .indexAddr T x i => match evw t x, evw t i with | some x, some i => indexAddrEv P M T x i | _, _ => none
  | .index T x i => match evw t x, evw t i with | some x, some i => indexEv P T x i | _, _ => none
  | .extract x i => match ev t x with
    | some (.tup l) => match l[i]? with | some w => out1 (.w w) | none => none
    | _ => none
  | .call ⟨.builtin b, args, ts⟩ => match evws t args.toList with | some l => builtinEv P M base b ts l | none => none
  | .call ⟨.value f, args, _⟩ => match evw t f, evws t args.toList with | some f, some l => callEv P tab M base f l | _, _ => none
  | .sliceToArrayPointer T x => match evw t x with | some x => arrayAtEv P M T x | none => none
  | _ => none

end Sx

namespace Sx
open Go Go.RowKit

def inR (base id : Nat) : Prop := base ≤ id ∧ id < base + 4

/-- no id from base on (four of them) is used. -/
structure Fresh (M : Mem) (base : Nat) : Prop where
  dom : ∀ id blk, M id = some blk → ¬ inR base id
  ids : ∀ id blk, M id = some blk → ∀ j ∈ blk.k.ids, ¬ inR base j

structure Good (P : Program) (ρ ρ' : Env) (M : Mem) (base : Nat) (o : Out) (w w' : World) (y : Value) : Prop where
  val : ∀ v, o.v = some v → RV ρ' v y
  env : ∀ id, ¬ inR base id → ρ.same ρ' id
  mem : MemOk P ρ' (putM M o.upd) w'
  fr : Fr (fun b => ∃ id blk, M id = some blk ∧ live ρ id blk ∧ ρ.b id = b) w w'
  lo : ∀ id blk, putM M o.upd id = some blk → live ρ' id blk → w.heap.size ≤ ρ'.b id ∨ ∃ j bj, M j = some bj ∧ live ρ j bj ∧ ρ.b j = ρ'.b id

theorem Env.same.refl (ρ : Env) (id : Nat) : ρ.same ρ id := ⟨rfl, rfl, rfl⟩
theorem Env.same.symm {ρ ρ' : Env} {id : Nat} (h : ρ.same ρ' id) : ρ'.same ρ id := ⟨h.b.symm, h.o.symm, h.val.symm⟩

theorem putM_one (M : Mem) (id : Nat) (b : Option Blk) : putM M [(id, b)] = fun x => if x = id then b else M x := by
  funext x
  simp only [putM]
  by_cases h : x = id
  · subst h; simp
  · have : Nat.beq x id = false := by rw [← Bool.not_eq_true, Nat.beq_eq]; exact h
    simp [this, h]

theorem live_env {ρ ρ' : Env} {id : Nat} {blk : Blk} (hs : ρ.same ρ' id) : live ρ' id blk ↔ live ρ id blk := by
  unfold live; cases blk.mode <;> simp [hs.val]

theorem BlkRel.env {P : Program} {ρ ρ' : Env} {id : Nat} {blk : Blk} {w : World} (h : BlkRel P ρ id blk w) (hs : ρ.same ρ' id) (hk : ∀ j ∈ blk.k.ids, ρ.same ρ' j) : BlkRel P ρ' id blk w := by
  unfold BlkRel at *
  split at h
  · exact ⟨by rw [hs.b, hs.o]; exact h.1.env hk, by rw [hs.b]; exact h.2⟩
  · obtain ⟨arr, hr, hi⟩ := h
    exact ⟨arr, by rw [hs.b]; exact hr, by rw [hs.o]; exact hi.env hk⟩
  · obtain ⟨ho, hg, xs, hx, hl, hi⟩ := h
    exact ⟨by rw [hs.o]; exact ho, by rw [hs.val, hs.b]; exact hg, xs, by rw [hs.val]; exact hx, hl, hi.env hk⟩

/-- which blocks a block's relation speaks of. -/
def Blk.in (ρ : Env) (id : Nat) (blk : Blk) : Prop := live ρ id blk ∨ (blk.ro ∧ 0 < blk.k.len)

theorem BlkRel.lt {P : Program} {ρ : Env} {id : Nat} {blk : Blk} {w : World} (h : BlkRel P ρ id blk w) (hin : blk.in ρ id) : ρ.b id < w.heap.size := by
  unfold BlkRel at h
  unfold Blk.in live Blk.ro at hin
  split at h
  · rename_i hm; simp only [hm] at hin; exact h.2 (by simpa using hin)
  · obtain ⟨arr, ⟨fz, hr, _⟩, _⟩ := h
    exact (Array.getElem?_eq_some_iff.1 hr).1
  · rename_i n hm
    simp only [hm] at hin
    obtain ⟨ho, hg, xs, hx, _⟩ := h
    have hne : (ρ.val id).ownBlock ≠ none := by simpa using hin
    cases hob : (ρ.val id).ownBlock with
    | none => exact absurd hob hne
    | some g => rw [← hg g hob]; exact (hx.lt g hob).2

theorem BlkRel.keep {P : Program} {ρ : Env} {id : Nat} {blk : Blk} {w w' : World} (h : BlkRel P ρ id blk w)
    (hb : blk.in ρ id → w'.heap[ρ.b id]? = w.heap[ρ.b id]?) (hsz : w.heap.size ≤ w'.heap.size) : BlkRel P ρ id blk w' := by
  have hlt := fun hin => h.lt (P := P) (w := w) hin
  unfold BlkRel at *
  unfold Blk.in live Blk.ro at hb hlt
  split at h
  · rename_i hm
    simp only [hm] at hb hlt
    refine ⟨h.1.read fun i y hi hy => ?_, fun h0 => Nat.lt_of_lt_of_le (h.2 h0) hsz⟩
    rw [← hy]
    exact World.cell?_of_block (hb (by simp; omega))
  · rename_i hm
    simp only [hm] at hb
    obtain ⟨arr, ⟨fz, hr, hf⟩, hi⟩ := h
    exact ⟨arr, ⟨fz, by rw [hb (by simp)]; exact hr, hf⟩, hi⟩
  · rename_i n hm
    simp only [hm] at hb
    obtain ⟨ho, hg, xs, hx, hl, hi⟩ := h
    refine ⟨ho, hg, xs, ?_, hl, hi⟩
    cases hob : (ρ.val id).ownBlock with
    | none =>
      refine ⟨hx.1, .inl ?_⟩
      rcases hx.2 with hn | ⟨g, cap, cur, hv, _⟩
      · exact hn
      · rw [hv] at hob; simp [Value.ownBlock] at hob
    | some g =>
      have hgb := hg g hob
      have hh := hb (by simp [hob])
      refine ⟨hx.1, ?_⟩
      rcases hx.2 with hn | ⟨g', cap, cur, hv, h0, hgg, rest⟩
      · exact .inl hn
      · have : g' = g := by rw [hv] at hob; simpa [Value.ownBlock] using hob
        subst this
        exact .inr ⟨g', cap, cur, hv, h0, by rw [hgb, hh, ← hgb]; exact hgg, rest⟩

theorem Good.same {P : Program} {ρ : Env} {M : Mem} {base : Nat} {v : Option V} {obs : List Bool} {w w' : World} {y : Value} (hM : MemOk P ρ M w)
    (hv : ∀ v', v = some v' → RV ρ v' y) (hw : w'.heap = w.heap) (hos : w'.os = w.os) (htp : w'.tape = w.tape) (hout : w'.output = w.output) : Good P ρ ρ M base ⟨v, [], obs⟩ w w' y where
  val := hv
  env := fun id _ => .refl ρ id
  mem := ⟨fun id blk h => (hM.rel id blk h).keep (fun _ => by rw [hw]) (by rw [hw]; exact Nat.le_refl _), fun i j bi bj hi hj hl hl' hne => hM.inj i j bi bj hi hj hl hl' hne⟩
  fr := ⟨hos, htp, hout, by rw [hw]; exact Nat.le_refl _, fun b _ _ => by rw [hw]⟩
  lo := fun id blk h hl => .inr ⟨id, blk, h, hl, rfl⟩

def Env.set (ρ : Env) (id b : Nat) (v : Value) : Env where
  b := fun x => if x = id then b else ρ.b x
  o := fun x => if x = id then 0 else ρ.o x
  val := fun x => if x = id then v else ρ.val x

theorem Env.set_same {ρ : Env} {id b : Nat} {v : Value} {x : Nat} (h : x ≠ id) : ρ.same (ρ.set id b v) x := ⟨by simp [Env.set, h], by simp [Env.set, h], by simp [Env.set, h]⟩

/-- a new block. -/
theorem Good.alloc {P : Program} {ρ : Env} {M : Mem} {base : Nat} {v : Option V} {obs : List Bool} {w w' : World} {y : Value} {blk : Blk} {u : Value} (hM : MemOk P ρ M w) (hF : Fresh M base)
    (hsz : w.heap.size < w'.heap.size) (hold : ∀ k, k < w.heap.size → w'.heap[k]? = w.heap[k]?) (hos : w'.os = w.os) (htp : w'.tape = w.tape) (hout : w'.output = w.output)
    (hv : ∀ v', v = some v' → RV (ρ.set base w.heap.size u) v' y) (hro : ¬ blk.ro)
    (hb : BlkRel P (ρ.set base w.heap.size u) base blk w') : Good P ρ (ρ.set base w.heap.size u) M base ⟨v, [(base, some blk)], obs⟩ w w' y := by
  have hbR : inR base base := ⟨Nat.le_refl _, by omega⟩
  have hne : ∀ id b, M id = some b → id ≠ base := fun id b h e => hF.dom id b h (e ▸ hbR)
  refine ⟨hv, fun id hid => Env.set_same (fun e => hid (e ▸ hbR)), ⟨?_, ?_⟩, ⟨hos, htp, hout, Nat.le_of_lt hsz, fun b hb _ => hold b hb⟩, ?_⟩
  · intro id b h
    rw [putM_one] at h
    by_cases he : id = base
    · subst he; simp at h; subst h; exact hb
    · simp [he] at h
      have h0 := hM.rel id b h
      have h1 := h0.keep (w' := w') (fun hin => hold _ (h0.lt hin)) (Nat.le_of_lt hsz)
      exact h1.env (Env.set_same he) fun j hj => Env.set_same (fun e => hF.ids id b h j hj (e ▸ hbR))
  · intro i j bi bj hi hj hl hl' hij
    rw [putM_one] at hi hj
    by_cases hi0 : i = base
    · subst hi0
      have hj0 : j ≠ i := fun e => hij e.symm
      simp [hj0] at hj
      have hlj : bj.in ρ j := by
        rcases hl' with h' | h'
        · exact .inl ((live_env (Env.set_same hj0)).1 h')
        · exact .inr h'
      have := (hM.rel j bj hj).lt hlj
      simp [Env.set, hj0]
      omega
    · simp [hi0] at hi
      have hli : live ρ i bi := (live_env (Env.set_same hi0)).1 hl
      have h1 := (hM.rel i bi hi).lt (.inl hli)
      by_cases hj0 : j = base
      · subst hj0; simp [Env.set, hi0]; omega
      · simp [hj0] at hj
        have := hM.inj i j bi bj hi hj hli (hl'.imp (live_env (Env.set_same hj0)).1 id) hij
        simpa [Env.set, hi0, hj0] using this
  · intro id b h hl
    rw [putM_one] at h
    by_cases he : id = base
    · subst he; left; simp [Env.set]
    · simp [he] at h
      right
      exact ⟨id, b, h, (live_env (Env.set_same he)).1 hl, by simp [Env.set, he]⟩

/-- a block that is written. -/
theorem putM_self (M : Mem) {id : Nat} {b : Blk} (h : M id = some b) : putM M [(id, some b)] = M := by
  rw [putM_one]
  funext x
  split
  · rename_i e; rw [e, h]
  · rfl

theorem Good.same_put {P : Program} {ρ : Env} {M : Mem} {base : Nat} {v : Option V} {obs : List Bool} {w : World} {y : Value} {id : Nat} {blk : Blk} (hM : MemOk P ρ M w) (hid : M id = some blk)
    (hv : ∀ v', v = some v' → RV ρ v' y) : Good P ρ ρ M base ⟨v, [(id, some blk)], obs⟩ w w y := by
  have h := Good.same (base := base) (v := v) (obs := obs) (w' := w) (y := y) hM hv rfl rfl rfl rfl
  refine ⟨h.val, h.env, ?_, h.fr, ?_⟩
  · simp only [putM_self M hid]; exact hM
  · simp only [putM_self M hid]; exact fun id blk h hl => .inr ⟨id, blk, h, hl, rfl⟩

theorem Good.write {P : Program} {ρ : Env} {M : Mem} {base : Nat} {v : Option V} {obs : List Bool} {w w' : World} {y : Value} {id : Nat} {blk blk' : Blk} (hM : MemOk P ρ M w)
    (hid : M id = some blk) (hlive : live ρ id blk) (hmode : blk'.mode = blk.mode) (hsz : w'.heap.size = w.heap.size) (hold : ∀ k, k ≠ ρ.b id → w'.heap[k]? = w.heap[k]?) (hos : w'.os = w.os) (htp : w'.tape = w.tape) (hout : w'.output = w.output)
    (hv : ∀ v', v = some v' → RV ρ v' y) (hb : BlkRel P ρ id blk' w') : Good P ρ ρ M base ⟨v, [(id, some blk')], obs⟩ w w' y := by
  have hlive' : ∀ i b, putM M [(id, some blk')] i = some b → live ρ i b → ∃ b0, M i = some b0 ∧ live ρ i b0 := by
    intro i b h hl
    rw [putM_one] at h
    by_cases he : i = id
    · subst he; exact ⟨blk, hid, hlive⟩
    · simp [he] at h; exact ⟨b, h, hl⟩
  refine ⟨hv, fun i _ => .refl ρ i, ⟨?_, ?_⟩, ⟨hos, htp, hout, Nat.le_of_eq hsz.symm, fun b _ hn => hold b fun e => hn ⟨id, blk, hid, hlive, e.symm⟩⟩, ?_⟩
  · intro i b h
    have h' := h
    rw [putM_one] at h
    by_cases he : i = id
    · subst he; simp at h; subst h; exact hb
    · simp [he] at h
      exact (hM.rel i b h).keep (fun hin => hold _ fun e => (hM.inj id i blk b hid h hlive hin (Ne.symm he)) e.symm) (Nat.le_of_eq hsz.symm)
  · intro i j bi bj hi hj hl hl' hij
    obtain ⟨bi0, hi0, hli0⟩ := hlive' i bi hi hl
    rw [putM_one] at hj
    by_cases he : j = id
    · subst he
      exact hM.inj i j bi0 blk hi0 hid hli0 (.inl hlive) hij
    · simp [he] at hj
      exact hM.inj i j bi0 bj hi0 hj hli0 hl' hij
  · intro i b h hl
    obtain ⟨b0, h0, hl0⟩ := hlive' i b h hl
    exact .inr ⟨i, b0, h0, hl0, rfl⟩

end Sx

namespace Sx
open Go Go.RowKit

structure TabOk (P : Program) (tab : Tab) : Prop where
  ctr : ∀ f args look base out, tab.ctr f args look base = some out → (∀ b ∈ out.obs, b = true) →
    ∀ ρ vs M w, (∀ id b, look id = some b → M id = some b) → MemOk P ρ M w → Fresh M base → RL (RW ρ) args vs → (∀ x ∈ args, ∀ id ∈ x.ids, ¬ inR base id) →
      Calls P f vs.toArray w (fun e w' => ∃ y ρ', e = .returned y ∧ Good P ρ ρ' M base out w w' y)
  name : ∀ f fn args look base out, tab.ctr f args look base = some out → P.funcs[f]? = some fn → (fn.name == "runtime.NumGoroutine") = false
  ext : ∀ f args out, tab.ext f args = some out → (∀ b ∈ out.obs, b = true) → out.upd = [] ∧ ∀ ρ vs, RL (RW ρ) args vs → ∃ y, (∀ v, out.v = some v → RV ρ v y) ∧
    ∀ w, (callFunc f vs.toArray).run P w = .ok (.value y) w
  eqs : ∀ T l m r, codesOk (tab.eqs T) l = true → eqCells l m = some r → ∀ ρ cs ds, RL (RC ρ) l cs → RL (RC ρ) m ds → ∀ w,
    (Op.equal T (.agg cs.toArray) (.agg ds.toArray)).run P w = .ok r w ∧ P.eqGuardType P.depth T = false

def Does (P : Program) (o : Oper) (a : Act) (w : World) (post : Value → World → Prop) : Prop :=
  ∀ (K : Act → World → Prop) (Q : Exit → Act → World → Prop), (∀ y w', post y w' → K (a.put o.dst y) w') → o.wp P a w K Q

theorem Does.of_run {P : Program} {o : Oper} {a : Act} {w w' : World} {y : Value} {post : Value → World → Prop}
    (h : (execOp a.eval o).run P w = .ok (.value y) w') (hp : post y w') : Does P o a w post := by
  intro K Q hK
  unfold Oper.wp
  rw [h]
  exact hK _ _ hp

theorem Does.of_skip {P : Program} {o : Oper} {a : Act} {w w' : World} {post : Value → World → Prop}
    (h : (execOp a.eval o).run P w = .ok .skip w') (hp : post undef w') : Does P o a w post := by
  intro K Q hK
  unfold Oper.wp
  rw [h]
  exact hK _ _ hp

theorem info_of_hasT {P : Program} {T : TypeId} (h : hasT P T = true) : ∃ i, P.info? T = some i := by
  unfold hasT Program.underlying at h
  cases hi : P.info? T with
  | none => simp [hi] at h
  | some i => exact ⟨i, rfl⟩

theorem und_of_hasT {P : Program} {T : TypeId} (h : hasT P T = true) : ∃ d, P.underlying T = some d := by
  unfold hasT at h
  cases hi : P.underlying T with
  | none => simp [hi] at h
  | some i => exact ⟨i, rfl⟩

theorem run_sizeOf' {P : Program} {T : TypeId} {i : TypeInfo} (h : P.info? T = some i) (w : World) : (Go.sizeOf T).run P w = .ok (P.cellsOf T) w := by
  simp [Go.sizeOf, typeInfo, h, Program.cellsOf]

theorem run_isAgg' {P : Program} {T : TypeId} (h : hasT P T = true) (w : World) : (isAgg T).run P w = .ok (isAggT P T) w := by
  obtain ⟨d, hd⟩ := und_of_hasT h
  unfold isAgg isAggT
  rw [Sem.run_bind, run_underlying hd, hd]
  cases d <;> simp [Result.andThen]

theorem hasT_of_agg {P : Program} {T : TypeId} (h : isAggT P T = true) : hasT P T = true := by
  unfold isAggT at h
  unfold hasT
  cases hu : P.underlying T with
  | none => simp [hu] at h
  | some d => rfl

theorem add_at (b o n : Nat) : Addr.add ⟨b, o, none⟩ n = ⟨b, o + n, none⟩ := by
  unfold Addr.add; split
  · subst_vars; rfl
  · rfl

theorem RC.oneCell {ρ : Env} {c : C} {y : Value} (h : RC ρ c y) (hc : c.one = true) : y.oneCell' = true := by
  cases c with
  | v x => simp only [RC] at h; subst h; cases y <;> first | rfl | simp [C.one] at hc
  | ptr id off => simp only [RC] at h; subst h; rfl
  | sl id off len => obtain ⟨a, cap, rfl, _⟩ := h; rfl
  | own id => exact h.2
  | fn f caps => simp only [RC] at h; subst h; rfl
  | u x => simp only [RC] at h; subst h; rfl

/-- the cells at an id's places, read in the world. -/
theorem BlkRel.cells {P : Program} {ρ : Env} {id : Nat} {blk : Blk} {w : World} (h : BlkRel P ρ id blk w) :
    K.Is ρ blk.k (fun i => w.cell? ⟨ρ.b id, ρ.o id + i, none⟩) := by
  unfold BlkRel at h
  split at h
  · exact h.1
  · obtain ⟨arr, ⟨fz, hr, _⟩, hi⟩ := h
    exact hi.read fun i y _ hy => by rw [cell_of_row w _ _ arr _ fz hr]; exact hy
  · rename_i n hm
    obtain ⟨ho, hg, xs, hx, hl, hi⟩ := h
    refine hi.read fun i y hlt hy => ?_
    cases hob : (ρ.val id).ownBlock with
    | none =>
      rcases hx.2 with ⟨hv, h0⟩ | ⟨g, cap, cur, hv, _⟩
      · have := hx.1; rw [h0] at this; simp at this; rw [this] at hl; simp at hl; omega
      · rw [hv] at hob; simp [Value.ownBlock] at hob
    | some g =>
      have := hx.cells hob i y hy
      rw [hg g hob, add_at, Nat.zero_add] at this
      rw [ho, Nat.zero_add]
      exact this

theorem K.at_ok {ρ : Env} {k : K} {read : Nat → Option Value} (h : k.Is ρ read) {i : Nat} {c : C} {o : List Bool} (ha : k.at i = some (c, o)) (ho : ∀ b ∈ o, b = true) :
    ∃ y, read i = some y ∧ RC ρ c y := by
  cases k with
  | cs l =>
    simp only [K.at] at ha
    cases hl : l[i]? with
    | none => simp [hl] at ha
    | some c' => simp [hl] at ha; obtain ⟨rfl, _⟩ := ha; exact h i c' hl
  | ints k l =>
    simp only [K.at, Option.some.injEq, Prod.mk.injEq] at ha
    obtain ⟨rfl, rfl⟩ := ha
    have := ho _ (List.mem_singleton.2 rfl)
    have : i < l.length := by simpa [Nat.blt_eq] using this
    exact ⟨_, h i this, rfl⟩
  | strs l =>
    simp only [K.at, Option.some.injEq, Prod.mk.injEq] at ha
    obtain ⟨rfl, rfl⟩ := ha
    have := ho _ (List.mem_singleton.2 rfl)
    have : i < l.length := by simpa [Nat.blt_eq] using this
    exact ⟨_, h i this, rfl⟩

theorem K.take_ok {ρ : Env} {k : K} {read : Nat → Option Value} (h : k.Is ρ read) : ∀ (n off j : Nat) (l : List C) (o : List Bool), k.take off j n = some (l, o) → (∀ b ∈ o, b = true) →
    ∃ cs : List Value, cs.length = n ∧ RL (RC ρ) l cs ∧ ∀ i v, cs[i]? = some v → read (off + (j + i)) = some v
  | 0, off, j, l, o, ht, _ => by
    simp only [K.take, Option.some.injEq, Prod.mk.injEq] at ht
    obtain ⟨rfl, rfl⟩ := ht
    exact ⟨[], rfl, .nil, by simp⟩
  | n + 1, off, j, l, o, ht, ho => by
    simp only [K.take] at ht
    cases ha : k.at (off + j) with
    | none => simp [ha] at ht
    | some p =>
      obtain ⟨c, o1⟩ := p
      simp only [ha] at ht
      cases hr : K.take k off (j + 1) n with
      | none => simp [hr] at ht
      | some q =>
        obtain ⟨l2, o2⟩ := q
        simp only [hr, Option.some.injEq, Prod.mk.injEq] at ht
        obtain ⟨rfl, rfl⟩ := ht
        obtain ⟨y, hy, hc⟩ := K.at_ok h ha (fun b hb => ho b (by simp [hb]))
        obtain ⟨cs, hlen, hrl, hg⟩ := K.take_ok h n off (j + 1) l2 o2 hr (fun b hb => ho b (by simp [hb]))
        refine ⟨y :: cs, by simp [hlen], .cons hc hrl, ?_⟩
        intro i v hv
        cases i with
        | zero => simp at hv; subst hv; simpa using hy
        | succ i =>
          have := hg i v (by simpa using hv)
          rw [show j + (i + 1) = j + 1 + i by omega]; exact this

theorem K.Is.ints {ρ : Env} {k : IntKind} {l : List Int} {read : Nat → Option Value} (h : K.Is ρ (.ints k l) read) : ∀ i v, (l.map (Value.int k))[i]? = some v → read i = some v := by
  intro i v hv
  rw [List.getElem?_map] at hv
  cases hl : l[i]? with
  | none => simp [hl] at hv
  | some n =>
    simp [hl] at hv
    subst hv
    have hlt : i < l.length := (List.getElem?_eq_some_iff.1 hl).1
    have := h i hlt
    rw [this]
    simp [List.getD, hl]

theorem run_loadVar_agg {P : Program} {T : TypeId} {w : World} {b o : Nat} {cs : List Value} (hT : isAggT P T = true) (hn : cs.length = P.cellsOf T)
    (h : ∀ i v, cs[i]? = some v → w.cell? ⟨b, o + i, none⟩ = some v) : (loadVar T ⟨b, o, none⟩).run P w = .ok (.agg cs.toArray) w := by
  have hh := hasT_of_agg hT
  obtain ⟨i, hi⟩ := info_of_hasT hh
  have hl := run_loadCells_list (P := P) w ⟨b, o, none⟩ cs (fun j v hv => by rw [add_at]; exact h j v hv)
  unfold loadVar
  simp [run_isAgg' hh, hT, run_sizeOf' hi, ← hn, hl]

theorem run_loadVar_one {P : Program} {T : TypeId} {w : World} {a : Addr} {v : Value} (hT : isAggT P T = false) (hh : hasT P T = true) (h : w.cell? a = some v) :
    (loadVar T a).run P w = .ok v w := by
  unfold loadVar
  simp [run_isAgg' hh, hT, h]

theorem wPlace_ok {ρ : Env} {x : W} {id off : Nat} {y : Value} (h : wPlace x = some (id, off)) (hx : RW ρ x y) : y = .pointer (some ⟨ρ.b id, ρ.o id + off, none⟩) := by
  unfold wPlace at h
  split at h
  · simp at h; obtain ⟨rfl, rfl⟩ := h; exact hx
  · cases h

theorem loadEv_ok {P : Program} {M M0 : Mem} {T : TypeId} {x : W} {out : Out} {ρ : Env} {w : World} {y : Value} (h : loadEv P M0 T x = some out) (ho : ∀ b ∈ out.obs, b = true)
    (hMs : ∀ id b, M0 id = some b → M id = some b) (hM : MemOk P ρ M w) (hx : RW ρ x y) :
    ∃ v r, out = ⟨some v, [], out.obs⟩ ∧ RV ρ v r ∧ (Instr.loadAt T y).run P w = .ok r w := by
  unfold loadEv at h
  cases hp : wPlace x with
  | none => simp [hp] at h
  | some p =>
    obtain ⟨id, off⟩ := p
    simp only [hp] at h
    cases hid : M0 id with
    | none => simp [hid] at h
    | some blk =>
      simp only [hid] at h
      have hrel := (hM.rel id blk (hMs _ _ hid)).cells
      have hy := wPlace_ok hp hx
      subst hy
      have htake : ∀ l o, blk.k.take off 0 (P.cellsOf T) = some (l, o) → (∀ b ∈ o, b = true) → isAggT P T = true →
          ∃ r, RV ρ (.w (.agg l)) r ∧ (Instr.loadAt T (.pointer (some ⟨ρ.b id, ρ.o id + off, none⟩))).run P w = .ok r w := by
        intro l o ht hob hagg
        obtain ⟨cs, hlen, hrl, hg⟩ := K.take_ok hrel _ _ _ l o ht hob
        refine ⟨.agg cs.toArray, ⟨cs, rfl, hrl⟩, ?_⟩
        have := run_loadVar_agg (P := P) (w := w) (b := ρ.b id) (o := ρ.o id + off) hagg hlen (fun i v hv => by
          have := hg i v hv; rw [Nat.zero_add] at this; rw [Nat.add_assoc]; exact this)
        simp [Instr.loadAt, Instr.sureAddr, this]
      cases hagg : isAggT P T with
      | false =>
        simp only [hagg, cond_false] at h
        cases hh : hasT P T with
        | false => simp [hh] at h
        | true =>
          simp only [hh, cond_true] at h
          cases hat : blk.k.at off with
          | none => simp [hat] at h
          | some q =>
            obtain ⟨c, o⟩ := q
            simp only [hat, outo, Option.some.injEq] at h
            subst h
            obtain ⟨r, hr, hc⟩ := K.at_ok hrel hat ho
            refine ⟨_, r, rfl, hc, ?_⟩
            simp [Instr.loadAt, Instr.sureAddr, run_loadVar_one hagg hh hr]
      | true =>
        simp only [hagg, cond_true] at h
        have fall : (match blk.k.take off 0 (P.cellsOf T) with | some (l, o) => outo (.w (.agg l)) o | none => none) = some out →
            ∃ v r, out = ⟨some v, [], out.obs⟩ ∧ RV ρ v r ∧ (Instr.loadAt T (.pointer (some ⟨ρ.b id, ρ.o id + off, none⟩))).run P w = .ok r w := by
          intro h
          cases ht : blk.k.take off 0 (P.cellsOf T) with
          | none => simp [ht] at h
          | some q =>
            obtain ⟨l, o⟩ := q
            simp only [ht, outo, Option.some.injEq] at h
            subst h
            obtain ⟨r, hr, hrun⟩ := htake l o ht ho hagg
            exact ⟨_, r, rfl, hr, hrun⟩
        cases hb : Nat.blt 16 (P.cellsOf T) with
        | false =>
          simp only [hb, cond_false] at h
          exact fall h
        | true =>
          simp only [hb, cond_true] at h
          split at h
          · rename_i k l hk
            simp only [outo, Option.some.injEq] at h
            subst h
            have hlen : l.length = P.cellsOf T := by have := ho _ (List.mem_singleton.2 rfl); simpa using this
            rw [hk] at hrel
            refine ⟨_, .agg (l.map (Value.int k)).toArray, rfl, rfl, ?_⟩
            have := run_loadVar_agg (P := P) (w := w) (b := ρ.b id) (o := ρ.o id + 0) (cs := l.map (Value.int k)) hagg (by simpa using hlen) (fun i v hv => hrel.ints i v hv)
            rw [Nat.add_zero] at this
            simp [Instr.loadAt, Instr.sureAddr, this]
          · exact fall h

theorem run_store1 {P : Program} {w : World} {b i : Nat} {arr : Array Value} {ty : TypeId} {fz : Nat × Nat} {v : Value} (hr : w.heap[b]? = some (.cells arr ty fz))
    (hf : ¬ (fz.1 ≤ i ∧ i < fz.2)) (hi : i < arr.size) (hv : v.oneCell' = true) :
    (store ⟨b, i, none⟩ v).run P w = .ok () (w.setCell ⟨b, i, none⟩ v) := by
  rw [run_store P w _ _ _ hv]
  have hc : w.cell? ⟨b, i, none⟩ = some arr[i] := by rw [cell_of_row w _ _ arr _ fz hr]; simp [hi]
  have hz : w.frozen? ⟨b, i, none⟩ = false := by
    simp only [World.frozen?, hr]
    simpa using hf
  simp [hc, hz]

theorem setCell_heap {w : World} {b i : Nat} {arr : Array Value} {ty : TypeId} {fz : Nat × Nat} (v : Value) (hr : w.heap[b]? = some (.cells arr ty fz)) :
    (w.setCell ⟨b, i, none⟩ v).heap[b]? = some (.cells (arr.setIfInBounds i v) ty fz) := by
  simp [World.setCell, Array.getElem?_modify, hr]

theorem run_storeCells' {P : Program} {b o : Nat} {ty : TypeId} {fz : Nat × Nat} : ∀ (cs : List Value) (i : Nat) (arr : Array Value) (w : World), w.heap[b]? = some (.cells arr ty fz) →
    (∀ j, j < arr.size → ¬ (fz.1 ≤ j ∧ j < fz.2)) → o + i + cs.length ≤ arr.size → (∀ v ∈ cs, v.oneCell' = true) →
    ∃ w' arr', (storeCells ⟨b, o, none⟩ cs i).run P w = .ok () w' ∧ w'.heap[b]? = some (.cells arr' ty fz) ∧ arr'.size = arr.size ∧
      (∀ j, arr'[j]? = if o + i ≤ j ∧ j < o + i + cs.length then cs[j - (o + i)]? else arr[j]?) ∧ w'.heap.size = w.heap.size ∧
      (∀ k, k ≠ b → w'.heap[k]? = w.heap[k]?) ∧ w'.os = w.os ∧ w'.tape = w.tape ∧ w'.output = w.output
  | [], i, arr, w, hr, _, _, _ => ⟨w, arr, rfl, hr, rfl, fun j => by rw [if_neg (by simp only [List.length_nil]; omega)], rfl, fun _ _ => rfl, rfl, rfl, rfl⟩
  | v :: cs, i, arr, w, hr, hf, hlen, hone => by
    simp only [List.length_cons] at hlen
    have h1 := run_store1 (P := P) (i := o + i) (v := v) hr (hf (o + i) (by omega)) (by omega) (hone v (by simp))
    have hr1 := setCell_heap (i := o + i) v hr
    obtain ⟨w', arr', hrun, hr', hsz, hget, hhs, hoth, hos, htp, hout⟩ := run_storeCells' (o := o) cs (i + 1) _ _ hr1 (by simpa using hf) (by simp; omega) (fun u hu => hone u (by simp [hu]))
    refine ⟨w', arr', ?_, hr', by simpa using hsz, ?_, by simpa using hhs, fun k hk => (hoth k hk).trans (Below.heap_setCell _ _ _ _ (by simpa using hk)), hos, htp, hout⟩
    · simp only [storeCells, Sem.run_bind, add_at, h1, Result.andThen_ok]
      exact hrun
    · intro j
      rw [hget j]
      simp only [List.length_cons]
      by_cases hj : j = o + i
      · subst hj
        rw [if_neg (by omega), if_pos (by omega), Array.getElem?_setIfInBounds, if_pos rfl, if_pos (by omega)]
        simp
      · by_cases hj2 : o + (i + 1) ≤ j ∧ j < o + (i + 1) + cs.length
        · rw [if_pos hj2, if_pos (by omega)]
          rw [show j - (o + i) = (j - (o + (i + 1))) + 1 by omega]
          simp
        · rw [if_neg hj2, if_neg (by omega)]
          rw [Array.getElem?_setIfInBounds, if_neg (by omega)]

theorem RC.norm {ρ : Env} {c : C} {y : Value} (h : RC ρ c y) : RC ρ c.norm y := by
  cases c <;> exact h
theorem RL.norm {ρ : Env} : ∀ {l : List C} {m : List Value}, RL (RC ρ) l m → RL (RC ρ) (l.map C.norm) m
  | [], _, .nil => .nil
  | _ :: _, _, .cons h r => .cons h.norm (RL.norm r)
theorem RW.norm {ρ : Env} {x : W} {y : Value} (h : RW ρ x y) : RW ρ x.norm y := by
  cases x with
  | c x => exact RC.norm h
  | agg l => obtain ⟨cs, rfl, hl⟩ := h; exact ⟨cs, rfl, hl.norm⟩
  | ints k l => exact h
theorem RLW.norm {ρ : Env} : ∀ {l : List W} {m : List Value}, RL (RW ρ) l m → RL (RW ρ) (l.map W.norm) m
  | [], _, .nil => .nil
  | _ :: _, _, .cons h r => .cons h.norm (RLW.norm r)
theorem RC.lit {ρ : Env} {c : C} {v y : Value} (h : RC ρ c y) (hl : c.lit = v) (hv : v ≠ .nilFunc) : y = v := by
  have h' := h.norm
  unfold C.lit at hl
  split at hl
  · rename_i x hx
    rw [hx] at h'
    subst hl
    exact h'
  · exact absurd hl.symm hv

theorem K.set_ok {ρ : Env} {k k' : K} {read : Nat → Option Value} (h : k.Is ρ read) {i : Nat} {c : C} {o : List Bool} {v : Value} (hs : k.set i c = some (k', o)) (ho : ∀ b ∈ o, b = true) (hc : RC ρ c v) :
    k'.Is ρ (fun j => if j = i then some v else read j) ∧ k'.len = k.len ∧ i < k.len ∧ v.oneCell' = true := by
  cases k with
  | cs l =>
    simp only [K.set] at hs
    cases hb : (Nat.blt i l.length && c.one) with
    | false => simp [hb] at hs
    | true =>
      simp [hb] at hs
      obtain ⟨rfl, rfl⟩ := hs
      simp only [Bool.and_eq_true, Nat.blt_eq] at hb
      refine ⟨?_, by simp [K.len], hb.1, hc.oneCell hb.2⟩
      intro j c' hj
      rw [List.getElem?_set] at hj
      by_cases hji : i = j
      · subst hji; simp [hb.1] at hj; subst hj; exact ⟨v, by simp, hc⟩
      · simp [hji] at hj
        obtain ⟨y, hy, hr⟩ := h j c' hj
        exact ⟨y, by simp [Ne.symm hji, hy], hr⟩
  | ints k l =>
    simp only [K.set] at hs
    split at hs
    · rename_i k1 n hnorm
      have hc := hc.norm
      rw [hnorm] at hc
      cases hb : kEq k k1 with
      | false => simp [hb] at hs
      | true =>
        simp [hb] at hs
        obtain ⟨rfl, rfl⟩ := hs
        have hk : k = k1 := by simpa [kEq] using hb
        subst hk
        have hi : i < l.length := by have := ho _ (List.mem_singleton.2 rfl); simpa [Nat.blt_eq] using this
        simp only [RC] at hc
        subst hc
        refine ⟨?_, by simp [K.len], hi, rfl⟩
        intro j hj
        simp only [List.length_set] at hj
        by_cases hji : j = i
        · subst hji; simp [List.getD, hi]
        · have := h j hj
          simp only [hji, if_false]
          rw [this]
          simp [List.getD, Ne.symm hji]
    · cases hs
  | strs l =>
    simp only [K.set] at hs
    split at hs
    · rename_i n
      simp only [Option.some.injEq, Prod.mk.injEq] at hs
      obtain ⟨rfl, rfl⟩ := hs
      have hi : i < l.length := by have := ho _ (List.mem_singleton.2 rfl); simpa [Nat.blt_eq] using this
      simp only [RC] at hc
      subst hc
      refine ⟨?_, by simp [K.len], hi, rfl⟩
      intro j hj
      simp only [List.length_set] at hj
      by_cases hji : j = i
      · subst hji; simp [List.getD, hi]
      · have := h j hj
        simp only [hji, if_false]
        rw [this]
        simp [List.getD, Ne.symm hji]
    · cases hs

theorem K.sets_ok {ρ : Env} : ∀ (us : List C) (vs : List Value) (k k' : K) (read : Nat → Option Value) (off j : Nat) (o : List Bool), k.Is ρ read → k.sets off j us = some (k', o) → (∀ b ∈ o, b = true) → RL (RC ρ) us vs →
    k'.Is ρ (fun i => if off + j ≤ i ∧ i < off + j + vs.length then vs[i - (off + j)]? else read i) ∧ k'.len = k.len ∧ (0 < vs.length → off + j + vs.length ≤ k.len) ∧ ∀ v ∈ vs, v.oneCell' = true
  | [], _, k, k', read, off, j, o, h, hs, _, .nil => by
    simp only [K.sets, Option.some.injEq, Prod.mk.injEq] at hs
    obtain ⟨rfl, rfl⟩ := hs
    exact ⟨h.read fun i y _ hy => by rw [if_neg (by simp only [List.length_nil]; omega)]; exact hy, rfl, by simp, by simp⟩
  | c :: us, v :: vs, k, k', read, off, j, o, h, hs, ho, .cons hc hl => by
    simp only [K.sets] at hs
    cases h1 : k.set (off + j) c with
    | none => simp [h1] at hs
    | some p =>
      obtain ⟨k1, o1⟩ := p
      simp only [h1] at hs
      cases h2 : K.sets k1 off (j + 1) us with
      | none => simp [h2] at hs
      | some q =>
        obtain ⟨k2, o2⟩ := q
        simp only [h2, Option.some.injEq, Prod.mk.injEq] at hs
        obtain ⟨rfl, rfl⟩ := hs
        obtain ⟨a1, a2, a3, a4⟩ := K.set_ok h h1 (fun b hb => ho b (by simp [hb])) hc
        obtain ⟨b1, b2, b3, b4⟩ := K.sets_ok us vs k1 k2 _ off (j + 1) o2 a1 h2 (fun b hb => ho b (by simp [hb])) hl
        refine ⟨b1.read fun i y _ hy => ?_, b2.trans a2, fun _ => ?_, ?_⟩
        · simp only [List.length_cons]
          by_cases hi : i = off + j
          · subst hi
            rw [if_neg (by omega)] at hy
            rw [if_pos (by omega)]
            simpa using hy
          · by_cases hi2 : off + (j + 1) ≤ i ∧ i < off + (j + 1) + vs.length
            · rw [if_pos hi2] at hy
              rw [if_pos (by omega), show i - (off + j) = (i - (off + (j + 1))) + 1 by omega]
              simpa using hy
            · rw [if_neg hi2] at hy
              simp only [hi, if_false] at hy
              rw [if_neg (by omega)]
              exact hy
        · simp only [List.length_cons]
          by_cases hv : 0 < vs.length
          · have := b3 hv; omega
          · omega
        · intro u hu
          rcases List.mem_cons.1 hu with rfl | hu
          · exact a4
          · exact b4 u hu

/-- what becomes of a block that is written through. -/
theorem BlkRel.write {P : Program} {ρ : Env} {id off : Nat} {blk : Blk} {k' : K} {w : World} {vs : List Value} (h : BlkRel P ρ id blk w) (hm : blk.mode.writes = true)
    (hk : ∀ read, blk.k.Is ρ read → k'.Is ρ (fun i => if off ≤ i ∧ i < off + vs.length then vs[i - off]? else read i)) (hlen : k'.len = blk.k.len) (hv0 : 0 < vs.length) (hfit : off + vs.length ≤ blk.k.len) (hone : ∀ v ∈ vs, v.oneCell' = true) :
    live ρ id blk ∧ ∃ w', (storeCells ⟨ρ.b id, ρ.o id + off, none⟩ vs).run P w = .ok () w' ∧ BlkRel P ρ id { blk with k := k' } w' ∧ w'.heap.size = w.heap.size ∧ (∀ k, k ≠ ρ.b id → w'.heap[k]? = w.heap[k]?) ∧ w'.os = w.os ∧ w'.tape = w.tape ∧ w'.output = w.output := by
  unfold BlkRel at h
  split at h
  · rename_i he; rw [he] at hm; cases hm
  · rename_i he
    obtain ⟨arr, ⟨fz, hr, hf⟩, hi⟩ := h
    have hlt : ρ.o id + (blk.k.len - 1) < arr.size := by
      -- the last cell is there
      have : ∃ y, arr[ρ.o id + (blk.k.len - 1)]? = some y := by
        cases hkk : blk.k with
        | cs l =>
          rw [hkk] at hi hfit
          simp only [K.len] at hfit ⊢
          obtain ⟨y, hy, _⟩ := hi (l.length - 1) _ (List.getElem?_eq_getElem (by omega))
          exact ⟨y, hy⟩
        | ints k l => rw [hkk] at hi hfit; simp only [K.len] at hfit ⊢; exact ⟨_, hi (l.length - 1) (by omega)⟩
        | strs l => rw [hkk] at hi hfit; simp only [K.len] at hfit ⊢; exact ⟨_, hi (l.length - 1) (by omega)⟩
      obtain ⟨y, hy⟩ := this
      exact (Array.getElem?_eq_some_iff.1 hy).1
    obtain ⟨w', arr', hrun, hr', hsz, hget, hhs, hoth, hos, htp, hout⟩ := run_storeCells' (P := P) (b := ρ.b id) (o := ρ.o id + off) vs 0 arr w hr hf (by omega) hone
    refine ⟨by simp [live, he], w', hrun, ?_, hhs, hoth, hos, htp, hout⟩
    unfold BlkRel
    simp only [he]
    refine ⟨arr', ⟨fz, hr', by rw [hsz]; exact hf⟩, (hk _ hi).read fun i y _ hy => ?_⟩
    rw [hget]
    by_cases hc : off ≤ i ∧ i < off + vs.length
    · rw [if_pos hc] at hy
      rw [if_pos (by omega), show ρ.o id + i - (ρ.o id + off + 0) = i - off by omega]
      exact hy
    · rw [if_neg hc] at hy
      rw [if_neg (by omega)]
      exact hy
  · rename_i n he
    obtain ⟨ho, hg, xs, hx, hl, hi⟩ := h
    have hxl : off + vs.length ≤ xs.length := by omega
    rcases hx.2 with ⟨hv, h0⟩ | ⟨g, cap, cur, hv, h0, hgg, hnc, hcm, hcs, htake⟩
    · exfalso; have h1 := hx.1; rw [h0] at h1; simp only [Nat.zero_mul] at h1; omega
    · have hgb : g = ρ.b id := hg g (by rw [hv]; rfl)
      subst hgb
      have hcur : xs.length ≤ cur.size := by rw [← htake]; simp; omega
      obtain ⟨w', arr', hrun, hr', hsz, hget, hhs, hoth, hos, htp, hout⟩ := run_storeCells' (P := P) (b := ρ.b id) (o := ρ.o id + off) vs 0 cur w hgg (by intro j _ hj; simp at hj) (by rw [ho]; omega) hone
      refine ⟨by simp [live, he, hv, Value.ownBlock], w', hrun, ?_, hhs, hoth, hos, htp, hout⟩
      unfold BlkRel
      simp only [he]
      refine ⟨ho, hg, arr'.toList.take (n * P.cellsOf blk.ty), ⟨by simp; rw [hsz, hcs]; exact Nat.min_eq_left (Nat.mul_le_mul_right _ hnc), .inr ⟨ρ.b id, cap, arr', hv, h0, hr', hnc, hcm, by rw [hsz, hcs], rfl⟩⟩, ?_, ?_⟩
      · rw [hlen, ← hl, hx.1]; simp; rw [hsz, hcs]; exact Nat.min_eq_left (Nat.mul_le_mul_right _ hnc)
      · refine (hk _ hi).read fun i y hik hy => ?_
        rw [hlen, ← hl, hx.1] at hik
        rw [List.getElem?_take, if_pos hik]
        have : arr'.toList[i]? = arr'[i]? := by simp
        rw [this, hget]
        by_cases hc : off ≤ i ∧ i < off + vs.length
        · rw [if_pos hc] at hy
          rw [if_pos (by omega), show i - (ρ.o id + off + 0) = i - off by omega]
          exact hy
        · rw [if_neg hc] at hy
          rw [if_neg (by omega)]
          rw [← htake, List.getElem?_take, if_pos hik] at hy
          simpa using hy

theorem RW.cells {ρ : Env} {x : W} {y : Value} (h : RW ρ x y) (hno : x.flat = true) : RL (RC ρ) x.cells y.cells.toList := by
  cases x with
  | c x =>
    have : y.cells = #[y] := by
      cases y with
      | agg cs =>
        cases x with
        | v v => simp only [RW, RC] at h; subst h; simp [W.flat, C.one] at hno
        | ptr _ _ => simp [RW, RC] at h
        | sl _ _ _ => obtain ⟨a, cap, h, _⟩ := h; cases h
        | own _ => exact absurd h.2 (by simp [Value.oneCell'])
        | fn _ _ => simp [RW, RC] at h
        | u _ => simp [RW, RC] at h
      | _ => rfl
    rw [this]
    exact .cons h .nil
  | agg l =>
    obtain ⟨cs, rfl, hl⟩ := h
    simpa [W.cells, Value.cells] using hl
  | ints k l =>
    simp only [RW] at h
    subst h
    simp only [W.cells, Value.cells]
    refine RL.of_get _ _ (by simp) fun i a b ha hb => ?_
    simp at ha hb
    obtain ⟨n, hn, rfl⟩ := ha
    obtain ⟨m, hm, rfl⟩ := hb
    rw [hn] at hm
    cases hm
    rfl

end Sx

namespace Sx
open Go Go.RowKit

theorem RW.size {ρ : Env} {x : W} {y : Value} (h : RW ρ x y) (hf : x.flat = true) : y.cells.size = x.cells.length := by
  have := (h.cells hf).length
  simpa using this.symm

theorem run_storeVar {P : Program} {T : TypeId} {i : TypeInfo} (hi : P.info? T = some i) (a : Addr) (v : Value) (hn : v.cells.size = P.cellsOf T) (w : World) :
    (storeVar T a v).run P w = (storeCells a v.cells.toList).run P w := by
  unfold storeVar
  simp [run_sizeOf' hi, hn]

theorem toInts_okA {k : IntKind} : ∀ (cs : List Value) (l : List Int), toInts k cs = some l → cs = l.map (Value.int k)
  | [], l, h => by simp [toInts] at h; subst h; rfl
  | .int k' n :: r, l, h => by
    simp only [toInts] at h
    cases hk : kEq k k' with
    | false => simp [hk] at h
    | true =>
      simp only [hk, cond_true] at h
      cases hr : toInts k r with
      | none => simp [hr] at h
      | some l' =>
        simp [hr] at h
        subst h
        have := toInts_okA r l' hr
        simp [kEq] at hk
        simp [this, hk]
  | .bool _ :: _, _, h | .float _ _ :: _, _, h | .complex _ _ _ :: _, _, h | .string _ :: _, _, h | .pointer _ :: _, _, h | .slice _ _ _ :: _, _, h | .map _ :: _, _, h | .chan _ :: _, _, h
  | .func _ _ _ :: _, _, h | .nilFunc :: _, _, h | .iface _ _ :: _, _, h | .nilIface :: _, _, h | .agg _ :: _, _, h | .tuple _ :: _, _, h => by simp [toInts] at h

theorem toInts_litA {ρ : Env} {k : IntKind} {l : List C} {r : List Int} {vs : List Value} (h : toInts k (l.map C.lit) = some r) (hl : RL (RC ρ) l vs) : vs = r.map (Value.int k) := by
  have h1 := toInts_okA _ _ h
  have key : ∀ (l : List C) (vs : List Value) (r : List Int), l.map C.lit = r.map (Value.int k) → RL (RC ρ) l vs → vs = r.map (Value.int k) := by
    intro l
    induction l with
    | nil => intro vs r he h; cases h; exact he
    | cons c l ih =>
      intro vs r he h
      cases h with
      | cons hc hl =>
        cases r with
        | nil => simp at he
        | cons n r =>
          simp only [List.map_cons, List.cons.injEq] at he
          obtain ⟨he1, he2⟩ := he
          simp only [List.map_cons]
          rw [← ih _ _ he2 hl, hc.lit he1 (by rintro ⟨⟩)]
  exact key l vs r h1 hl

theorem storeEv_ok {P : Program} {M M0 : Mem} {T : TypeId} {x v : W} {out : Out} {ρ : Env} {w : World} {y z : Value} {base : Nat} (h : storeEv P M0 T x v = some out) (ho : ∀ b ∈ out.obs, b = true)
    (hMs : ∀ id b, M0 id = some b → M id = some b) (hM : MemOk P ρ M w) (hx : RW ρ x y) (hv : RW ρ v z) :
    ∃ w', (Instr.storeAt T y z).run P w = .ok () w' ∧ Good P ρ ρ M base out w w' undef := by
  unfold storeEv at h
  cases hp : wPlace x with
  | none => simp [hp] at h
  | some p =>
    obtain ⟨id, off⟩ := p
    simp only [hp] at h
    cases hid : M0 id with
    | none => simp [hid] at h
    | some blk =>
      simp only [hid] at h
      have hid' := hMs _ _ hid
      have hrel := hM.rel id blk hid'
      have hy := wPlace_ok hp hx
      subst hy
      cases hc : (blk.mode.writes && hasT P T && Nat.blt 0 (P.cellsOf T)) with
      | false => simp [hc] at h
      | true =>
        simp only [hc, cond_true] at h
        simp only [Bool.and_eq_true, Nat.blt_eq] at hc
        obtain ⟨⟨hmode, hh⟩, hpos⟩ := hc
        obtain ⟨i, hi⟩ := info_of_hasT hh
        have main : ∀ k' : K, z.cells.size = P.cellsOf T → (∀ read, blk.k.Is ρ read → k'.Is ρ (fun i => if off ≤ i ∧ i < off + z.cells.toList.length then z.cells.toList[i - off]? else read i)) → k'.len = blk.k.len →
            off + z.cells.toList.length ≤ blk.k.len → (∀ u ∈ z.cells.toList, u.oneCell' = true) → ∀ obs,
            ∃ w', (Instr.storeAt T (.pointer (some ⟨ρ.b id, ρ.o id + off, none⟩)) z).run P w = .ok () w' ∧ Good P ρ ρ M base ⟨none, [(id, some { blk with k := k' })], obs⟩ w w' undef := by
          intro k' hsz hk hlen hfit hone obs
          obtain ⟨hlive, w', hrun, hrel', hs, hoth, hos, htp, hout⟩ := hrel.write hmode hk hlen (by simp; omega) hfit hone
          refine ⟨w', ?_, Good.write hM hid' hlive rfl hs hoth hos htp hout (by simp) hrel'⟩
          simp only [Instr.storeAt, Instr.sureAddr, Sem.run_bind, Sem.run_pure, Result.andThen_ok, run_storeVar hi _ _ hsz, hrun]
        have fall : (match (bif v.flat then blk.k.sets off 0 v.cells else none) with
              | some (k', o) => some (⟨none, [(id, some { blk with k := k' })], Nat.beq v.cells.length (P.cellsOf T) :: o⟩ : Out)
              | none => none) = some out → ∃ w', (Instr.storeAt T (.pointer (some ⟨ρ.b id, ρ.o id + off, none⟩)) z).run P w = .ok () w' ∧ Good P ρ ρ M base out w w' undef := by
          intro h
          cases hf : v.flat with
          | false => simp [hf] at h
          | true =>
            simp only [hf, cond_true] at h
            cases hs : blk.k.sets off 0 v.cells with
            | none => simp [hs] at h
            | some q =>
              obtain ⟨k', o⟩ := q
              simp only [hs, Option.some.injEq] at h
              subst h
              have hsz : v.cells.length = P.cellsOf T := by simpa using ho _ (List.mem_cons_self ..)
              have hzs := hv.size hf
              have ho' : ∀ b ∈ o, b = true := fun b hb => ho b (List.mem_cons_of_mem _ hb)
              have hkk := fun read (hr : blk.k.Is ρ read) => K.sets_ok v.cells z.cells.toList blk.k k' read off 0 o hr hs ho' (hv.cells hf)
              obtain ⟨_, hl, hfit, hone⟩ := hkk _ hrel.cells
              exact main k' (by omega) (fun read hr => by have := (hkk read hr).1; simpa using this) hl (by have := hfit (by simp; omega); simpa using this) hone _
        split at h
        · rename_i k l
          simp only [Option.some.injEq] at h
          subst h
          have h1 : l.length = P.cellsOf T := by simpa using ho _ (List.mem_cons_self ..)
          have h2 : l.length = blk.k.len := by simpa using ho _ (List.mem_cons_of_mem _ (List.mem_singleton.2 rfl))
          simp only [RW] at hv
          subst hv
          refine main (.ints k l) (by simpa [Value.cells] using h1) (fun read _ => ?_) h2 (by simp [Value.cells, h2]) (by simp [Value.cells]; intro a _; rfl) _
          intro i hi
          simp only [Value.cells, List.length_map, Nat.zero_add, Nat.zero_le, true_and, hi, if_true, Nat.sub_zero]
          simp [List.getD, hi]
        · rename_i off' cs
          split at h
          · rename_i out' hput
            simp only [Option.some.injEq] at h
            subst h
            unfold putCells at hput
            cases hb : Nat.ble 16 cs.length with
            | false => simp [hb] at hput
            | true =>
              simp only [hb, cond_true] at hput
              split at hput
              · rename_i k l hk
                split at hput
                · rename_i xs hxs
                  simp only [Option.some.injEq] at hput
                  subst hput
                  have h1 : cs.length = P.cellsOf T := by simpa using ho _ (List.mem_cons_self ..)
                  have h2 : off + cs.length ≤ l.length := by simpa using ho _ (List.mem_cons_of_mem _ (List.mem_singleton.2 rfl))
                  obtain ⟨zs, rfl, hl⟩ := hv
                  have hzx := toInts_litA hxs hl
                  have hxl : xs.length = cs.length := by
                    have := hl.length
                    rw [hzx] at this
                    simpa using this.symm
                  refine main (.ints k (putL l off xs)) (by simp [Value.cells, hzx, hxl, h1]) (fun read hr => ?_) (by rw [hk]; simp only [K.len, putL, List.length_append, List.length_take, List.length_drop]; omega) (by rw [hk]; simp only [K.len, Value.cells, hzx, List.length_map]; simpa [hxl] using h2) (by simp only [Value.cells, hzx]; intro u hu; simp at hu; obtain ⟨n, _, rfl⟩ := hu; rfl) _
                  rw [hk] at hr
                  intro i hi
                  simp only [putL, List.length_append, List.length_take, List.length_drop] at hi
                  simp only [Value.cells, hzx, List.length_map]
                  have hmin : min off l.length = off := by omega
                  by_cases hc : off ≤ i ∧ i < off + xs.length
                  · rw [if_pos hc]
                    have h3 : i - off < xs.length := by omega
                    simp only [putL, List.getD_eq_getElem?_getD, List.getElem?_append, List.length_take, hmin]
                    rw [if_neg (by omega), if_pos h3]
                    simp [h3]
                  · rw [if_neg hc]
                    have hil : i < l.length := by omega
                    have := hr i hil
                    rw [this]
                    congr 2
                    simp only [putL, List.getD_eq_getElem?_getD, List.getElem?_append, List.length_take, hmin]
                    by_cases hlt : i < off
                    · rw [if_pos hlt, List.getElem?_take, if_pos hlt]
                    · rw [if_neg hlt, if_neg (by omega), List.getElem?_drop]
                      congr 2
                      omega
                · cases hput
              · cases hput
          · refine fall ?_
            simp only [W.flat, cond_true, W.cells]
            exact h
        · exact fall h

theorem zeroOf_ok {P : Program} {T : TypeId} {cs : List Value} (h : zeroOf P T = some cs) : ∃ v, (∀ w, (zeroValue T).run P w = .ok v w) ∧ v.cells.toList = cs := by
  unfold zeroOf at h
  cases hi : P.info? T with
  | none => simp [hi] at h
  | some i =>
    simp only [hi] at h
    cases hz : i.zero with
    | none => simp [hz] at h
    | some v =>
      simp only [hz, Option.some.injEq] at h
      exact ⟨v, fun w => by simp [zeroValue, typeInfo, hi, hz], h⟩

theorem toInts_ok {k : IntKind} : ∀ (cs : List Value) (l : List Int), toInts k cs = some l → cs = l.map (Value.int k)
  | [], l, h => by simp [toInts] at h; subst h; rfl
  | .int k' n :: r, l, h => by
    simp only [toInts] at h
    cases hk : kEq k k' with
    | false => simp [hk] at h
    | true =>
      simp only [hk, cond_true] at h
      cases hr : toInts k r with
      | none => simp [hr] at h
      | some l' =>
        simp [hr] at h
        subst h
        have := toInts_ok r l' hr
        simp [kEq] at hk
        simp [this, hk]
  | .bool _ :: _, _, h | .float _ _ :: _, _, h | .complex _ _ _ :: _, _, h | .string _ :: _, _, h | .pointer _ :: _, _, h | .slice _ _ _ :: _, _, h | .map _ :: _, _, h | .chan _ :: _, _, h
  | .func _ _ _ :: _, _, h | .nilFunc :: _, _, h | .iface _ _ :: _, _, h | .nilIface :: _, _, h | .agg _ :: _, _, h | .tuple _ :: _, _, h => by simp [toInts] at h

theorem K.Is.lits (ρ : Env) (cs : List Value) : K.Is ρ (.cs (cs.map C.v)) (fun i => cs[i]?) := by
  intro i c hc
  rw [List.getElem?_map] at hc
  cases h : cs[i]? with
  | none => simp [h] at hc
  | some v => simp [h] at hc; subst hc; exact ⟨v, h, rfl⟩

theorem K.Is.intl (ρ : Env) (k : IntKind) (l : List Int) : K.Is ρ (.ints k l) (fun i => (l.map (Value.int k))[i]?) := by
  intro i hi
  simp [List.getD, hi]

theorem wC_ok (ρ : Env) (v : Value) : RC ρ (wC v) v := by
  unfold wC
  split
  · rename_i n
    cases hb : Nat.blt n 18446744073709551616 with
    | false => exact rfl
    | true =>
      simp only [cond_true]
      show Value.int .u64 (Int.ofNat n) = _
      rw [Nat.mod_eq_of_lt (by simpa using hb)]
      rfl
  · exact rfl
theorem RL.lits0 (ρ : Env) : ∀ (l : List Value), RL (RC ρ) (l.map C.v) l
  | [] => .nil
  | _ :: l => .cons rfl (RL.lits0 ρ l)
theorem RL.lits1 (ρ : Env) : ∀ (l : List Value), RL (RC ρ) (l.map wC) l
  | [] => .nil
  | v :: l => .cons (wC_ok ρ v) (RL.lits1 ρ l)
theorem RL.lits (ρ : Env) (l : List Value) : RL (RC ρ) (wCs l) l := by
  unfold wCs
  cases Nat.ble 4 l.length with
  | true => exact RL.lits1 ρ l
  | false => exact RL.lits0 ρ l
theorem K.Is.litw (ρ : Env) (cs : List Value) : K.Is ρ (.cs (wCs cs)) (fun i => cs[i]?) := by
  intro i c hc
  exact (RL.lits ρ cs).get i c hc

theorem kOfZero_ok (ρ : Env) (cs : List Value) : K.Is ρ (kOfZero cs) (fun i => cs[i]?) := by
  unfold kOfZero
  cases Nat.blt 16 cs.length with
  | false => exact K.Is.litw ρ cs
  | true =>
    simp only [cond_true]
    split
    · rename_i k n r
      split
      · rename_i l hl
        have := toInts_ok _ _ hl
        rw [this]
        exact K.Is.intl ρ k l
      · exact K.Is.lits ρ _
    · exact K.Is.lits ρ cs

/-- a block that has just been made. -/
theorem BlkRel.made {P : Program} {ρ : Env} {base : Nat} {u : Value} {w : World} {T : TypeId} {arr : Array Value} {k : K}
    (hk : K.Is (ρ.set base w.heap.size u) k (fun i => arr[i]?)) : BlkRel P (ρ.set base w.heap.size u) base ⟨T, .rw, k⟩ (w.alloc (.cells arr T)) := by
  refine ⟨arr, ⟨(0, 0), ?_, by intro i _ h; simp at h⟩, ?_⟩
  · simp only [Env.set, if_true]
    exact heap_alloc_new w _
  · simpa [Env.set] using hk

theorem allocEv_ok {P : Program} {M : Mem} {T : TypeId} {out : Out} {ρ : Env} {w : World} {base : Nat} (h : allocEv P base T = some out)
    (hM : MemOk P ρ M w) (hF : Fresh M base) : ∃ y w' ρ', (Instr.alloc T true (.tuple #[])).run P w = .ok y w' ∧ Good P ρ ρ' M base out w w' y := by
  unfold allocEv at h
  cases hz : zeroOf P T with
  | none => simp [hz] at h
  | some cs =>
    simp only [hz, Option.some.injEq] at h
    subst h
    obtain ⟨v, hv, hcs⟩ := zeroOf_ok hz
    refine ⟨.pointer (some ⟨w.heap.size, 0, none⟩), w.alloc (.cells v.cells T), ρ.set base w.heap.size .nilFunc, ?_, ?_⟩
    · simp [Instr.alloc, hv, newVar, newRow]
    · refine Good.alloc hM hF (by simp) (fun k hk => Below.heap_alloc w _ k hk) rfl rfl rfl ?_ (by simp [Blk.ro]) ?_
      · rintro v' ⟨⟩
        simp [RV, RW, RC, Env.set]
      · refine BlkRel.made ((kOfZero_ok _ cs).read fun i y _ hy => ?_)
        rw [← hcs] at hy
        simpa using hy

theorem W.k_ok {ρ : Env} {x : W} {y : Value} (h : RW ρ x y) (hf : x.flat = true) : K.Is ρ x.k (fun i => y.cells[i]?) := by
  have hc := h.cells hf
  have key : K.Is ρ (.cs x.cells) (fun i => y.cells[i]?) := by
    intro i c hi
    obtain ⟨b, hb, hr⟩ := hc.get i c hi
    exact ⟨b, by simpa using hb, hr⟩
  cases x with
  | c x => exact key
  | agg l => exact key
  | ints k l =>
    simp only [RW] at h
    subst h
    intro i hi
    simp [Value.cells, List.getD, hi]

theorem W.k_ids (x : W) : x.k.ids = x.ids := by
  cases x <;> simp [W.k, K.ids, W.ids]

theorem boxEv_ok {P : Program} {M : Mem} {T : TypeId} {x : W} {out : Out} {ρ : Env} {w : World} {base : Nat} {y : Value} (h : boxEv base T x = some out)
    (hM : MemOk P ρ M w) (hF : Fresh M base) (hx : RW ρ x y) (hfr : ∀ id ∈ x.ids, ¬ inR base id) :
    ∃ r w' ρ', (Instr.box T y).run P w = .ok r w' ∧ Good P ρ ρ' M base out w w' r := by
  unfold boxEv at h
  cases hf : x.flat with
  | false => simp [hf] at h
  | true =>
  simp only [hf, cond_true, Option.some.injEq] at h
  subst h
  refine ⟨.pointer (some ⟨w.heap.size, 0, none⟩), w.alloc (.cells y.cells T), ρ.set base w.heap.size .nilFunc, ?_, ?_⟩
  · simp [Instr.box, newVar, newRow]
  · refine Good.alloc hM hF (by simp) (fun k hk => Below.heap_alloc w _ k hk) rfl rfl rfl ?_ (by simp [Blk.ro]) ?_
    · rintro v' ⟨⟩
      simp [RV, RW, RC, Env.set]
    · refine BlkRel.made ((W.k_ok hx hf).env fun id hid => ?_)
      rw [W.k_ids] at hid
      exact Env.set_same fun e => hfr id hid (e ▸ ⟨Nat.le_refl _, by omega⟩)

end Sx

namespace Sx
open Go Go.RowKit

theorem RL.take {α β : Type} {R : α → β → Prop} : ∀ {l : List α} {m : List β} (n : Nat), RL R l m → RL R (l.take n) (m.take n)
  | _, _, 0, _ => by simp; exact .nil
  | _, _, _ + 1, .nil => by simp; exact .nil
  | _, _, n + 1, .cons a h => by simp; exact .cons a (RL.take n h)

theorem RL.drop {α β : Type} {R : α → β → Prop} : ∀ {l : List α} {m : List β} (n : Nat), RL R l m → RL R (l.drop n) (m.drop n)
  | _, _, 0, h => by simpa using h
  | _, _, _ + 1, .nil => by simp; exact .nil
  | _, _, n + 1, .cons _ h => by simp; exact RL.drop n h

theorem foldl_set (off : Nat) : ∀ (cs : List Value) (j : Nat) (arr : Array Value), off + j + cs.length ≤ arr.size →
    ((cs.zipIdx j).foldl (fun a (p : Value × Nat) => a.setIfInBounds (off + p.2) p.1) arr).toList = arr.toList.take (off + j) ++ cs ++ arr.toList.drop (off + j + cs.length)
  | [], j, arr, h => by simp
  | c :: cs, j, arr, h => by
    simp only [List.length_cons] at h
    simp only [List.zipIdx_cons, List.foldl_cons]
    rw [foldl_set off cs (j + 1) _ (by simp; omega)]
    simp only [Array.toList_setIfInBounds, List.length_cons]
    apply List.ext_getElem?
    intro i
    simp only [List.getElem?_append, List.length_append, List.length_take, List.length_set, Array.length_toList, List.getElem?_drop, List.getElem?_take, List.getElem?_set, List.getElem?_cons, List.length_cons]
    have m1 : min (off + (j + 1)) arr.size = off + j + 1 := by omega
    have m2 : min (off + j) arr.size = off + j := by omega
    rw [m1, m2]
    by_cases h1 : i < off + j
    · have : i < off + j + 1 := by omega
      have h3 : i < off + j + 1 + cs.length := by omega
      have h4 : i < off + j + (cs.length + 1) := by omega
      have h5 : off + j ≠ i := by omega
      have h6 : i < off + (j + 1) := by omega
      simp [h1, this, h3, h4, h5, h6]
    · by_cases h2 : i = off + j
      · subst h2
        have h3 : off + j < off + j + 1 + cs.length := by omega
        have h6 : off + j < off + (j + 1) := by omega
        have h7 : off + j < arr.size := by omega
        simp [h3, h6, h7]
      · have h5 : off + j ≠ i := by omega
        by_cases h3 : i < off + j + 1 + cs.length
        · have h4 : i < off + j + (cs.length + 1) := by omega
          have h6 : ¬ i < off + j + 1 := by omega
          have h8 : i - (off + j) = (i - (off + j + 1)) + 1 := by omega
          have h9 : ¬ i - (off + j) = 0 := by omega
          simp [h1, h3, h4, h6, h8]
        · have h4 : ¬ i < off + j + (cs.length + 1) := by omega
          simp only [h3, h4, if_false]
          rw [if_neg (by omega)]
          congr 1
          omega

theorem fill_ok {ρ : Env} (place : Nat → Option (Nat × Nat)) : ∀ (ps : List (Nat × W)) (vs : List (Nat × Value)) (cells r : List C) (arr : Array Value), RL (RC ρ) cells arr.toList →
    RL (fun p q => p.1 = q.1 ∧ RW ρ p.2 q.2) ps vs → fillC place cells ps = some r → ∃ a, Instr.fill place arr vs = some a ∧ RL (RC ρ) r a.toList
  | [], _, cells, r, arr, hc, .nil, h => by
    simp only [fillC, Option.some.injEq] at h
    subst h
    exact ⟨arr, rfl, hc⟩
  | (i, x) :: ps, (i', y) :: vs, cells, r, arr, hc, .cons hp hl, h => by
    obtain ⟨rfl, hxy⟩ := hp
    simp only at hxy
    simp only [fillC] at h
    cases hpl : place i with
    | none => simp [hpl] at h
    | some q =>
      obtain ⟨off, size⟩ := q
      simp only [hpl] at h
      cases hb : (Nat.beq x.cells.length size && Nat.ble (off + size) cells.length && x.flat) with
      | false => simp [hb] at h
      | true =>
        simp only [hb, cond_true] at h
        simp only [Bool.and_eq_true, Nat.ble_eq] at hb
        obtain ⟨⟨h1, h2⟩, hf⟩ := hb
        have h1 : x.cells.length = size := by simpa using h1
        have hys := hxy.size hf
        have hyc := hxy.cells hf
        have hlen : cells.length = arr.size := by simpa using hc.length
        have hset := foldl_set off y.cells.toList 0 arr (by simp; omega)
        simp only [Nat.add_zero, Array.length_toList] at hset
        have harr : (y.cells.zipIdx.foldl (fun cs (p : Value × Nat) => cs.setIfInBounds (off + p.2) p.1) arr).toList = arr.toList.take off ++ y.cells.toList ++ arr.toList.drop (off + y.cells.size) := by
          rw [← hset, ← Array.foldl_toList]
          simp
        obtain ⟨a, ha, hr⟩ := fill_ok place ps vs _ r (y.cells.zipIdx.foldl (fun cs (p : Value × Nat) => cs.setIfInBounds (off + p.2) p.1) arr) (by
            rw [harr]
            refine RL.append (RL.append (hc.take off) hyc) ?_
            rw [hys, h1]
            exact hc.drop _) hl h
        refine ⟨a, ?_, hr⟩
        simp only [Instr.fill, hpl]
        rw [if_neg (by simp; omega)]
        exact ha


theorem evParts_ok {ρ : Env} {t : Tms} {a : Act} (hev : ∀ x v, ev t x = some v → RV ρ v (a.eval x)) : ∀ (ps : List (Nat × Operand)) (l : List (Nat × W)), evParts t ps = some l →
    RL (fun p q => p.1 = q.1 ∧ RW ρ p.2 q.2) l (ps.map fun (i, x) => (i, a.eval x))
  | [], l, h => by simp [evParts] at h; subst h; exact .nil
  | (i, x) :: ps, l, h => by
    simp only [evParts] at h
    cases hx : evw t x with
    | none => simp [hx] at h
    | some v =>
      simp only [hx] at h
      cases hr : evParts t ps with
      | none => simp [hr] at h
      | some l' =>
        simp [hr] at h
        subst h
        refine .cons ⟨rfl, ?_⟩ (evParts_ok hev ps l' hr)
        unfold evw at hx
        split at hx
        · rename_i w hw
          simp at hx; subst hx
          exact hev x _ hw
        · cases hx

theorem buildEv_ok {P : Program} {T : TypeId} {ps : List (Nat × W)} {out : Out} {ρ : Env} {w : World} {vs : List (Nat × Value)} (h : buildEv P T ps = some out)
    (hp : RL (fun p q => p.1 = q.1 ∧ RW ρ p.2 q.2) ps vs) : ∃ v r, out = ⟨some v, [], []⟩ ∧ RV ρ v r ∧ (Instr.build T vs.toArray).run P w = .ok r w := by
  have key : ∃ l, out = ⟨some (.w (.agg l)), [], []⟩ ∧ ∃ a, P.built T vs = some a ∧ RL (RC ρ) l a.toList := by
    unfold buildEv at h
    unfold Program.built
    split at h
    · rename_i it e n hit hu
      split at h
      · rename_i z ie hz hie
        split at h
        · rename_i l hl
          simp only [out1, Option.some.injEq] at h
          obtain ⟨a, ha, hr⟩ := fill_ok _ ps vs _ l z.cells (RL.lits ρ _) hp hl
          refine ⟨l, h.symm, a, ?_, hr⟩
          simp [*]
        · cases h
      · cases h
    · rename_i it fields hit hu
      split at h
      · rename_i z places hz hpl
        split at h
        · rename_i l hl
          simp only [out1, Option.some.injEq] at h
          obtain ⟨a, ha, hr⟩ := fill_ok _ ps vs _ l z.cells (RL.lits ρ _) hp hl
          refine ⟨l, h.symm, a, ?_, hr⟩
          simp only [hit, hu, hz, hpl]
          exact ha
        · cases h
      · cases h
    · cases h
  obtain ⟨l, rfl, a, ha, hr⟩ := key
  exact ⟨_, .agg a, rfl, ⟨a.toList, by simp, hr⟩, run_build w T vs.toArray a (by simpa using ha)⟩

theorem elemOfSlice_ok {P : Program} {T e : TypeId} (h : elemOfSlice P T = some e) : P.underlying T = some (.slice e) := by
  unfold elemOfSlice at h
  split at h
  · simp at h; subst h; assumption
  · cases h

theorem zeros_ok (ρ : Env) (z : Array Value) (n : Nat) : RL (RC ρ) (zeros z n) ((Array.range n).map (z[· % z.size]!)).toList := by
  refine RL.of_get _ _ (by simp [zeros]) fun i a b ha hb => ?_
  simp only [zeros, List.getElem?_map, Array.toList_map, Array.toList_range] at ha hb
  cases hr : (List.range n)[i]? with
  | none => simp [hr] at ha
  | some m => simp [hr] at ha hb; subst ha; subst hb; rfl

theorem C.ids_flat {l : List C} {p : Nat → Prop} (h : ∀ c ∈ l, ∀ id ∈ c.ids, p id) : ∀ id ∈ (K.cs l).ids, p id := by
  intro id hid
  simp only [K.ids, List.mem_flatMap] at hid
  obtain ⟨c, hc, hid⟩ := hid
  exact h c hc id hid

theorem fillC_ids (place : Nat → Option (Nat × Nat)) (p : Nat → Prop) : ∀ (ps : List (Nat × W)) (cells r : List C), (∀ c ∈ cells, ∀ id ∈ c.ids, p id) → (∀ q ∈ ps, ∀ id ∈ q.2.ids, p id) → fillC place cells ps = some r → ∀ c ∈ r, ∀ id ∈ c.ids, p id
  | [], cells, r, hc, _, h => by simp [fillC] at h; subst h; exact hc
  | (i, x) :: ps, cells, r, hc, hp, h => by
    simp only [fillC] at h
    cases hpl : place i with
    | none => simp [hpl] at h
    | some q =>
      obtain ⟨off, size⟩ := q
      simp only [hpl] at h
      cases hb : (Nat.beq x.cells.length size && Nat.ble (off + size) cells.length && x.flat) with
      | false => simp [hb] at h
      | true =>
        simp only [hb, cond_true] at h
        refine fillC_ids place p ps _ r ?_ (fun q hq => hp q (List.mem_cons_of_mem _ hq)) h
        intro c hcm id hid
        rcases List.mem_append.1 hcm with hcm | hcm
        · rcases List.mem_append.1 hcm with hcm | hcm
          · exact hc c (List.mem_of_mem_take hcm) id hid
          · refine hp (i, x) (List.mem_cons_self ..) id ?_
            cases x with
            | c y => simp [W.cells] at hcm; subst hcm; exact hid
            | agg l => simp only [W.cells] at hcm; simp only [W.ids, List.mem_flatMap]; exact ⟨c, hcm, hid⟩
            | ints k l => simp [W.cells] at hcm; obtain ⟨n, _, rfl⟩ := hcm; simp [C.ids] at hid
        · exact hc c (List.mem_of_mem_drop hcm) id hid

end Sx

namespace Sx
open Go Go.RowKit

theorem fieldOf_ok {P : Program} {T : TypeId} {f fo : Nat} {ft : TypeId} (h : fieldOf P T f = some (fo, ft)) :
    ∃ fields x, P.underlying T = some (.struct fields) ∧ fields[f]? = some x ∧ x.offset = fo ∧ x.type = ft := by
  unfold fieldOf at h
  split at h
  · rename_i fields hu
    split at h
    · rename_i x hx
      simp at h
      exact ⟨fields, x, hu, hx, h.1, h.2⟩
    · cases h
  · cases h

theorem fieldAddrEv_ok {P : Program} {T : TypeId} {x : W} {f : Nat} {out : Out} {ρ : Env} {y : Value} (h : fieldAddrEv P T x f = some out) (hx : RW ρ x y) :
    ∃ v r, out = ⟨some v, [], []⟩ ∧ RV ρ v r ∧ ∀ w, (Instr.fieldAt T y f).run P w = .ok r w := by
  unfold fieldAddrEv at h
  split at h
  · rename_i id off fo ft hp hf
    cases hb : (Nat.beq (P.cellsOf ft) 0 || !(hasT P ft)) with
    | true => simp [hb] at h
    | false =>
      simp only [hb, cond_false, out1, Option.some.injEq] at h
      subst h
      simp only [Bool.or_eq_false_iff, Bool.not_eq_false'] at hb
      obtain ⟨hb1, hb2⟩ := hb
      have hb1 : P.cellsOf ft ≠ 0 := by intro e; simp [e] at hb1
      obtain ⟨i, hi⟩ := info_of_hasT hb2
      obtain ⟨fields, fd, hu, hfd, rfl, rfl⟩ := fieldOf_ok hf
      have hy := wPlace_ok hp hx
      subst hy
      refine ⟨_, .pointer (some ⟨ρ.b id, ρ.o id + (off + fd.offset), none⟩), rfl, rfl, fun w => ?_⟩
      simp [Instr.fieldAt, run_underlying hu, hfd, Instr.sureAddr, fieldPlace, run_sizeOf' hi, hb1, add_at, Nat.add_assoc]
  · cases h

theorem partOf_ok {P : Program} {T : TypeId} {l : List C} {off : Nat} {x : W} {ρ : Env} {cs : List Value} (h : partOf P T l off = some x) (hl : RL (RC ρ) l cs) :
    ∃ r, RW ρ x r ∧ ∀ w, (part T cs.toArray off).run P w = .ok r w := by
  unfold partOf at h
  cases hagg : isAggT P T with
  | true =>
    simp only [hagg, cond_true, Option.some.injEq] at h
    subst h
    have hh := hasT_of_agg hagg
    obtain ⟨i, hi⟩ := info_of_hasT hh
    refine ⟨.agg (cs.toArray.extract off (off + P.cellsOf T)), ⟨(cs.drop off).take (P.cellsOf T), ?_, (hl.drop off).take _⟩, fun w => ?_⟩
    · simp only [List.extract_toArray, List.extract]
      congr 2
      congr 1
      omega
    · simp [part, run_isAgg' hh, hagg, run_sizeOf' hi]
  | false =>
    simp only [hagg, cond_false] at h
    cases hh : hasT P T with
    | false => simp [hh] at h
    | true =>
      simp only [hh, cond_true] at h
      cases hc : l[off]? with
      | none => simp [hc] at h
      | some c =>
        simp only [hc, Option.some.injEq] at h
        subst h
        obtain ⟨b, hb, hr⟩ := hl.get off c hc
        refine ⟨b, hr, fun w => ?_⟩
        simp [part, run_isAgg' hh, hagg, hb]

theorem fieldEv_ok {P : Program} {T : TypeId} {x : W} {f : Nat} {out : Out} {ρ : Env} {y : Value} (h : fieldEv P T x f = some out) (hx : RW ρ x y) :
    ∃ v r, out = ⟨some v, [], []⟩ ∧ RV ρ v r ∧ ∀ w, (Instr.field T y f).run P w = .ok r w := by
  unfold fieldEv at h
  split at h
  · rename_i l fo ft hf
    split at h
    · rename_i x' hp
      simp only [out1, Option.some.injEq] at h
      subst h
      obtain ⟨fields, fd, hu, hfd, rfl, rfl⟩ := fieldOf_ok hf
      obtain ⟨cs, rfl, hl⟩ := hx
      obtain ⟨r, hr, hrun⟩ := partOf_ok hp hl
      refine ⟨_, r, rfl, hr, fun w => ?_⟩
      simp [Instr.field, run_underlying hu, hfd, asAgg, hrun]
    · cases h
  · cases h

theorem inb_ok {i : Int} {n : Nat} {obs : List Bool} (h : ∀ b ∈ obs, b = true) (hi : ∀ b ∈ inb i n, b ∈ obs) : 0 ≤ i ∧ i < (n : Int) := by
  have h1 := h _ (hi (decide (0 ≤ i)) (by simp [inb]))
  have h2 := h _ (hi (decide (i < (n : Int))) (by simp [inb]))
  exact ⟨by simpa using h1, by simpa using h2⟩

/-- a slice's place. -/
theorem C.slice_ok {P : Program} {M M0 : Mem} {c : C} {id off n : Nat} {ρ : Env} {w : World} {y : Value} (h : c.slice M0 = some (id, off, n)) (hMs : ∀ id b, M0 id = some b → M id = some b)
    (hM : MemOk P ρ M w) (hx : RC ρ c y) : ∃ a cap, y = .slice a n cap ∧ n ≤ cap ∧ (0 < n → a = some ⟨ρ.b id, ρ.o id + off, none⟩) := by
  unfold C.slice at h
  split at h
  · simp at h; obtain ⟨rfl, rfl, rfl⟩ := h; exact hx
  · rename_i id'
    split at h
    · rename_i ty n' k hid
      simp at h; obtain ⟨rfl, rfl, rfl⟩ := h
      have hrel := hM.rel id' _ (hMs _ _ hid)
      simp only [BlkRel] at hrel
      obtain ⟨ho, hg, xs, hxs, _⟩ := hrel
      obtain ⟨hy, _⟩ := hx
      subst hy
      rcases hxs.2 with ⟨hv, h0⟩ | ⟨g, cap, cur, hv, _, _, hnc, _⟩
      · exact ⟨none, 0, by rw [hv, h0], by omega, by omega⟩
      · have := hg g (by rw [hv]; rfl)
        subst this
        exact ⟨_, cap, hv, hnc, fun _ => by rw [ho]⟩
    · cases h
  · cases h

theorem indexAddrEv_ok {P : Program} {M M0 : Mem} {T : TypeId} {x i : W} {out : Out} {ρ : Env} {w : World} {y z : Value} (h : indexAddrEv P M0 T x i = some out) (ho : ∀ b ∈ out.obs, b = true)
    (hMs : ∀ id b, M0 id = some b → M id = some b) (hM : MemOk P ρ M w) (hx : RW ρ x y) (hi : RW ρ i z) :
    ∃ v r, out = ⟨some v, [], out.obs⟩ ∧ RV ρ v r ∧ (Instr.indexAt T y z).run P w = .ok r w := by
  unfold indexAddrEv at h
  simp only [spot_eq] at h
  split at h
  · rename_i k i
    simp only [RW, RC] at hi
    subst hi
    split at h
    · rename_i n e hu
      split at h
      · rename_i id off hp
        cases hh : hasT P e with
        | false => simp [hh] at h
        | true =>
          simp only [hh, cond_true, outo, Option.some.injEq] at h
          subst h
          obtain ⟨ie, hie⟩ := info_of_hasT hh
          have hb := inb_ok ho (fun b hb => hb)
          have hy := wPlace_ok hp hx
          subst hy
          refine ⟨_, .pointer (some ⟨ρ.b id, ρ.o id + (off + i.toNat * P.cellsOf e), none⟩), rfl, rfl, ?_⟩
          simp [Instr.indexAt, asIntOf, run_underlying hu, Instr.sureAddr, hb, run_sizeOf' hie, add_at, Nat.add_assoc]
      · cases h
    · rename_i e hu
      split at h
      · rename_i c
        split at h
        · rename_i id off n hs
          cases hh : hasT P e with
          | false => simp [hh] at h
          | true =>
            simp only [hh, cond_true, outo, Option.some.injEq] at h
            subst h
            obtain ⟨ie, hie⟩ := info_of_hasT hh
            have hb := inb_ok ho (fun b hb => hb)
            obtain ⟨a, cap, rfl, hnc, ha⟩ := C.slice_ok hs hMs hM hx
            have := ha (by omega)
            subst this
            refine ⟨_, .pointer (some ⟨ρ.b id, ρ.o id + (off + i.toNat * P.cellsOf e), none⟩), rfl, rfl, ?_⟩
            simp [Instr.indexAt, asIntOf, run_underlying hu, hb, run_sizeOf' hie, add_at, Nat.add_assoc]
        · cases h
      · cases h
    · cases h
  · cases h

theorem arrayAtEv_ok {P : Program} {M M0 : Mem} {T : TypeId} {x : W} {out : Out} {ρ : Env} {w : World} {y : Value} (h : arrayAtEv P M0 T x = some out) (ho : ∀ b ∈ out.obs, b = true)
    (hMs : ∀ id b, M0 id = some b → M id = some b) (hM : MemOk P ρ M w) (hx : RW ρ x y) :
    ∃ v r, out = ⟨some v, [], out.obs⟩ ∧ RV ρ v r ∧ (Instr.arrayAt T y).run P w = .ok r w := by
  unfold arrayAtEv at h
  split at h
  · rename_i n e harr
    have hu : P.underlying T = some (.array n e) := by
      unfold arrOf at harr
      split at harr
      · rename_i n' e' hu
        cases harr
        exact hu
      · cases harr
    split at h
    · rename_i c
      split at h
      · rename_i id off m hs
        cases hn : Nat.blt 0 n with
        | false => simp [hn] at h
        | true =>
          simp only [hn, cond_true, outo, Option.some.injEq] at h
          subst h
          have hn' : 0 < n := by simpa using hn
          have hle : n ≤ m := by simpa using ho (Nat.ble n m) (by simp)
          obtain ⟨a, cap, rfl, _, ha⟩ := C.slice_ok hs hMs hM hx
          have := ha (by omega)
          subst this
          refine ⟨_, .pointer (some ⟨ρ.b id, ρ.o id + off, none⟩), rfl, rfl, ?_⟩
          simp [Instr.arrayAt, run_underlying hu, Nat.not_lt.2 hle]
      · cases h
    · cases h
  · cases h

theorem indexEv_ok {P : Program} {T : TypeId} {x i : W} {out : Out} {ρ : Env} {y z : Value} (h : indexEv P T x i = some out) (ho : ∀ b ∈ out.obs, b = true)
    (hx : RW ρ x y) (hi : RW ρ i z) :
    ∃ v r, out = ⟨some v, [], out.obs⟩ ∧ RV ρ v r ∧ ∀ w, (Instr.index T y z).run P w = .ok r w := by
  unfold indexEv at h
  split at h
  · rename_i k i
    simp only [RW, RC] at hi
    subst hi
    split at h
    · rename_i hu
      split at h
      · rename_i s
        simp only [outo, Option.some.injEq] at h
        subst h
        have hb := inb_ok ho (fun b hb => hb)
        simp only [RW, RC] at hx
        subst hx
        have hlt : i.toNat < s.size := by omega
        refine ⟨_, .int .u8 (bt s i), rfl, rfl, fun w => ?_⟩
        have hs : s[i.toNat]? = some s[i.toNat] := getElem?_pos s i.toNat hlt
        simp [Instr.index, asIntOf, run_underlying hu, hb, hs, bt]
      · cases h
    · rename_i n e hu
      split at h
      · rename_i l
        split at h
        · rename_i x' hp
          simp only [outo, Option.some.injEq] at h
          subst h
          have hb := inb_ok ho (fun b hb => hb)
          obtain ⟨cs, rfl, hl⟩ := hx
          obtain ⟨r, hr, hrun⟩ := partOf_ok hp hl
          have hh : hasT P e = true := by
            unfold partOf at hp
            cases hagg : isAggT P e with
            | true => exact hasT_of_agg hagg
            | false =>
              simp only [hagg, cond_false] at hp
              cases hh : hasT P e with
              | false => simp [hh] at hp
              | true => rfl
          obtain ⟨ie, hie⟩ := info_of_hasT hh
          refine ⟨_, r, rfl, hr, fun w => ?_⟩
          simp [Instr.index, asIntOf, run_underlying hu, hb, run_sizeOf' hie, hrun]
        · cases h
      · rename_i k l
        cases hc : (Nat.beq (P.cellsOf e) 1 && !(isAggT P e) && hasT P e) with
        | false => simp [hc] at h
        | true =>
          simp only [hc, cond_true, outo, Option.some.injEq] at h
          subst h
          simp only [Bool.and_eq_true, Bool.not_eq_true'] at hc
          obtain ⟨⟨h1, h2⟩, h3⟩ := hc
          have h1 : P.cellsOf e = 1 := by simpa using h1
          have hb := inb_ok ho (fun b hb => List.mem_cons_of_mem _ hb)
          have hlt : i.toNat < l.length := by have := ho _ (List.mem_cons_self ..); simpa [Nat.blt_eq] using this
          simp only [RW] at hx
          subst hx
          obtain ⟨ie, hie⟩ := info_of_hasT h3
          refine ⟨_, .int k (l.getD i.toNat 0), rfl, rfl, fun w => ?_⟩
          simp [Instr.index, asIntOf, run_underlying hu, hb, run_sizeOf' hie, h1, part, run_isAgg' h3, h2, hlt, List.getD]
      · cases h
    · cases h
  · cases h

theorem und_str {P : Program} {T : TypeId} (h : isStrT P T = true) : P.underlying T = some .string := by
  unfold isStrT at h
  split at h
  · assumption
  · cases h

theorem lowOf_ok {ρ : Env} {a : Act} {t : Tms} {lo : Option Operand} {l : Int} (hev : ∀ x v, ev t x = some v → RV ρ v (a.eval x)) (h : lowOf (oev t lo) = some l) :
    (lo = none ∧ l = 0) ∨ ∃ x k, lo = some x ∧ a.eval x = .int k l := by
  cases lo with
  | none => simp [oev, lowOf] at h; exact .inl ⟨rfl, h.symm⟩
  | some x =>
    right
    simp only [oev, lowOf, intOf', evw] at h
    split at h
    · rename_i w k n heq
      split at heq
      · rename_i y hy
        simp at heq h; subst heq; subst h
        have := hev x _ hy
        simp only [RV, RW, RC] at this
        exact ⟨x, k, rfl, this⟩
      · cases heq
    · cases h

theorem highOf_ok {ρ : Env} {a : Act} {t : Tms} {n : Nat} {hi : Option Operand} {l : Int} (hev : ∀ x v, ev t x = some v → RV ρ v (a.eval x)) (h : highOf n (oev t hi) = some l) :
    (hi = none ∧ l = n) ∨ ∃ x k, hi = some x ∧ a.eval x = .int k l := by
  cases hi with
  | none => simp [oev, highOf] at h; exact .inl ⟨rfl, h.symm⟩
  | some x =>
    right
    simp only [oev, highOf] at h
    exact (lowOf_ok (lo := some x) hev (by simpa [oev, lowOf] using h)).resolve_left (by simp)

theorem run_bound {P : Program} {w : World} {k : IntKind} {i : Int} {n : Nat} (c : BoundsCode) (h0 : 0 ≤ i) (h1 : i ≤ n) : (Instr.sliceBound (.int k i) n c).run P w = .ok i.toNat w := by
  simp [Instr.sliceBound, asIntOf, h0, h1]

/-- the three bounds. -/
theorem run_bounds {P : Program} {w : World} {ρ : Env} {a : Act} {t : Tms} (isS : Bool) {len cap : Nat} (hlc : len ≤ cap) {lo hi : Option Operand} {l h : Int} (hev : ∀ x v, ev t x = some v → RV ρ v (a.eval x))
    (hl : lowOf (oev t lo) = some l) (hh : highOf len (oev t hi) = some h) (h0 : 0 ≤ l) (h1 : l ≤ h) (h2 : h ≤ len) :
    (Instr.sliceBounds isS len cap (lo.map a.eval) (hi.map a.eval) none).run P w = .ok (l.toNat, h.toNat, cap) w := by
  have hh0 : 0 ≤ h := by omega
  have hhc : h ≤ cap := by omega
  have e : ((h.toNat : Nat) : Int) = h := by omega
  rcases lowOf_ok hev hl with ⟨rfl, rfl⟩ | ⟨x, k, rfl, hx⟩ <;> rcases highOf_ok hev hh with ⟨rfl, rfl⟩ | ⟨y, k', rfl, hy⟩
  · simp [Instr.sliceBounds]
  · simp [Instr.sliceBounds, hy, run_bound _ hh0 hhc]
  · have : (Instr.sliceBound (.int k l) len .sliceB).run P w = .ok l.toNat w := run_bound _ h0 (by omega)
    simp [Instr.sliceBounds, hx, this]
  · have : (Instr.sliceBound (.int k l) h.toNat .sliceB).run P w = .ok l.toNat w := run_bound _ h0 (by omega)
    simp [Instr.sliceBounds, hx, hy, run_bound _ hh0 hhc, this]

theorem sliceEv_ok {P : Program} {M M0 : Mem} {T : TypeId} {x : W} {lo hi mx : Option Operand} {out : Out} {ρ : Env} {w : World} {y : Value} {a : Act} {t : Tms} (h : sliceEv P M0 T x (oev t lo) (oev t hi) (oev t mx) = some out) (ho : ∀ b ∈ out.obs, b = true)
    (hMs : ∀ id b, M0 id = some b → M id = some b) (hM : MemOk P ρ M w) (hx : RW ρ x y) (hev : ∀ x v, ev t x = some v → RV ρ v (a.eval x)) :
    ∃ v r, out = ⟨some v, [], out.obs⟩ ∧ RV ρ v r ∧ (Instr.sliceAt T y (lo.map a.eval) (hi.map a.eval) (mx.map a.eval)).run P w = .ok r w := by
  have nomx : oev t mx = none → mx = none := fun h => by cases mx with | none => rfl | some _ => simp [oev] at h
  unfold sliceEv at h
  simp only [spot_eq] at h
  split at h
  · rename_i hu
    split at h
    · rename_i s hm
      have := nomx hm
      subst this
      split at h
      · rename_i l hh hl hhh
        simp only [outo, Option.some.injEq] at h
        subst h
        simp only [List.forall_mem_cons, decide_eq_true_eq] at ho
        simp only [RW, RC] at hx
        subst hx
        refine ⟨_, .string (cut s l hh), rfl, rfl, ?_⟩
        simp [Instr.sliceAt, run_underlying hu, Instr.slice, run_bounds false (Nat.le_refl _) hev hl hhh ho.1 ho.2.1 ho.2.2.2.1, cut]
      · cases h
    · cases h
  · rename_i n e hu
    split at h
    · rename_i id off hp hm
      have := nomx hm
      subst this
      split at h
      · rename_i l hh hl hhh
        cases hhT : hasT P e with
        | false => simp [hhT] at h
        | true =>
          simp only [hhT, cond_true, outo, Option.some.injEq] at h
          subst h
          simp only [List.forall_mem_cons, decide_eq_true_eq] at ho
          have hy := wPlace_ok hp hx
          subst hy
          obtain ⟨ie, hie⟩ := info_of_hasT hhT
          refine ⟨_, .slice (some (if n = l.toNat then ⟨ρ.b id, ρ.o id + off, none⟩ else ⟨ρ.b id, ρ.o id + off + l.toNat * P.cellsOf e, none⟩)) (hh.toNat - l.toNat) (n - l.toNat), rfl, ⟨_, _, rfl, by omega, fun hpos => ?_⟩, ?_⟩
          · rw [if_neg (by omega), Nat.add_assoc]
          · have hb := run_bounds (P := P) (w := w) false (Nat.le_refl n) hev hl hhh ho.1 ho.2.1 ho.2.2.2.1
            simp [Instr.sliceAt, run_underlying hu, Instr.sureAddr, hb, run_sizeOf' hie, add_at]
      · cases h
    · cases h
  · rename_i e hu
    split at h
    · rename_i c
      split at h
      · rename_i id off n hs
        obtain ⟨ad, cap, rfl, hnc, ha⟩ := C.slice_ok hs hMs hM hx
        split at h
        · rename_i hm
          have := nomx hm
          subst this
          split at h
          · rename_i l hh hl hhh
            cases hhT : hasT P e with
            | false => simp [hhT] at h
            | true =>
              simp only [hhT, cond_true, outo, Option.some.injEq] at h
              subst h
              simp only [List.forall_mem_cons, decide_eq_true_eq] at ho
              obtain ⟨ie, hie⟩ := info_of_hasT hhT
              have hb := run_bounds (P := P) (w := w) true hnc hev hl hhh ho.1 ho.2.1 ho.2.2.2.1
              refine ⟨_, .slice (if cap = l.toNat then ad else ad.map (·.add (l.toNat * P.cellsOf e))) (hh.toNat - l.toNat) (cap - l.toNat), rfl, ⟨_, _, rfl, by omega, fun hpos => ?_⟩, ?_⟩
              · rw [if_neg (by omega), ha (by omega)]
                simp [add_at, Nat.add_assoc]
              · simp [Instr.sliceAt, run_underlying hu, Instr.slice, hb, run_sizeOf' hie]
          · cases h
        · rename_i m hm
          split at h
          · cases h
          · rename_i hw hhi
            split at h
            · rename_i l hh m' hl hhh hmm
              cases hhT : hasT P e with
              | false => simp [hhT] at h
              | true =>
                simp only [hhT, cond_true, outo, Option.some.injEq] at h
                subst h
                simp only [List.forall_mem_cons, decide_eq_true_eq] at ho
                obtain ⟨ie, hie⟩ := info_of_hasT hhT
                obtain ⟨o1, o2, o3, o4, _⟩ := ho
                rw [← hm] at hmm
                rw [← hhi] at hhh
                have o5 : 0 ≤ m' := by omega
                have o6 : m' ≤ (cap : Int) := by omega
                have o7 : 0 ≤ hh := by omega
                have o8 : hh ≤ (m'.toNat : Int) := by omega
                have o9 : l ≤ (hh.toNat : Int) := by omega
                have hb : (Instr.sliceBounds true n cap (lo.map a.eval) (hi.map a.eval) (mx.map a.eval)).run P w = .ok (l.toNat, hh.toNat, m'.toNat) w := by
                  rcases lowOf_ok hev hmm with ⟨rfl, _⟩ | ⟨xm, km, rfl, hxm⟩
                  · simp [oev] at hm
                  rcases lowOf_ok hev hhh with ⟨rfl, _⟩ | ⟨xh, kh, rfl, hxh⟩
                  · simp [oev] at hhi
                  rcases lowOf_ok hev hl with ⟨rfl, rfl⟩ | ⟨xl, kl, rfl, hxl⟩
                  · simp [Instr.sliceBounds, hxm, hxh, run_bound _ o5 o6, run_bound _ o7 o8]
                  · simp [Instr.sliceBounds, hxm, hxh, hxl, run_bound _ o5 o6, run_bound _ o7 o8, run_bound _ o1 o9]
                refine ⟨_, .slice (if m'.toNat = l.toNat then ad else ad.map (·.add (l.toNat * P.cellsOf e))) (hh.toNat - l.toNat) (m'.toNat - l.toNat), rfl, ⟨_, _, rfl, by omega, fun hpos => ?_⟩, ?_⟩
                · rw [if_neg (by omega), ha (by omega)]
                  simp [add_at, Nat.add_assoc]
                · simp [Instr.sliceAt, run_underlying hu, Instr.slice, hb, run_sizeOf' hie]
            · cases h
      · cases h
    · cases h
  · cases h

end Sx

namespace Sx
open Go Go.RowKit

theorem intKindOf_ok {P : Program} {T : TypeId} {k : IntKind} (h : intKindOf P T = some k) : P.underlying T = some (.int k) := by
  unfold intKindOf at h
  split at h
  · simp at h; subst h; assumption
  · cases h

theorem forIn_bytes {P : Program} {w : World} (f : Value → ByteArray → Sem (ForInStep ByteArray)) (hf : ∀ n s, f (.int .u8 n) s = pure (ForInStep.yield (s.push (UInt8.ofNat n.toNat)))) : ∀ (l : List Int) (s : ByteArray),
    (forIn (l.map (Value.int .u8)) s f).run P w = .ok (⟨s.data ++ (l.map fun n => UInt8.ofNat n.toNat).toArray⟩ : ByteArray) w
  | [], s => by simp
  | n :: l, s => by
    simp only [List.map_cons, List.forIn_cons, Sem.run_bind, hf, Sem.run_pure, Result.andThen_ok]
    rw [forIn_bytes f hf l]
    congr 1
    apply ByteArray.ext
    simp [ByteArray.push]

theorem run_bytesToString {P : Program} {w : World} {b o n cap : Nat} {ad : Option Addr} {l : List Int} (hn : l.length = n) (ha : 0 < n → ad = some ⟨b, o, none⟩)
    (h : ∀ i v, (l.map (Value.int .u8))[i]? = some v → w.cell? ⟨b, o + i, none⟩ = some v) :
    (Conv.bytesToString (.slice ad n cap)).run P w = .ok (.string (strOf l)) w := by
  by_cases h0 : 0 < n
  · have := ha h0
    subst this
    have hl := run_loadCells_list (P := P) w ⟨b, o, none⟩ (l.map (Value.int .u8)) (fun j v hv => by rw [add_at]; exact h j v hv)
    rw [List.length_map, hn] at hl
    simp only [Conv.bytesToString, Sem.run_bind, hl, Result.andThen_ok]
    simp only [List.forIn_toArray]
    have e : (⟨ByteArray.empty.data ++ (l.map fun n => UInt8.ofNat n.toNat).toArray⟩ : ByteArray) = strOf l := by
      apply ByteArray.ext
      simp [strOf, ByteArray.empty, ByteArray.emptyWithCapacity]
      rfl
    rw [forIn_bytes _ (fun _ _ => rfl), e]
    simp
  · have h0 : n = 0 := by omega
    subst h0
    have : l = [] := List.eq_nil_of_length_eq_zero hn
    subst this
    cases ad with
    | none => simp [Conv.bytesToString, strOf]; rfl
    | some a => simp [Conv.bytesToString, loadCells, loadCellsFrom, strOf]; rfl

theorem K.Is.list {ρ : Env} {k : K} {read : Nat → Option Value} (h : k.Is ρ read) : ∃ vs : List Value, vs.length = k.len ∧ (∀ i v, vs[i]? = some v → read i = some v) ∧ k.Is ρ (fun i => vs[i]?) := by
  have hr : ∀ i, i < k.len → ∃ y, read i = some y := by
    intro i hi
    cases k with
    | cs l => obtain ⟨y, hy, _⟩ := h i _ (List.getElem?_eq_getElem hi); exact ⟨y, hy⟩
    | ints k l => exact ⟨_, h i hi⟩
    | strs l => exact ⟨_, h i hi⟩
  have hv : ∀ i v, ((List.range k.len).map fun i => (read i).getD .nilFunc)[i]? = some v → read i = some v := by
    intro i v hv
    rw [List.getElem?_map] at hv
    cases hri : (List.range k.len)[i]? with
    | none => simp [hri] at hv
    | some j =>
      simp [hri] at hv
      have hlt : i < (List.range k.len).length := (List.getElem?_eq_some_iff.1 hri).1
      simp at hlt
      have : j = i := by simpa using (List.getElem?_eq_some_iff.1 hri).2.symm
      subst this
      obtain ⟨y, hy⟩ := hr j hlt
      rw [hy] at hv ⊢
      simpa using hv
  refine ⟨(List.range k.len).map fun i => (read i).getD .nilFunc, by simp, hv, h.read fun i y hi hy => ?_⟩
  simp [hi, hy]

theorem K.ones_ok {ρ : Env} {k : K} {vs : List Value} (h : k.Is ρ (fun i => vs[i]?)) (hl : vs.length = k.len) (ho : k.ones = true) : ∀ v ∈ vs, v.oneCell' = true := by
  intro v hv
  obtain ⟨i, hi, rfl⟩ := List.getElem_of_mem hv
  have hiv : vs[i]? = some vs[i] := List.getElem?_eq_getElem hi
  cases k with
  | cs l =>
    simp only [K.len] at hl
    obtain ⟨y, hy, hc⟩ := h i _ (List.getElem?_eq_getElem (by omega))
    simp only at hy
    rw [hiv] at hy
    cases hy
    refine hc.oneCell ?_
    simp only [K.ones, List.all_eq_true] at ho
    exact ho _ (List.getElem_mem ..)
  | ints k l =>
    simp only [K.len] at hl
    have := h i (by omega)
    simp only at this
    rw [hiv] at this
    simp only [Option.some.injEq] at this
    rw [this]; rfl
  | strs l =>
    simp only [K.len] at hl
    have := h i (by omega)
    simp only at this
    rw [hiv] at this
    simp only [Option.some.injEq] at this
    rw [this]; rfl

theorem K.drops_ok {ρ : Env} {k k' : K} {read : Nat → Option Value} {off n : Nat} {o : List Bool} (h : k.Is ρ read) (hd : k.drops off n = some (k', o)) (ho : ∀ b ∈ o, b = true) :
    k'.len = n ∧ k'.Is ρ (fun i => read (off + i)) ∧ (∀ id ∈ k'.ids, id ∈ k.ids) := by
  cases k with
  | cs l =>
    simp only [K.drops, Option.some.injEq, Prod.mk.injEq] at hd
    obtain ⟨rfl, rfl⟩ := hd
    have hle : off + n ≤ l.length := by simpa using ho _ (List.mem_singleton.2 rfl)
    refine ⟨by simp [K.len]; omega, fun i c hc => ?_, ?_⟩
    · rw [List.getElem?_take] at hc
      split at hc
      · rw [List.getElem?_drop] at hc; exact h _ c hc
      · cases hc
    · intro id hid
      simp only [K.ids, List.mem_flatMap] at hid ⊢
      obtain ⟨c, hc, hid⟩ := hid
      exact ⟨c, List.mem_of_mem_drop (List.mem_of_mem_take hc), hid⟩
  | ints k l =>
    simp only [K.drops, Option.some.injEq, Prod.mk.injEq] at hd
    obtain ⟨rfl, rfl⟩ := hd
    have hle : off + n ≤ l.length := by simpa using ho _ (List.mem_singleton.2 rfl)
    refine ⟨by simp [K.len]; omega, fun i hi => ?_, by simp [K.ids]⟩
    simp only [List.length_take, List.length_drop] at hi
    simp only
    rw [h (off + i) (by omega)]
    simp only [List.getD, List.getElem?_take, List.getElem?_drop]
    rw [if_pos (by omega)]
  | strs l =>
    simp only [K.drops, Option.some.injEq, Prod.mk.injEq] at hd
    obtain ⟨rfl, rfl⟩ := hd
    have hle : off + n ≤ l.length := by simpa using ho _ (List.mem_singleton.2 rfl)
    refine ⟨by simp [K.len]; omega, fun i hi => ?_, by simp [K.ids]⟩
    simp only [List.length_take, List.length_drop] at hi
    simp only
    rw [h (off + i) (by omega)]
    simp only [List.getD, List.getElem?_take, List.getElem?_drop]
    rw [if_pos (by omega)]

theorem K.Is.congr_ints {ρ : Env} {k : IntKind} {l : List Int} {vs : List Value} (hl : vs.length = l.length) : K.Is ρ (.ints k l) (fun i => vs[i]?) ↔ vs = l.map (Value.int k) := by
  constructor
  · intro h
    apply List.ext_getElem?
    intro i
    by_cases hi : i < l.length
    · have := h i hi
      simp only at this
      rw [this]
      simp [List.getD, hi]
    · rw [List.getElem?_eq_none (by omega), List.getElem?_eq_none (by simpa using hi)]
  · rintro rfl
    exact K.Is.intl ρ k l

theorem K.Is.congr_strs {ρ : Env} {l : List ByteArray} {vs : List Value} (hl : vs.length = l.length) : K.Is ρ (.strs l) (fun i => vs[i]?) ↔ vs = l.map Value.string := by
  constructor
  · intro h
    apply List.ext_getElem?
    intro i
    by_cases hi : i < l.length
    · have := h i hi
      simp only at this
      rw [this]
      simp [List.getD, hi]
    · rw [List.getElem?_eq_none (by omega), List.getElem?_eq_none (by simpa using hi)]
  · rintro rfl
    intro i hi
    simp [List.getD, hi]

theorem K.Is.congr_cs {ρ : Env} {l : List C} {vs : List Value} (hl : vs.length = l.length) : K.Is ρ (.cs l) (fun i => vs[i]?) ↔ RL (RC ρ) l vs := by
  constructor
  · intro h
    refine RL.of_get _ _ hl.symm fun i a b ha hb => ?_
    obtain ⟨y, hy, hr⟩ := h i a ha
    simp only at hy
    rw [hb] at hy
    cases hy
    exact hr
  · intro h i c hc
    obtain ⟨b, hb, hr⟩ := h.get i c hc
    exact ⟨b, hb, hr⟩

theorem toInts_cs {ρ : Env} {k : IntKind} {l : List C} {r : List Int} {vs : List Value} (h : toInts k (l.map fun | .v x => x | _ => .nilFunc) = some r) (hl : RL (RC ρ) l vs) : vs = r.map (Value.int k) := by
  have h1 := toInts_ok _ _ h
  rw [← h1]
  have key : ∀ (l : List C) (vs : List Value) (r : List Int), (l.map fun | .v x => x | _ => .nilFunc) = r.map (Value.int k) → RL (RC ρ) l vs → vs = (l.map fun | .v x => x | _ => .nilFunc) := by
    intro l
    induction l with
    | nil => intro vs r _ h; cases h; rfl
    | cons c l ih =>
      intro vs r he h
      cases h with
      | cons hc hl =>
        cases r with
        | nil => simp at he
        | cons n r =>
          simp only [List.map_cons, List.cons.injEq] at he
          obtain ⟨he1, he2⟩ := he
          simp only [List.map_cons]
          rw [← ih _ _ he2 hl]
          congr 1
          cases c with
          | v x => exact hc
          | _ => simp at he1
  exact key l vs r h1 hl

theorem toInts_lit {ρ : Env} {k : IntKind} {l : List C} {r : List Int} {vs : List Value} (h : toInts k (l.map C.lit) = some r) (hl : RL (RC ρ) l vs) : vs = r.map (Value.int k) := by
  have h1 := toInts_ok _ _ h
  have key : ∀ (l : List C) (vs : List Value) (r : List Int), l.map C.lit = r.map (Value.int k) → RL (RC ρ) l vs → vs = r.map (Value.int k) := by
    intro l
    induction l with
    | nil => intro vs r he h; cases h; exact he
    | cons c l ih =>
      intro vs r he h
      cases h with
      | cons hc hl =>
        cases r with
        | nil => simp at he
        | cons n r =>
          simp only [List.map_cons, List.cons.injEq] at he
          obtain ⟨he1, he2⟩ := he
          simp only [List.map_cons]
          rw [← ih _ _ he2 hl, hc.lit he1 (by rintro ⟨⟩)]
  exact key l vs r h1 hl

theorem K.cat_ok {ρ : Env} {a b c : K} {us vs : List Value} (h : a.cat b = some c) (ha : a.Is ρ (fun i => us[i]?)) (hb : b.Is ρ (fun i => vs[i]?)) (hla : us.length = a.len) (hlb : vs.length = b.len) :
    c.Is ρ (fun i => (us ++ vs)[i]?) ∧ c.len = a.len + b.len ∧ (∀ id ∈ c.ids, id ∈ a.ids ∨ id ∈ b.ids) := by
  unfold K.cat at h
  split at h
  · rename_i l m
    simp at h; subst h
    refine ⟨(K.Is.congr_cs (by simp [K.len] at hla hlb ⊢; omega)).2 (((K.Is.congr_cs hla).1 ha).append ((K.Is.congr_cs hlb).1 hb)), by simp [K.len], ?_⟩
    intro id hid
    simp only [K.ids, List.flatMap_append, List.mem_append] at hid
    exact hid
  · rename_i k l k' m
    cases hk : kEq k k' with
    | false => simp [hk] at h
    | true =>
      simp [hk] at h; subst h
      have : k = k' := by simpa [kEq] using hk
      subst this
      refine ⟨(K.Is.congr_ints (by simp [K.len] at hla hlb ⊢; omega)).2 ?_, by simp [K.len], by simp [K.ids]⟩
      rw [(K.Is.congr_ints hla).1 ha, (K.Is.congr_ints hlb).1 hb, List.map_append]
  · rename_i k l m
    split at h
    · rename_i r hr
      simp at h; subst h
      have h2 := toInts_lit hr ((K.Is.congr_cs hlb).1 hb)
      have hlm : r.length = m.length := by simp [K.len] at hlb; rw [← hlb, h2]; simp
      refine ⟨(K.Is.congr_ints (by simp [K.len] at hla hlb ⊢; omega)).2 ?_, by simp [K.len, hlm], by simp [K.ids]⟩
      rw [(K.Is.congr_ints hla).1 ha, h2, List.map_append]
    · cases h
  · rename_i l m
    simp at h; subst h
    refine ⟨(K.Is.congr_strs (by simp [K.len] at hla hlb ⊢; omega)).2 ?_, by simp [K.len], by simp [K.ids]⟩
    rw [(K.Is.congr_strs hla).1 ha, (K.Is.congr_strs hlb).1 hb, List.map_append]
  · rename_i l s
    simp at h; subst h
    refine ⟨(K.Is.congr_strs (by simp [K.len] at hla hlb ⊢; omega)).2 ?_, by simp [K.len], by simp [K.ids]⟩
    have h2 := (K.Is.congr_cs hlb).1 hb
    cases h2 with
    | cons hc hn =>
      cases hn
      simp only [RC] at hc
      subst hc
      rw [(K.Is.congr_strs hla).1 ha, List.map_append]
      rfl
  · rename_i k m
    simp at h; subst h
    have : us = [] := List.eq_nil_of_length_eq_zero hla
    subst this
    exact ⟨by simpa using hb, by simp [K.len], by simp [K.ids]⟩
  · rename_i c l k m
    split at h
    · rename_i r hr
      simp at h; subst h
      have h2 := toInts_lit hr ((K.Is.congr_cs hla).1 ha)
      have hlm : r.length = (c :: l).length := by simp only [K.len] at hla; rw [← hla, h2]; simp
      refine ⟨(K.Is.congr_ints (by simp [K.len] at hla hlb hlm ⊢; omega)).2 ?_, by simp [K.len] at hlm ⊢; omega, by simp [K.ids]⟩
      rw [h2, (K.Is.congr_ints hlb).1 hb, List.map_append]
    · cases h
  · rename_i m
    simp at h; subst h
    have : us = [] := List.eq_nil_of_length_eq_zero hla
    subst this
    exact ⟨by simpa using hb, by simp [K.len], by simp [K.ids]⟩
  · cases h

theorem K.bytes_ok {ρ : Env} {k : K} {read : Nat → Option Value} {off n : Nat} {l : List Int} {o : List Bool} (h : k.Is ρ read) (hb : k.bytes off n = some (l, o)) (ho : ∀ b ∈ o, b = true) :
    l.length = n ∧ ∀ i v, (l.map (Value.int .u8))[i]? = some v → read (off + i) = some v := by
  unfold K.bytes at hb
  split at hb
  · rename_i l0
    simp only [Option.some.injEq, Prod.mk.injEq] at hb
    obtain ⟨rfl, rfl⟩ := hb
    have hd := K.drops_ok (k' := .ints .u8 ((l0.drop off).take n)) h rfl ho
    exact ⟨hd.1, hd.2.1.ints⟩
  · rename_i l0
    split at hb
    · rename_i r hr
      simp only [Option.some.injEq, Prod.mk.injEq] at hb
      obtain ⟨rfl, rfl⟩ := hb
      have hd := K.drops_ok (k' := .cs ((l0.drop off).take n)) h rfl ho
      obtain ⟨vs, hl, hv, hi⟩ := hd.2.1.list
      have h2 := toInts_lit hr ((K.Is.congr_cs hl).1 hi)
      refine ⟨?_, fun i v hiv => hv i v (by rw [h2]; exact hiv)⟩
      have := congrArg List.length h2
      simp at this
      rw [← this, hl, hd.1]
    · cases hb
  · cases hb

end Sx

namespace Sx
open Go Go.RowKit

def dropped (oid : Option Nat) : List (Nat × Option Blk) := match oid with | some id => [(id, none)] | none => []

theorem putM_drop (M : Mem) (oid : Option Nat) (base : Nat) (blk : Blk) (hne : ∀ id, oid = some id → id ≠ base) :
    putM M (dropped oid ++ [(base, some blk)]) = fun x => if x = base then some blk else if some x = oid then none else M x := by
  cases oid with
  | none => simp only [dropped, List.nil_append, putM_one]; funext x; by_cases h : x = base <;> simp [h]
  | some id =>
    have : putM M (dropped (some id) ++ [(base, some blk)]) = putM (putM M [(id, none)]) [(base, some blk)] := rfl
    rw [this, putM_one, putM_one]
    funext x
    by_cases h : x = base
    · simp [h]
    · by_cases h2 : x = id <;> simp [h, h2]

/-- a slice of the call's own, made or appended to; the old one is given up. -/
theorem Good.own {P : Program} {ρ : Env} {M : Mem} {base : Nat} {obs : List Bool} {w w' : World} {blk : Blk} {u : Value} {b : Nat} {oid : Option Nat} {n : Nat} (hM : MemOk P ρ M w) (hF : Fresh M base)
    (hmode : blk.mode = .own n) (hoid : ∀ id, oid = some id → ∃ bo, M id = some bo ∧ ∃ m, bo.mode = .own m) (hsz : w.heap.size ≤ w'.heap.size)
    (hold : ∀ k, k < w.heap.size → (∀ id, oid = some id → (ρ.val id).ownBlock ≠ some k) → w'.heap[k]? = w.heap[k]?) (hos : w'.os = w.os) (htp : w'.tape = w.tape) (hout : w'.output = w.output)
    (hone : u.oneCell' = true) (hb : BlkRel P (ρ.set base b u) base blk w')
    (hblk : u.ownBlock ≠ none → w.heap.size ≤ b ∨ ∃ id, oid = some id ∧ (ρ.val id).ownBlock = some b) :
    Good P ρ (ρ.set base b u) M base ⟨some (.w (.c (.own base))), dropped oid ++ [(base, some blk)], obs⟩ w w' u := by
  have hbR : inR base base := ⟨Nat.le_refl _, by omega⟩
  have hne : ∀ id b, M id = some b → id ≠ base := fun id b h e => hF.dom id b h (e ▸ hbR)
  have hoidb : ∀ id, oid = some id → id ≠ base := fun id h => by obtain ⟨bo, h', _⟩ := hoid id h; exact hne id bo h'
  have hob : ∀ id g, oid = some id → (ρ.val id).ownBlock = some g → g = ρ.b id ∧ ∃ bo, M id = some bo ∧ live ρ id bo := by
    intro id g h hg
    obtain ⟨bo, hbo, m, hm⟩ := hoid id h
    have hr := hM.rel id bo hbo
    unfold BlkRel at hr
    simp only [hm] at hr
    exact ⟨hr.2.1 g hg, bo, hbo, by unfold live; simp only [hm]; rw [hg]; simp⟩
  have hputM := putM_drop M oid base blk hoidb
  -- an old block that is not given up
  have hkeep : ∀ id bi, M id = some bi → some id ≠ oid → bi.in ρ id → w'.heap[ρ.b id]? = w.heap[ρ.b id]? := by
    intro id bi hid hno hin
    refine hold _ ((hM.rel id bi hid).lt hin) fun j hj he => ?_
    obtain ⟨e, bo, hbo, hlive⟩ := hob j _ hj he
    exact hM.inj j id bo bi hbo hid hlive hin (fun h => hno (by rw [← h, hj])) e.symm
  have hnewne : ∀ id bi, M id = some bi → some id ≠ oid → bi.in ρ id → u.ownBlock ≠ none → ρ.b id ≠ b := by
    intro id bi hid hno hin hu e
    rcases hblk hu with h | ⟨j, hj, hg⟩
    · have := (hM.rel id bi hid).lt hin; omega
    · obtain ⟨e', bo, hbo, hlive⟩ := hob j _ hj hg
      exact hM.inj j id bo bi hbo hid hlive hin (fun h => hno (by rw [← h, hj])) (by rw [← e', ← e])
  have hul : live (ρ.set base b u) base blk → u.ownBlock ≠ none := by
    unfold live; simp only [hmode]; simp [Env.set]
  refine ⟨?_, fun id hid => Env.set_same (fun e => hid (e ▸ hbR)), ⟨?_, ?_⟩, ⟨hos, htp, hout, hsz, fun k hk hn => hold k hk fun id hid he => ?_⟩, ?_⟩
  · rintro v' ⟨⟩
    exact ⟨by simp [Env.set], hone⟩
  · intro id bi h
    rw [hputM] at h
    simp only at h
    by_cases he : id = base
    · subst he; simp at h; subst h; exact hb
    · simp only [he, if_false] at h
      split at h
      · cases h
      · rename_i hno
        exact (((hM.rel id bi h).keep (hkeep id bi h hno) hsz).env (Env.set_same he) fun j hj => Env.set_same (fun e => hF.ids id bi h j hj (e ▸ hbR)))
  · intro i j bi bj hi hj hl hl' hij
    rw [hputM] at hi hj
    simp only at hi hj
    by_cases hi0 : i = base
    · subst hi0
      simp at hi
      subst hi
      have hj0 : j ≠ i := fun e => hij e.symm
      simp only [hj0, if_false] at hj
      split at hj
      · cases hj
      · rename_i hno
        have hlj : bj.in ρ j := by
          rcases hl' with h' | h'
          · exact .inl ((live_env (Env.set_same hj0)).1 h')
          · exact .inr h'
        have := hnewne j bj hj hno hlj (hul hl)
        simpa [Env.set, hj0] using this.symm
    · simp only [hi0, if_false] at hi
      split at hi
      · cases hi
      · rename_i hnoi
        have hli : live ρ i bi := (live_env (Env.set_same hi0)).1 hl
        by_cases hj0 : j = base
        · subst hj0
          simp at hj
          subst hj
          have hlb : live (ρ.set j b u) j blk := by
            rcases hl' with h' | ⟨h', _⟩
            · exact h'
            · unfold Blk.ro at h'; simp only [hmode] at h'
          have := hnewne i bi hi hnoi (.inl hli) (hul hlb)
          simpa [Env.set, hi0] using this
        · simp only [hj0, if_false] at hj
          split at hj
          · cases hj
          · have := hM.inj i j bi bj hi hj hli (hl'.imp (live_env (Env.set_same hj0)).1 id) hij
            simpa [Env.set, hi0, hj0] using this
  · obtain ⟨e, bo, hbo, hlive⟩ := hob id _ hid he
    exact hn ⟨id, bo, hbo, hlive, e.symm⟩
  · intro id bi h hl
    rw [hputM] at h
    simp only at h
    by_cases he : id = base
    · subst he
      simp at h
      subst h
      rcases hblk (hul hl) with h | ⟨j, hj, hg⟩
      · left; simpa [Env.set] using h
      · obtain ⟨e, bo, hbo, hlive⟩ := hob j _ hj hg
        exact .inr ⟨j, bo, hbo, hlive, by simp [Env.set, e]⟩
    · simp only [he, if_false] at h
      split at h
      · cases h
      · exact .inr ⟨id, bi, h, (live_env (Env.set_same he)).1 hl, by simp [Env.set, he]⟩

/-- what an append comes to. -/
theorem run_append {P : Program} {w : World} {t ty e : TypeId} {i : TypeInfo} {z : Value} (ht : P.underlying t = some (.slice e)) (hi : P.info? e = some i) (hz : i.zero = some z)
    (hzs : z.cells.size = i.size) (hpos : 0 < i.size) {v : Value} {n : Nat} {xs : List Value} (hown : w.ownsRow 0 e i.size v n xs)
    {ad : Option Addr} {m c : Nat} {news : List Value} (hl : news.length = m * i.size) (had : 0 < m → ∃ a, ad = some a ∧ ∀ (j : Nat) u, news[j]? = some u → w.cell? (a.add j) = some u) (h1 : ∀ u ∈ news, u.oneCell' = true)
    (h63 : n + m ≤ 1099511627776) (hbytes : (n + m) * i.bytes ≤ 1099511627776) :
    ∃ v' w', (Builtin.append_ #[t, t] ty #[v, .slice ad m c]).run P w = .ok v' w' ∧ w'.ownsRow 0 e i.size v' (n + m) (xs ++ news) ∧ v'.oneCell' = true ∧ w.heap.size ≤ w'.heap.size ∧
      (∀ k, k < w.heap.size → v.ownBlock ≠ some k → w'.heap[k]? = w.heap[k]?) ∧ w'.os = w.os ∧ w'.tape = w.tape ∧ w'.output = w.output ∧
      (∀ g, v'.ownBlock = some g → v.ownBlock = some g ∨ w.heap.size ≤ g) := by
  by_cases hm : m = 0
  · subst hm
    have hn : news = [] := List.eq_nil_of_length_eq_zero (by simpa using hl)
    subst hn
    have hsl : ∃ b cap, v = .slice b n cap ∧ n ≤ cap := by
      rcases hown.2 with ⟨rfl, rfl⟩ | ⟨g, cap, cur, rfl, _, _, hnc, _⟩
      · exact ⟨none, 0, rfl, Nat.le_refl _⟩
      · exact ⟨_, cap, rfl, hnc⟩
    obtain ⟨b, cap, rfl, hnc⟩ := hsl
    refine ⟨.slice b n cap, w, ?_, by simpa using hown, rfl, Nat.le_refl _, fun _ _ _ => rfl, rfl, rfl, rfl, fun g hg => .inl hg⟩
    cases ad with
    | none => cases b <;> simp [Builtin.append_, run_underlying ht, Go.sizeOf, typeInfo, hi, Builtin.lenOf, hnc, Builtin.firstCells, storeCells]
    | some a => cases b <;> simp [Builtin.append_, run_underlying ht, Go.sizeOf, typeInfo, hi, Builtin.lenOf, hnc, Builtin.firstCells, storeCells, loadCells, loadCellsFrom]
  · obtain ⟨a, rfl, hnews⟩ := had (by omega)
    have hmax : ∀ old, grownCap w (n + m) old e ≤ maxLen := fun old => grownCap_le_maxLen w (n + m) old e (by unfold maxLen; omega)
    have hlen : (xs ++ news).length = (n + m) * i.size := by rw [List.length_append, hown.1, hl, Nat.add_mul]
    have made : ∀ old, ∀ olds : List Value, olds = xs → (w.drew.alloc (.cells (olds.toArray ++ news.toArray ++ Builtin.zeroCells z.cells (grownCap w (n + m) old e - (n + m))) e)).ownsRow 0 e i.size
        (.slice (some ⟨w.heap.size, 0, none⟩) (n + m) (grownCap w (n + m) old e)) (n + m) (xs ++ news) := by
      rintro old olds rfl
      have hge := grownCap_ge w (n + m) old e
      refine ⟨hlen, .inr ⟨w.heap.size, _, _, rfl, Nat.zero_le _, heap_alloc_new w.drew _, hge, hmax old, ?_, ?_⟩⟩
      · simp only [Array.size_append, List.size_toArray, size_zeroCells, hzs, hown.1, hl, ← Nat.add_mul]
        congr 1
        omega
      · simp only [Array.toList_append, List.append_assoc]
        rw [← List.append_assoc, ← hlen]
        exact List.take_left
    rcases hown.2 with ⟨rfl, rfl⟩ | ⟨g, cap, cur, rfl, _, hg, hnc, hcm, hcs, htake⟩
    · have hx : xs = [] := List.eq_nil_of_length_eq_zero (by simpa using hown.1)
      subst hx
      have hr := run_append_nil (P := P) w t ty e i z ht hi hz a m c news hl hnews (by omega) (by omega) (by rw [Nat.zero_add] at hbytes; omega)
      have hmd := made 0 [] rfl
      simp only [Nat.zero_add, List.nil_append, Array.empty_append] at hmd ⊢
      exact ⟨_, _, hr, hmd, rfl, by simp, fun k hk _ => Below.heap_alloc w.drew _ k hk, rfl, rfl, rfl, fun g hg => .inr (by simp [Value.ownBlock] at hg; omega)⟩
    · by_cases hroom : n + m ≤ cap
      · have hfit : n * i.size + news.length ≤ cur.size := by rw [hl, hcs, ← Nat.add_mul]; exact Nat.mul_le_mul_right _ hroom
        have hr := run_append_room (P := P) w t ty e i ht hi g n cap cur hg a m c news hl hnews h1 hroom hfit
        refine ⟨_, _, hr, ⟨hlen, .inr ⟨g, cap, _, rfl, Nat.zero_le _, setRow_heap w g cur _ e _ hg, hroom, hcm, ?_, ?_⟩⟩, rfl, by simp, fun k _ hk => setRow_other w g k _ (fun e => hk (by simp [Value.ownBlock, e])), rfl, rfl, rfl, fun g' hg' => .inl hg'⟩
        · simp only [List.size_toArray, List.length_append, List.length_take, List.length_drop, Array.length_toList]
          omega
        · rw [htake, ← hlen]
          exact List.take_left
      · have holds : ∀ (j : Nat) u, xs[j]? = some u → w.cell? ((⟨g, 0, none⟩ : Addr).add j) = some u := hown.cells (g := g) rfl
        have hr := run_append_grow (P := P) w t ty e i z ht hi hz ⟨g, 0, none⟩ n cap xs hown.1 holds a m c news hl hnews (by omega) (by omega) (growslice_fits (by omega) (by omega))
        have hmd := made cap xs rfl
        exact ⟨_, _, hr, hmd, rfl, by simp, fun k hk _ => Below.heap_alloc w.drew _ k hk, rfl, rfl, rfl, fun g hg => .inr (by simp [Value.ownBlock] at hg; omega)⟩

theorem startK_ok (P : Program) (e : TypeId) (ρ : Env) : (startK P e).len = 0 ∧ (startK P e).Is ρ (fun i => ([] : List Value)[i]?) ∧ (startK P e).ids = [] := by
  unfold startK
  split
  · exact ⟨rfl, fun i hi => by simp at hi, rfl⟩
  · exact ⟨rfl, fun i hi => by simp at hi, rfl⟩
  · split
    · exact ⟨rfl, fun i hi => by simp at hi, rfl⟩
    · exact ⟨rfl, fun i c hc => by simp at hc, rfl⟩
  · exact ⟨rfl, fun i c hc => by simp at hc, rfl⟩

theorem zok_ok {P : Program} {e : TypeId} (h : zok P e = true) : ∃ i z, P.info? e = some i ∧ i.zero = some z ∧ z.cells.size = i.size := by
  unfold zok zeroOf at h
  cases hi : P.info? e with
  | none => simp [hi] at h
  | some i =>
    simp only [hi] at h
    cases hz : i.zero with
    | none => simp [hz] at h
    | some z =>
      simp only [hz] at h
      refine ⟨i, z, rfl, hz, ?_⟩
      have : z.cells.toList.length = P.cellsOf e := by simpa using h
      simpa [Program.cellsOf, hi] using this

theorem appendEv_ok {P : Program} {M M0 : Mem} {T T' ty : TypeId} {s x : W} {out : Out} {ρ : Env} {w : World} {base : Nat} {y z : Value} (h : appendEv P M0 base T T' s x = some out) (ho : ∀ b ∈ out.obs, b = true)
    (hMs : ∀ id b, M0 id = some b → M id = some b) (hM : MemOk P ρ M w) (hF : Fresh M base) (hs : RW ρ s y) (hx : RW ρ x z) :
    ∃ r w' ρ', (Builtin.append_ #[T, T'] ty #[y, z]).run P w = .ok r w' ∧ Good P ρ ρ' M base out w w' r := by
  unfold appendEv at h
  split at h
  · rename_i s e he
    split at h
    · rename_i q hto
      cases hb : (Nat.beq T T' && hasT P e) with
      | false => simp [hb] at h
      | true =>
        simp only [hb, cond_true, Option.some.injEq] at h
        subst h
        simp only [Bool.and_eq_true, Nat.beq_eq] at hb
        obtain ⟨rfl, hh⟩ := hb
        obtain ⟨i, hi⟩ := info_of_hasT hh
        have hz : z = .slice none 0 0 := hx
        subst hz
        have hform : ∃ b sl sc, y = .slice b sl sc ∧ sl ≤ sc := by
          unfold appTo at hto
          split at hto
          · rename_i id
            split at hto
            · rename_i e' n' k0 hid
              have hr := hM.rel id _ (hMs _ _ hid)
              simp only [BlkRel] at hr
              obtain ⟨_, _, xs, hxs, _, _⟩ := hr
              have hyv : y = ρ.val id := hs.1
              rcases hxs.2 with ⟨hv, _⟩ | ⟨g, cap, cur, hv, _, _, hcap, _⟩
              · exact ⟨none, 0, 0, hyv.trans hv, Nat.le_refl _⟩
              · exact ⟨_, _, _, hyv.trans hv, hcap⟩
            · cases hto
          · simp only [RW, RC] at hs
            exact ⟨none, 0, 0, hs, Nat.le_refl _⟩
          · cases hto
        obtain ⟨b, sl, sc, rfl, hle⟩ := hform
        refine ⟨.slice b sl sc, w, ρ, ?_, Good.same hM (by rintro _ ⟨⟩; exact hs) rfl rfl rfl rfl⟩
        cases b <;> simp [Builtin.append_, run_underlying (elemOfSlice_ok he), Go.sizeOf, typeInfo, hi, Builtin.lenOf, Builtin.firstCells, hle, storeCells]
    · cases h
  · rename_i s x e _ he
    split at h
    · rename_i oid n k id' off' m hto hsl
      split at h
      · rename_i blk' hblk'
        split at h
        · rename_i k' o hdr
          split at h
          · rename_i k'' hcat
            cases hb : (Nat.beq T T' && Nat.blt 0 (P.cellsOf e) && zok P e && k'.ones) with
            | false => simp [hb] at h
            | true =>
              simp only [hb, cond_true, Option.some.injEq] at h
              subst h
              simp only [Bool.and_eq_true, Nat.blt_eq] at hb
              obtain ⟨⟨⟨hT, hpos⟩, hzk⟩, hones⟩ := hb
              have hT : T = T' := by simpa using hT
              subst hT
              obtain ⟨i, zv, hi, hz, hzs⟩ := zok_ok hzk
              have hcell : P.cellsOf e = i.size := by simp [Program.cellsOf, hi]
              have hby : P.bytesOf e = i.bytes := by simp [Program.bytesOf, hi]
              have o1 : (n + m) * i.bytes ≤ 1099511627776 := by have := ho _ (List.mem_cons_self ..); rw [hby] at this; simpa using this
              have o2 : n + m ≤ 1099511627776 := by have := ho _ (List.mem_cons_of_mem _ (List.mem_cons_self ..)); simpa using this
              have o3 : ∀ b ∈ o, b = true := fun b hb => ho b (List.mem_cons_of_mem _ (List.mem_cons_of_mem _ hb))
              obtain ⟨ad, cap, rfl, hnc, had⟩ := C.slice_ok hsl hMs hM hx
              have hrel' := hM.rel id' blk' (hMs _ _ hblk')
              obtain ⟨hk'len, hk'is, hk'ids⟩ := K.drops_ok hrel'.cells hdr o3
              obtain ⟨news, hnl, hnr, hnis⟩ := hk'is.list
              have honews := K.ones_ok hnis hnl hones
              -- the old slice
              have hold : ∃ xs, w.ownsRow 0 e i.size y n xs ∧ xs.length = k.len ∧ k.Is ρ (fun i => xs[i]?) ∧ (∀ id, oid = some id → M id = some ⟨e, .own n, k⟩ ∧ y = ρ.val id) ∧ (oid = none → y = .slice none 0 0 ∧ k.ids = []) := by
                unfold appTo at hto
                split at hto
                · rename_i id
                  split at hto
                  · rename_i e' n' k0 hid
                    cases hee : Nat.beq e e' with
                    | false => simp [hee] at hto
                    | true =>
                      simp only [hee, cond_true, Option.some.injEq, Prod.mk.injEq] at hto
                      obtain ⟨rfl, rfl, rfl⟩ := hto
                      have hee : e = e' := by simpa using hee
                      subst hee
                      have hr := hM.rel id _ (hMs _ _ hid)
                      simp only [BlkRel] at hr
                      obtain ⟨_, _, xs, hxs, hxl, hxi⟩ := hr
                      have hyv : y = ρ.val id := hs.1
                      refine ⟨xs, by rw [hyv, ← hcell]; exact hxs, hxl, hxi, ?_, by simp⟩
                      rintro _ ⟨⟩
                      exact ⟨hMs _ _ hid, hyv⟩
                  · cases hto
                · simp only [Option.some.injEq, Prod.mk.injEq] at hto
                  obtain ⟨rfl, rfl, rfl⟩ := hto
                  simp only [RW, RC] at hs
                  subst hs
                  obtain ⟨h1, h2, h3⟩ := startK_ok P e ρ
                  exact ⟨[], World.ownsRow_nil w 0 e i.size, h1.symm, h2, by simp, fun _ => ⟨rfl, h3⟩⟩
                · cases hto
              obtain ⟨xs, hown, hxl, hxi, hoidM, hnone⟩ := hold
              obtain ⟨v', w', hrun, hown', hone, hsz, hkeep, hos, htp, hout, hg⟩ := run_append (ty := ty) (c := cap) (ad := ad) (m := m) (elemOfSlice_ok he) hi hz hzs (by omega) hown
                (news := news) (by rw [hnl, hk'len, hcell]) (fun hm => by
                  refine ⟨_, had hm, fun j u hju => ?_⟩
                  have := hnr j u hju
                  rw [add_at, Nat.add_assoc]
                  exact this) honews o2 o1
              obtain ⟨hcis, hclen, hcids⟩ := K.cat_ok hcat hxi hnis hxl hnl
              have hbR : inR base base := ⟨Nat.le_refl _, by omega⟩
              refine ⟨v', w', ρ.set base ((v'.ownBlock).getD 0) v', hrun, Good.own (n := n + m) hM hF rfl ?_ hsz ?_ hos htp hout hone ?_ ?_⟩
              · intro id hid
                exact ⟨_, (hoidM id hid).1, n, rfl⟩
              · intro k0 hk0 hno
                refine hkeep k0 hk0 ?_
                cases oid with
                | none => rw [(hnone rfl).1]; simp [Value.ownBlock]
                | some id => rw [(hoidM id rfl).2]; exact hno id rfl
              · unfold BlkRel
                simp only
                refine ⟨by simp [Env.set], fun g hg' => by simp [Env.set] at hg' ⊢; rw [hg']; rfl, xs ++ news, by simp [Env.set, hcell]; exact hown', by simp; omega, hcis.env fun id hid => ?_⟩
                refine Env.set_same fun e' => ?_
                subst e'
                rcases hcids id hid with h' | h'
                · cases oid with
                  | none => rw [(hnone rfl).2] at h'; cases h'
                  | some j => exact hF.ids j _ (hoidM j rfl).1 id h' hbR
                · exact hF.ids id' blk' (hMs _ _ hblk') id (hk'ids id h') hbR
              · intro hne
                cases hob : v'.ownBlock with
                | none => exact absurd hob hne
                | some g =>
                  simp only [Option.getD_some]
                  rcases hg g hob with h' | h'
                  · cases oid with
                    | none => rw [(hnone rfl).1] at h'; simp [Value.ownBlock] at h'
                    | some id => exact .inr ⟨id, rfl, by rw [← (hoidM id rfl).2]; exact h'⟩
                  · exact .inl h'
          · cases h
        · cases h
      · cases h
    · cases h
  · cases h

end Sx

namespace Sx
open Go Go.RowKit

theorem fillC_len (place : Nat → Option (Nat × Nat)) : ∀ (ps : List (Nat × W)) (cells l : List C), fillC place cells ps = some l → l.length = cells.length
  | [], cells, l, h => by simp [fillC] at h; subst h; rfl
  | (i, v) :: rest, cells, l, h => by
    simp only [fillC] at h
    cases hp : place i with
    | none => simp [hp] at h
    | some q =>
      obtain ⟨off, size⟩ := q
      simp only [hp] at h
      cases hb : (Nat.beq v.cells.length size && Nat.ble (off + size) cells.length && v.flat) with
      | false => simp [hb] at h
      | true =>
        simp only [hb, cond_true] at h
        simp only [Bool.and_eq_true, Nat.ble_eq, Nat.beq_eq] at hb
        rw [fillC_len place rest _ l h]
        simp only [List.length_append, List.length_take, List.length_drop]
        omega

theorem kOfC_ok {ρ : Env} {l : List C} {vs : List Value} (h : K.Is ρ (.cs l) (fun i => vs[i]?)) (hl : vs.length = (K.cs l).len) : (kOfC l).Is ρ (fun i => vs[i]?) ∧ (kOfC l).len = (K.cs l).len ∧ ∀ id ∈ (kOfC l).ids, id ∈ (K.cs l).ids := by
  unfold kOfC
  split
  · rename_i k x r
    split
    · rename_i m hm
      have h2 := toInts_cs hm ((K.Is.congr_cs hl).1 h)
      have hlm : m.length = vs.length := by rw [h2]; simp
      exact ⟨(K.Is.congr_ints hlm.symm).2 h2, by rw [← hl]; exact hlm, by simp [K.ids]⟩
    · exact ⟨h, rfl, fun _ h => h⟩
  · exact ⟨h, rfl, fun _ h => h⟩

theorem rl_intsA {k : IntKind} {ρ : Env} : ∀ {l : List Int} {cs : List Value}, RL (RC ρ) (l.map (C.int k)) cs → cs = l.map (Value.int k)
  | [], cs, h => by cases h; rfl
  | a :: l, cs, h => by
    cases h with
    | cons h1 h2 =>
      have h1' : _ = Value.int k a := h1
      rw [h1', rl_intsA h2]; rfl
theorem buildSlice_good {P : Program} {M : Mem} {T : TypeId} {n : Nat} {ps : List (Nat × W)} {ρ : Env} {w : World} {base : Nat} {vs : List (Nat × Value)} {e : TypeId} {ie : TypeInfo} {z : Value} {l : List C} {Kk : K} {obs : List Bool} (he : elemOfSlice P T = some e) (hi : P.info? e = some ie) (hz : ie.zero = some z)
    (hb : n * ie.size ≤ 16777216 ∧ 0 < n * ie.size) (hfl : fillC (fun i => some (i * ie.size, ie.size)) (zeros z.cells (n * ie.size)) ps = some l) (hkk : ∀ us : List Value, K.Is ρ (.cs l) (fun i => us[i]?) → us.length = (K.cs l).len → Kk.Is ρ (fun i => us[i]?) ∧ Kk.len = (K.cs l).len ∧ ∀ id ∈ Kk.ids, id ∈ (K.cs l).ids)
    (hM : MemOk P ρ M w) (hF : Fresh M base) (hp : RL (fun p q => p.1 = q.1 ∧ RW ρ p.2 q.2) ps vs) (hfr : ∀ q ∈ ps, ∀ id ∈ q.2.ids, ¬ inR base id) :
    ∃ r w' ρ', (Instr.buildSlice T n vs.toArray).run P w = .ok r w' ∧ Good P ρ ρ' M base ⟨some (.w (.c (.own base))), [(base, some ⟨e, .own n, Kk⟩)], obs⟩ w w' r := by
  obtain ⟨a, ha, hr⟩ := fill_ok _ ps vs _ l _ (zeros_ok ρ z.cells (n * ie.size)) hp hfl
  have hrun := run_buildSlice w T e n vs.toArray a ie z (elemOfSlice_ok he) hi hz (by omega) (by omega) (by simpa using ha)
  have hal : a.toList.length = n * ie.size := by
    have h1 := hr.length
    have h2 := fillC_len _ ps _ l hfl
    simp [zeros] at h2
    omega
  have hK : K.Is ρ (.cs l) (fun i => a.toList[i]?) := by
    intro i c hc
    obtain ⟨b, hb, hr⟩ := hr.get i c hc
    exact ⟨b, hb, hr⟩
  obtain ⟨k1, k2, k3⟩ := hkk _ hK (by simp [K.len, hr.length])
  have hpos : 0 < n := Nat.pos_of_ne_zero (by rintro rfl; simp at hb)
  have hie : P.cellsOf e = ie.size := by simp [Program.cellsOf, hi]
  have hn : n ≤ 16777216 := by
    have := Nat.le_mul_of_pos_right n (show 0 < ie.size from Nat.pos_of_ne_zero (by rintro h0; rw [h0] at hb; simp at hb))
    omega
  refine ⟨_, _, ρ.set base w.heap.size (.slice (some ⟨w.heap.size, 0, none⟩) n n), hrun,
    Good.own (oid := none) (n := n) hM hF rfl (by simp) (by simp) (fun k hk _ => Below.heap_alloc w _ k hk) rfl rfl rfl rfl ?_ (fun _ => .inl (Nat.le_refl _))⟩
  unfold BlkRel
  simp only
  refine ⟨by simp [Env.set], by simp [Env.set, Value.ownBlock], a.toList, ?_, by rw [k2]; simp [K.len, hr.length], K.Is.env (ρ := ρ) k1 fun id hid => ?_⟩
  · simp only [Env.set, if_true, hie]
    refine ⟨hal, .inr ⟨w.heap.size, n, a, rfl, Nat.zero_le _, heap_alloc_new w _, Nat.le_refl _, by unfold maxLen; omega, by simpa using hal, ?_⟩⟩
    rw [← hal, List.take_length]
  · have := C.ids_flat (fillC_ids _ (fun id => ¬ inR base id) ps _ l (by
        intro c hc id hid
        simp only [zeros, List.mem_map] at hc
        obtain ⟨_, _, rfl⟩ := hc
        simp [C.ids] at hid) hfr hfl) id (k3 id hid)
    exact Env.set_same fun e => this (e ▸ ⟨Nat.le_refl _, by omega⟩)


theorem buildSliceEv_ok {P : Program} {M : Mem} {T : TypeId} {n : Nat} {ps : List (Nat × W)} {out : Out} {ρ : Env} {w : World} {base : Nat} {vs : List (Nat × Value)} (h : buildSliceEv P base T n ps = some out) (ho : ∀ b ∈ out.obs, b = true)
    (hM : MemOk P ρ M w) (hF : Fresh M base) (hp : RL (fun p q => p.1 = q.1 ∧ RW ρ p.2 q.2) ps vs) (hfr : ∀ q ∈ ps, ∀ id ∈ q.2.ids, ¬ inR base id) :
    ∃ r w' ρ', (Instr.buildSlice T n vs.toArray).run P w = .ok r w' ∧ Good P ρ ρ' M base out w w' r := by
  unfold buildSliceEv at h
  cases he : elemOfSlice P T with
  | none => simp [he] at h
  | some e =>
    simp only [he] at h
    cases hi : P.info? e with
    | none => simp [hi] at h
    | some ie =>
      simp only [hi] at h
      cases hz : ie.zero with
      | none => simp [hz] at h
      | some z =>
        simp only [hz] at h
        cases hb : (Nat.ble (n * ie.size) 16777216 && Nat.blt 0 (n * ie.size)) with
        | false => simp [hb] at h
        | true =>
          simp only [hb, cond_true] at h
          simp only [Bool.and_eq_true, Nat.ble_eq, Nat.blt_eq] at hb
          split at h
          · rename_i k l hone
            simp only [Option.some.injEq] at h
            subst h
            have hl : l.length = ie.size := by simpa using ho _ (List.mem_singleton.2 rfl)
            obtain ⟨rfl, rfl⟩ : ps = [(0, .ints k l)] ∧ n = 1 := by
              unfold oneRow at hone
              split at hone
              · cases hone; exact ⟨rfl, rfl⟩
              · cases hone
            have hzl : (zeros z.cells (1 * ie.size)).length = ie.size := by simp [zeros]
            have hfl : fillC (fun i => some (i * ie.size, ie.size)) (zeros z.cells (1 * ie.size)) [(0, .ints k l)] = some (l.map (C.int k)) := by
              simp only [fillC, W.cells, List.length_map, hl, W.flat, Bool.and_true, Nat.zero_mul, Nat.zero_add, hzl]
              simp only [Nat.beq_refl, Nat.ble_self_eq_true, Bool.and_self, cond_true, List.take_zero, List.nil_append, Option.some.injEq]
              rw [List.drop_of_length_le (by omega), List.append_nil]
            refine buildSlice_good he hi hz hb hfl (fun us hK hul => ?_) hM hF hp hfr
            have hul' : us.length = l.length := by simpa [K.len] using hul
            refine ⟨(K.Is.congr_ints hul').2 ?_, by simp [K.len], by simp [K.ids]⟩
            have := (K.Is.congr_cs (by simpa using hul')).1 hK
            exact rl_intsA this
          · cases hfl : fillC (fun i => some (i * ie.size, ie.size)) (zeros z.cells (n * ie.size)) ps with
            | none => simp [hfl] at h
            | some l =>
              simp only [hfl, Option.some.injEq] at h
              subst h
              exact buildSlice_good he hi hz hb hfl (fun us hK hl => kOfC_ok hK hl) hM hF hp hfr

theorem makeSliceEv_ok {P : Program} {M : Mem} {T : TypeId} {l c : W} {out : Out} {ρ : Env} {w : World} {base : Nat} {y z : Value} (h : makeSliceEv P base T l c = some out) (ho : ∀ b ∈ out.obs, b = true)
    (hM : MemOk P ρ M w) (hF : Fresh M base) (hl : RW ρ l y) (hc : RW ρ c z) :
    ∃ r w' ρ', (Instr.makeSlice T y z).run P w = .ok r w' ∧ Good P ρ ρ' M base out w w' r := by
  unfold makeSliceEv at h
  split at h
  · rename_i k1 l k2 c
    simp only [RW, RC] at hl hc
    subst hl; subst hc
    split at h
    · rename_i e he
      split at h
      · rename_i k z0 hz0
        cases hb : (Nat.beq (P.cellsOf e) 1 && Nat.ble (P.bytesOf e) 16) with
        | false => simp [hb] at h
        | true =>
          simp only [hb, cond_true, Option.some.injEq] at h
          subst h
          simp only [Bool.and_eq_true, Nat.ble_eq] at hb
          obtain ⟨hc1, hby⟩ := hb
          have hc1 : P.cellsOf e = 1 := by simpa using hc1
          simp only [List.forall_mem_cons, decide_eq_true_eq] at ho
          obtain ⟨o1, o2, o3, _⟩ := ho
          unfold zeroOf at hz0
          cases hi : P.info? e with
          | none => simp [hi] at hz0
          | some ie =>
            simp only [hi] at hz0
            cases hz : ie.zero with
            | none => simp [hz] at hz0
            | some zv =>
              simp only [hz, Option.some.injEq] at hz0
              have hsz : ie.size = 1 := by simpa [Program.cellsOf, hi] using hc1
              have hby' : ie.bytes ≤ 16 := by simpa [Program.bytesOf, hi] using hby
              have hzc : zv.cells = #[.int k z0] := by
                apply Array.ext'
                simpa using hz0
              have hbc : (ie.bytes : Int) * c ≤ 281474976710656 := by
                have h1 : (ie.bytes : Int) * c ≤ 16 * c := Int.mul_le_mul_of_nonneg_right (by omega) (by omega)
                omega
              have hr := run_make (P := P) w T e ie zv (elemOfSlice_ok he) hi hz k1 k2 l c o1 o2 hbc (by omega)
              have hlive : ∀ (i : Nat) (v : Value), (List.replicate l.toNat (Value.int k z0))[i]? = some v → v = Value.int k z0 := by
                intro i v hv
                rw [List.getElem?_replicate] at hv
                split at hv
                · simpa using hv.symm
                · cases hv
              refine ⟨_, _, ρ.set base w.heap.size (.slice (some ⟨w.heap.size, 0, none⟩) l.toNat c.toNat), hr,
                Good.own (oid := none) (n := l.toNat) hM hF rfl (by simp) (by simp) (fun k hk _ => Below.heap_alloc w _ k hk) rfl rfl rfl rfl ?_ (fun _ => .inl (Nat.le_refl _))⟩
              unfold BlkRel
              simp only
              refine ⟨by simp [Env.set], by simp [Env.set, Value.ownBlock], List.replicate l.toNat (Value.int k z0), ?_, by simp [K.len], ?_⟩
              · simp only [Env.set, if_true, hc1]
                refine ⟨by simp, .inr ⟨w.heap.size, c.toNat, madeCells zv.cells (c.toNat * ie.size), rfl, Nat.zero_le _, heap_alloc_new w _, by omega, by unfold maxLen; omega, by rw [size_madeCells, hsz], ?_⟩⟩
                rw [hzc, hsz]
                apply List.ext_getElem?
                intro i
                rw [List.getElem?_take, List.getElem?_replicate]
                by_cases hi' : i < l.toNat
                · have hic : i < c.toNat := by omega
                  simp [madeCells, hi', hic, Nat.mod_one]
                · simp [hi']
              · intro i hi'
                simp only [List.length_replicate] at hi'
                simp [List.getElem?_replicate, hi', List.getD]
      · cases h
    · cases h
  · cases h

theorem lenEv_ok {P : Program} {M M0 : Mem} {T ty : TypeId} {ts : Array TypeId} {x : W} {out : Out} {ρ : Env} {w : World} {y : Value} (hT : ts[0]? = some T) (h : lenEv P M0 T x = some out)
    (hMs : ∀ id b, M0 id = some b → M id = some b) (hM : MemOk P ρ M w) (hx : RW ρ x y) :
    ∃ v r, out = ⟨some v, [], []⟩ ∧ RV ρ v r ∧ (Builtin.len_ ts ty #[y]).run P w = .ok r w := by
  unfold lenEv at h
  split at h
  · rename_i hu
    split at h
    · rename_i s
      simp only [out1, Option.some.injEq] at h
      subst h
      simp only [RW, RC] at hx
      subst hx
      exact ⟨_, .int .i64 s.size, rfl, rfl, by simp [Builtin.len_, hT, run_underlying hu, goInt]⟩
    · cases h
  · rename_i n e hu
    simp only [out1, Option.some.injEq] at h
    subst h
    exact ⟨_, .int .i64 n, rfl, rfl, by simp [Builtin.len_, hT, run_underlying hu, goInt]⟩
  · rename_i e hu
    split at h
    · simp only [out1, Option.some.injEq] at h
      subst h
      simp only [RW, RC] at hx
      subst hx
      exact ⟨_, .int .i64 0, rfl, rfl, by simp [Builtin.len_, hT, run_underlying hu, goInt]⟩
    · rename_i c _
      split at h
      · rename_i id off n hs
        simp only [out1, Option.some.injEq] at h
        subst h
        obtain ⟨a, cap, rfl, _, _⟩ := C.slice_ok hs hMs hM hx
        exact ⟨_, .int .i64 n, rfl, rfl, by simp [Builtin.len_, hT, run_underlying hu, goInt]⟩
      · cases h
    · cases h
  · cases h

theorem kEq_ok {a b : IntKind} (h : kEq a b = true) : a = b := by simpa [kEq] using h

theorem intOp_ok {op : BinOp} {k : IntKind} {a b : Int} {v : V} {o : List Bool} {ρ : Env} (h : intOp op k a b = some (v, o)) (ho : ∀ b ∈ o, b = true) (T : TypeId) :
    ∃ r, RV ρ v r ∧ binOp op T (.int k a) (.int k b) = pure r := by
  unfold intOp at h
  split at h <;> (try simp only [Option.some.injEq, Prod.mk.injEq] at h) <;> try (obtain ⟨rfl, rfl⟩ := h)
  all_goals first
    | (refine ⟨_, rfl, ?_⟩; simp [binOp, Op.intArith]; done)
    | (refine ⟨_, rfl, ?_⟩; simp [binOp, Op.intBits]; done)
    | (refine ⟨_, rfl, ?_⟩; simp [binOp, Op.intCmp]; done)
    | (have hb : b ≠ 0 := (by have := ho _ (List.mem_singleton.2 rfl); simpa using this)
       refine ⟨_, rfl, ?_⟩; simp [binOp, Op.intDiv, hb]; done)
    | (cases h)

theorem shOp_ok {op : BinOp} {k : IntKind} {a b : Int} {yk : IntKind} {v : V} {o : List Bool} {ρ : Env} (h : shOp op k a b = some (v, o)) (ho : ∀ b ∈ o, b = true) (T : TypeId) :
    ∃ r, RV ρ v r ∧ binOp op T (.int k a) (.int yk b) = pure r := by
  unfold shOp at h
  split at h <;> (try simp only [Option.some.injEq, Prod.mk.injEq] at h) <;> try (obtain ⟨rfl, rfl⟩ := h)
  all_goals first
    | (have hb : 0 ≤ b := by have := ho _ (List.mem_singleton.2 rfl); simpa using this
       have hb' : ¬ b < 0 := by omega
       exact ⟨_, rfl, by simp [binOp, Op.shift, hb']⟩)
    | (cases h)

theorem strOp_ok {P : Program} {op : BinOp} {a b : ByteArray} {v : V} {o : List Bool} {ρ : Env} (h : strOp op a b = some (v, o)) (ho : ∀ b ∈ o, b = true) (T : TypeId) (w : World) :
    ∃ r, RV ρ v r ∧ (binOp op T (.string a) (.string b)).run P w = .ok r w := by
  unfold strOp at h
  split at h <;> (try simp only [Option.some.injEq, Prod.mk.injEq] at h) <;> try (obtain ⟨rfl, rfl⟩ := h)
  · have hb : a.size + b.size ≤ 9223372036854775807 := by have := ho _ (List.mem_singleton.2 rfl); simpa using this
    have hb' : ¬ (9223372036854775807 < (a.size : Int) + (b.size : Int)) := by omega
    exact ⟨_, rfl, by simp [binOp, Op.stringOp, hb']⟩
  · exact ⟨_, rfl, by simp [binOp, Op.stringOp]⟩
  · exact ⟨_, rfl, by simp [binOp, Op.stringOp]⟩

theorem eqGuard_int {P : Program} {op : BinOp} {T : TypeId} {x y : Operand} {k : IntKind} {n : Int} {v : Value} {w : World} : (eqGuard op T x y (.int k n) v).run P w = .ok () w := by
  rw [eqGuard_at_int]; rfl
theorem eqGuard_str {P : Program} {op : BinOp} {T : TypeId} {x y : Operand} {s : ByteArray} {v : Value} {w : World} : (eqGuard op T x y (.string s) v).run P w = .ok () w := by
  rw [eqGuard_at_string]; rfl
theorem eqGuard_bool {P : Program} {op : BinOp} {T : TypeId} {x y : Operand} {s : Bool} {v : Value} {w : World} : (eqGuard op T x y (.bool s) v).run P w = .ok () w := by
  rw [eqGuard_at_bool]; rfl
theorem eqGuard_ptr {P : Program} {op : BinOp} {T : TypeId} {x y : Operand} {s : Option Addr} {v : Value} {w : World} : (eqGuard op T x y (.pointer s) v).run P w = .ok () w := by
  rw [eqGuard_at_pointer]; rfl
theorem eqGuard_agg {P : Program} {op : BinOp} {T : TypeId} {x y : Operand} {s u : Array Value} {w : World} (h : P.eqGuardType P.depth T = false) : (eqGuard op T x y (.agg s) (.agg u)).run P w = .ok () w := by
  cases op <;> simp [eqGuard, h]

theorem isEq_ok {op : BinOp} (h : isEq op = true) : op = .eql := by cases op <;> first | rfl | simp [isEq] at h
theorem isNe_ok {op : BinOp} (h : isNe op = true) : op = .neq := by cases op <;> first | rfl | simp [isNe] at h

/-- '==' and '!=' out of 'equal'. -/
theorem eqNe {P : Program} {op : BinOp} {T : TypeId} {y z : Value} {b : Bool} {w : World} {out : Out} (h : (bif isEq op then out1 (V.bool b) else bif isNe op then out1 (V.bool (!b)) else none) = some out)
    (hb : ∀ o, (o = .eql ∨ o = .neq) → binOp o T y z = (if o = .eql then (do pure (.bool (← Op.equal T y z))) else (do pure (.bool (!(← Op.equal T y z))))))
    (he : (Op.equal T y z).run P w = .ok b w) (ρ : Env) : ∃ v r, out = ⟨some v, [], []⟩ ∧ RV ρ v r ∧ (binOp op T y z).run P w = .ok r w := by
  cases h1 : isEq op with
  | true =>
    have := isEq_ok h1
    subst this
    simp only [h1, cond_true, out1, Option.some.injEq] at h
    subst h
    exact ⟨_, .bool b, rfl, rfl, by rw [hb _ (.inl rfl)]; simp [he]⟩
  | false =>
    cases h2 : isNe op with
    | false => simp [h1, h2] at h
    | true =>
      have := isNe_ok h2
      subst this
      simp only [h1, h2, cond_true, cond_false, out1, Option.some.injEq] at h
      subst h
      exact ⟨_, .bool (!b), rfl, rfl, by rw [hb _ (.inr rfl)]; simp [he]⟩

theorem isPtrT_ok {P : Program} {T : TypeId} (h : isPtrT P T = true) : ∃ e, P.underlying T = some (.pointer e) := by
  unfold isPtrT at h
  split at h
  · exact ⟨_, by assumption⟩
  · cases h
theorem isBoolT_ok {P : Program} {T : TypeId} (h : isBoolT P T = true) : P.underlying T = some .bool := by
  unfold isBoolT at h
  split at h
  · assumption
  · cases h

theorem equalIn_bool {P : Program} {T : TypeId} {a b : Bool} {w : World} (hu : P.underlying T = some .bool) (d : Nat) : (Op.equalIn (d + 1) T (.bool a) (.bool b)).run P w = .ok (a == b) w := by
  simp only [Op.equalIn, Sem.run_bind, run_underlying hu, Result.andThen_ok, Sem.run_pure]
theorem equal_bool {P : Program} {T : TypeId} {a b : Bool} {w : World} (hu : P.underlying T = some .bool) : (Op.equal T (.bool a) (.bool b)).run P w = .ok (a == b) w :=
  equalIn_bool hu 9999
theorem equalIn_ptr_nil {P : Program} {T e : TypeId} {a : Addr} {w : World} (hu : P.underlying T = some (.pointer e)) (d : Nat) : (Op.equalIn (d + 1) T (.pointer (some a)) (.pointer none)).run P w = .ok false w := by
  simp only [Op.equalIn, Sem.run_bind, run_underlying hu, Result.andThen_ok, Sem.run_pure]
theorem equal_ptr_nil {P : Program} {T e : TypeId} {a : Addr} {w : World} (hu : P.underlying T = some (.pointer e)) : (Op.equal T (.pointer (some a)) (.pointer none)).run P w = .ok false w :=
  equalIn_ptr_nil hu 9999
theorem equalIn_nil_nil {P : Program} {T e : TypeId} {w : World} (hu : P.underlying T = some (.pointer e)) (d : Nat) : (Op.equalIn (d + 1) T (.pointer none) (.pointer none)).run P w = .ok true w := by
  simp [Op.equalIn, run_underlying hu]
theorem equal_nil_nil {P : Program} {T e : TypeId} {w : World} (hu : P.underlying T = some (.pointer e)) : (Op.equal T (.pointer none) (.pointer none)).run P w = .ok true w :=
  equalIn_nil_nil hu 9999

theorem binEv_ok {P : Program} {tab : Tab} (hT : TabOk P tab) {op : BinOp} {T : TypeId} {x y : W} {out : Out} {ρ : Env} {w : World} {u v : Value} {ox oy : Operand} (h : binEv P tab op T x y = some out) (ho : ∀ b ∈ out.obs, b = true)
    (hx : RW ρ x u) (hy : RW ρ y v) :
    ∃ v' r, out = ⟨some v', [], out.obs⟩ ∧ RV ρ v' r ∧ (eqGuard op T ox oy u v).run P w = .ok () w ∧ (binOp op T u v).run P w = .ok r w := by
  unfold binEv at h
  split at h
  · rename_i k a k' b
    simp only [RW, RC] at hx hy
    subst hx; subst hy
    cases hs : isSh op with
    | true =>
      simp only [hs, cond_true] at h
      split at h
      · rename_i v o hv
        simp only [outo, Option.some.injEq] at h
        subst h
        obtain ⟨r, hr, hrun⟩ := shOp_ok (ρ := ρ) (yk := k') hv ho T
        exact ⟨_, r, rfl, hr, eqGuard_int, by rw [hrun]; rfl⟩
      · cases h
    | false =>
      simp only [hs, cond_false] at h
      cases hk : kEq k k' with
      | false => simp [hk] at h
      | true =>
        simp only [hk, cond_true] at h
        have := kEq_ok hk
        subst this
        split at h
        · rename_i v o hv
          simp only [outo, Option.some.injEq] at h
          subst h
          obtain ⟨r, hr, hrun⟩ := intOp_ok (ρ := ρ) hv ho T
          exact ⟨_, r, rfl, hr, eqGuard_int, by rw [hrun]; rfl⟩
        · cases h
  · rename_i a b
    simp only [RW, RC] at hx hy
    subst hx; subst hy
    split at h
    · rename_i v o hv
      simp only [outo, Option.some.injEq] at h
      subst h
      obtain ⟨r, hr, hrun⟩ := strOp_ok (P := P) (ρ := ρ) hv ho T w
      exact ⟨_, r, rfl, hr, eqGuard_str, hrun⟩
    · cases h
  · rename_i a b
    simp only [RW, RC] at hx hy
    subst hx; subst hy
    cases hb : isBoolT P T with
    | false => simp [hb] at h
    | true =>
      simp only [hb, cond_true] at h
      obtain ⟨v', r, he, hr, hrun⟩ := eqNe (P := P) (T := T) (y := .bool a) (z := .bool b) (w := w) h (by rintro o (rfl | rfl) <;> simp [binOp]) (equal_bool (isBoolT_ok hb)) ρ
      subst he
      exact ⟨_, r, rfl, hr, eqGuard_bool, hrun⟩
  · simp only [RW, RC] at hx hy
    subst hx; subst hy
    cases hb : isPtrT P T with
    | false => simp [hb] at h
    | true =>
      simp only [hb, cond_true] at h
      obtain ⟨e, hu⟩ := isPtrT_ok hb
      obtain ⟨v', r, he, hr, hrun⟩ := eqNe (P := P) (T := T) (y := .pointer (some _)) (z := .pointer none) (b := false) (w := w) h (by rintro o (rfl | rfl) <;> simp [binOp]) (equal_ptr_nil hu) ρ
      subst he
      exact ⟨_, r, rfl, hr, eqGuard_ptr, hrun⟩
  · simp only [RW, RC] at hx hy
    subst hx; subst hy
    cases hb : isPtrT P T with
    | false => simp [hb] at h
    | true =>
      simp only [hb, cond_true] at h
      obtain ⟨e, hu⟩ := isPtrT_ok hb
      obtain ⟨v', r, he, hr, hrun⟩ := eqNe (P := P) (T := T) (y := .pointer none) (z := .pointer none) (b := true) (w := w) h (by rintro o (rfl | rfl) <;> simp [binOp]) (equal_nil_nil hu) ρ
      subst he
      exact ⟨_, r, rfl, hr, eqGuard_ptr, hrun⟩
  · rename_i l m
    cases hb : codesOk (tab.eqs T) l with
    | false => simp [hb] at h
    | true =>
      simp only [hb, cond_true] at h
      split at h
      · rename_i b hbc
        obtain ⟨cs, rfl, hl⟩ := hx
        obtain ⟨ds, rfl, hm⟩ := hy
        obtain ⟨h1, h2⟩ := hT.eqs T l m b hb hbc ρ cs ds hl hm w
        obtain ⟨v', r, he, hr, hrun⟩ := eqNe (P := P) (T := T) (w := w) h (by rintro o (rfl | rfl) <;> simp [binOp]) h1 ρ
        subst he
        exact ⟨_, r, rfl, hr, eqGuard_agg h2, hrun⟩
      · cases h
  · cases h

theorem wrapU (n : Int) : IntKind.wrap .u64 n = n % 18446744073709551616 := by simp [IntKind.wrap, IntKind.signed, IntKind.bits]
theorem wrapUn (n : Nat) : IntKind.wrap .u64 (n : Int) = ((n % 18446744073709551616 : Nat) : Int) := by rw [wrapU]; simp
theorem bv64 (n : Nat) : BitVec.ofInt 64 ((n % 18446744073709551616 : Nat) : Int) = BitVec.ofNat 64 n := by
  apply BitVec.eq_of_toNat_eq
  simp only [BitVec.toNat_ofInt, BitVec.toNat_ofNat]
  omega
theorem bvAnd (x y : Nat) : (BitVec.ofInt 64 ((x % 18446744073709551616 : Nat) : Int) &&& BitVec.ofInt 64 ((y % 18446744073709551616 : Nat) : Int)).toNat % 18446744073709551616 = (x &&& y) % 18446744073709551616 := by
  rw [bv64, bv64, BitVec.toNat_and, BitVec.toNat_ofNat, BitVec.toNat_ofNat, ← Nat.and_mod_two_pow]
  exact Nat.mod_mod _ _
theorem bvOr (x y : Nat) : (BitVec.ofInt 64 ((x % 18446744073709551616 : Nat) : Int) ||| BitVec.ofInt 64 ((y % 18446744073709551616 : Nat) : Int)).toNat % 18446744073709551616 = (x ||| y) % 18446744073709551616 := by
  rw [bv64, bv64, BitVec.toNat_or, BitVec.toNat_ofNat, BitVec.toNat_ofNat, ← Nat.or_mod_two_pow]
  exact Nat.mod_mod _ _
theorem bvXor (x y : Nat) : (BitVec.ofInt 64 ((x % 18446744073709551616 : Nat) : Int) ^^^ BitVec.ofInt 64 ((y % 18446744073709551616 : Nat) : Int)).toNat % 18446744073709551616 = (x ^^^ y) % 18446744073709551616 := by
  rw [bv64, bv64, BitVec.toNat_xor, BitVec.toNat_ofNat, BitVec.toNat_ofNat, ← Nat.xor_mod_two_pow]
  exact Nat.mod_mod _ _
theorem wrapBits {n m : Nat} (h : n % 18446744073709551616 = m % 18446744073709551616) : IntKind.wrap .u64 (n : Int) = ((m % 18446744073709551616 : Nat) : Int) := by rw [wrapUn, h]
theorem beqI (a b : Nat) : ((a : Int) == (b : Int)) = Nat.beq a b := by
  rw [Bool.eq_iff_iff, beq_iff_eq, Nat.beq_eq]
  omega
theorem bneI (a b : Nat) : ((a : Int) != (b : Int)) = !(Nat.beq a b) := by rw [← beqI]; rfl
theorem ltI (a b : Nat) : decide ((a : Int) < (b : Int)) = Nat.blt a b := by
  rw [Bool.eq_iff_iff, decide_eq_true_eq, Nat.blt_eq]
  omega
theorem leI (a b : Nat) : decide ((a : Int) ≤ (b : Int)) = Nat.ble a b := by
  rw [Bool.eq_iff_iff, decide_eq_true_eq, Nat.ble_eq]
  omega
theorem uOp_ok {op : BinOp} {x y : Nat} {v : V} (h : uOp op x y = some v) : ∃ v0, intOp op .u64 ((x % 18446744073709551616 : Nat) : Int) ((y % 18446744073709551616 : Nat) : Int) = some (v0, []) ∧ isSh op = false ∧ ∀ ρ r, RV ρ v0 r → RV ρ v r := by
  have I : ∀ {n : Int} {m : Nat}, IntKind.wrap .u64 n = ((m % 18446744073709551616 : Nat) : Int) → ∀ ρ r, RV ρ (V.int .u64 (IntKind.wrap .u64 n)) r → RV ρ (.w (.c (.u m))) r := by
    intro n m e ρ r hr
    show r = _
    rw [show r = _ from hr, e]
  have B : ∀ {a b : Bool}, a = b → ∀ ρ r, RV ρ (V.bool a) r → RV ρ (V.bool b) r := by
    intro a b e ρ r hr
    rw [← e]; exact hr
  cases op <;> simp only [uOp, Option.some.injEq, reduceCtorEq] at h <;> subst h
  · exact ⟨_, rfl, rfl, I (by rw [wrapU]; omega)⟩
  · exact ⟨_, rfl, rfl, I (by rw [wrapU]; omega)⟩
  · exact ⟨_, rfl, rfl, I (by rw [← Int.natCast_mul, wrapUn, ← Nat.mul_mod])⟩
  · exact ⟨_, rfl, rfl, I (wrapBits (bvAnd x y))⟩
  · exact ⟨_, rfl, rfl, I (wrapBits (bvOr x y))⟩
  · exact ⟨_, rfl, rfl, I (wrapBits (bvXor x y))⟩
  · exact ⟨_, rfl, rfl, B (beqI _ _)⟩
  · exact ⟨_, rfl, rfl, B (bneI _ _)⟩
  · exact ⟨_, rfl, rfl, B (ltI _ _)⟩
  · exact ⟨_, rfl, rfl, B (leI _ _)⟩
  · exact ⟨_, rfl, rfl, B (ltI _ _)⟩
  · exact ⟨_, rfl, rfl, B (leI _ _)⟩
theorem uSh_ok {op : BinOp} {x : Nat} {b : Int} {v : V} (h : uSh op x b = some v) : ∃ v0, shOp op .u64 ((x % 18446744073709551616 : Nat) : Int) b = some (v0, [decide (0 ≤ b)]) ∧ ∀ ρ r, RV ρ v0 r → RV ρ v r := by
  cases op <;> simp only [uSh, Option.some.injEq, reduceCtorEq] at h <;> subst h
  case shl =>
    refine ⟨_, rfl, fun ρ r hr => ?_⟩
    show r = _
    rw [show r = _ from hr]
    have e : (((x % 18446744073709551616 : Nat) : Int) * 2 ^ (min b.toNat (IntKind.bits .u64))) = ((x % 18446744073709551616 * 2 ^ (min b.toNat 64) : Nat) : Int) := by simp [IntKind.bits]
    rw [e, wrapUn]
    congr 2
    rcases Nat.lt_or_ge 64 b.toNat with h | h
    · rw [Nat.min_eq_right (by omega)]
      obtain ⟨c, hc⟩ : ∃ c, b.toNat = 64 + c := ⟨b.toNat - 64, by omega⟩
      rw [hc, Nat.pow_add, ← Nat.mul_assoc, Nat.mul_right_comm x]
      have e64 : (2 : Nat) ^ 64 = 18446744073709551616 := rfl
      rw [e64, Nat.mul_mod_left, Nat.mul_mod_left]
    · rw [Nat.min_eq_left h, Nat.mul_mod, Nat.mod_mod, ← Nat.mul_mod]
  case shr =>
    refine ⟨_, rfl, fun ρ r hr => ?_⟩
    show r = _
    rw [show r = _ from hr]
    congr 1
    have hx : x % 18446744073709551616 < 2 ^ 64 := Nat.mod_lt _ (by decide)
    have e : (((x % 18446744073709551616 : Nat) : Int).fdiv (2 ^ (min b.toNat (IntKind.bits .u64)))) = ((x % 18446744073709551616 / 2 ^ (min b.toNat 64) : Nat) : Int) := by
      rw [Int.fdiv_eq_ediv_of_nonneg _ (by exact_mod_cast Nat.zero_le _)]
      simp [IntKind.bits]
    rw [e]
    congr 1
    rw [Nat.mod_eq_of_lt (Nat.lt_of_le_of_lt (Nat.div_le_self _ _) hx)]
    rcases Nat.lt_or_ge 64 b.toNat with h | h
    · rw [Nat.min_eq_right (by omega), Nat.div_eq_of_lt hx, Nat.div_eq_of_lt (Nat.lt_of_lt_of_le hx (Nat.pow_le_pow_right (by omega) (by omega)))]
    · rw [Nat.min_eq_left h]
theorem uCmp_ok {op : BinOp} {x : Nat} {n : Int} {v : V} (h : uCmp op x n = some v) : ∃ v0, intOp op .u64 ((x % 18446744073709551616 : Nat) : Int) n = some (v0, []) ∧ isSh op = false ∧ ∀ ρ r, RV ρ v0 r → RV ρ v r := by
  have B : ∀ {a b : Bool}, a = b → ∀ ρ r, RV ρ (V.bool a) r → RV ρ (V.bool b) r := by
    intro a b e ρ r hr
    rw [← e]; exact hr
  generalize hm : x % 18446744073709551616 = m at *
  have main : ∀ {a b c : Bool}, (0 ≤ n → a = b) → (¬ 0 ≤ n → a = c) → a = (bif decide (0 ≤ n) then b else c) := by
    intro a b c h1 h2
    by_cases hn : 0 ≤ n
    · rw [decide_eq_true hn]; exact h1 hn
    · rw [decide_eq_false hn]; exact h2 hn
  cases op <;> simp only [uCmp, hm, Option.some.injEq, reduceCtorEq] at h <;> subst h
  · refine ⟨_, rfl, rfl, B (main (fun hn => ?_) fun hn => ?_)⟩
    · rw [← beqI, Int.toNat_of_nonneg hn]
    · rw [beq_eq_false_iff_ne]; omega
  · refine ⟨_, rfl, rfl, B (main (fun hn => ?_) fun hn => ?_)⟩
    · rw [← bneI, Int.toNat_of_nonneg hn]
    · rw [bne_iff_ne]; omega
  · refine ⟨_, rfl, rfl, B (main (fun hn => ?_) fun hn => ?_)⟩
    · rw [← ltI, Int.toNat_of_nonneg hn]
    · rw [decide_eq_false_iff_not]; omega
  · refine ⟨_, rfl, rfl, B (main (fun hn => ?_) fun hn => ?_)⟩
    · rw [← leI, Int.toNat_of_nonneg hn]
    · rw [decide_eq_false_iff_not]; omega
  · refine ⟨_, rfl, rfl, B (main (fun hn => ?_) fun hn => ?_)⟩
    · rw [← ltI, Int.toNat_of_nonneg hn]
    · rw [decide_eq_true_eq]; omega
  · refine ⟨_, rfl, rfl, B (main (fun hn => ?_) fun hn => ?_)⟩
    · rw [← leI, Int.toNat_of_nonneg hn]
    · rw [decide_eq_true_eq]; omega
theorem flipCmp_ok {op : BinOp} {x : Nat} {n : Int} {v0 : V} (hc : isCmp op = true) (h : intOp (flipCmp op) .u64 ((x % 18446744073709551616 : Nat) : Int) n = some (v0, [])) : ∃ v1, intOp op .u64 n ((x % 18446744073709551616 : Nat) : Int) = some (v1, []) ∧ ∀ ρ r, RV ρ v1 r → RV ρ v0 r := by
  have B : ∀ {a b : Bool}, a = b → ∀ ρ r, RV ρ (V.bool a) r → RV ρ (V.bool b) r := by
    intro a b e ρ r hr
    rw [← e]; exact hr
  cases op <;> simp only [isCmp, Bool.false_eq_true] at hc <;> cases h
  · exact ⟨_, rfl, B (Bool.eq_iff_iff.2 (by simp only [beq_iff_eq]; omega))⟩
  · exact ⟨_, rfl, B (Bool.eq_iff_iff.2 (by simp only [bne_iff_ne]; omega))⟩
  · exact ⟨_, rfl, fun _ _ h => h⟩
  · exact ⟨_, rfl, fun _ _ h => h⟩
  · exact ⟨_, rfl, fun _ _ h => h⟩
  · exact ⟨_, rfl, fun _ _ h => h⟩
theorem litU_ok {n : Int} {m : Nat} (h : litU n = some m) : n = ((m % 18446744073709551616 : Nat) : Int) := by
  unfold litU at h
  split at h
  · rename_i k
    cases hb : Nat.blt k 18446744073709551616 with
    | false => simp [hb] at h
    | true =>
      simp only [hb, cond_true, Option.some.injEq] at h
      subst h
      rw [Nat.mod_eq_of_lt (by simpa using hb)]
      rfl
  · cases h

theorem isU_of {c : C} (h : c.isU = true) : ∃ x, c = .u x := by
  cases c with
  | u x => exact ⟨x, rfl⟩
  | _ => cases h
theorem beq4 (x0 x1 x2 x3 y0 y1 y2 y3 : Nat) (r : Bool) :
    ((((x0 % 18446744073709551616 : Nat) : Int) == ((y0 % 18446744073709551616 : Nat) : Int)) && ((((x1 % 18446744073709551616 : Nat) : Int) == ((y1 % 18446744073709551616 : Nat) : Int)) && ((((x2 % 18446744073709551616 : Nat) : Int) == ((y2 % 18446744073709551616 : Nat) : Int)) && ((((x3 % 18446744073709551616 : Nat) : Int) == ((y3 % 18446744073709551616 : Nat) : Int)) && r)))) =
    (Nat.beq (num4 (x0 % 18446744073709551616) (x1 % 18446744073709551616) (x2 % 18446744073709551616) (x3 % 18446744073709551616)) (num4 (y0 % 18446744073709551616) (y1 % 18446744073709551616) (y2 % 18446744073709551616) (y3 % 18446744073709551616)) && r) := by
  rw [Bool.eq_iff_iff]
  simp only [Bool.and_eq_true, beq_iff_eq, Nat.beq_eq]
  unfold num4
  constructor
  · rintro ⟨h0, h1, h2, h3, h4⟩
    refine ⟨?_, h4⟩
    omega
  · rintro ⟨h0, h4⟩
    refine ⟨?_, ?_, ?_, ?_, h4⟩ <;> omega
theorem eqNs_cons (a b : Nat) (r s : List Nat) (h : r.length = s.length) : eqNs (a :: r) (b :: s) = (Nat.beq a b && eqNs r s) := by
  cases r with
  | nil => cases s with
    | nil => simp [eqNs]
    | cons _ _ => cases h
  | cons _ _ => cases s with
    | nil => cases h
    | cons _ _ => rfl
theorem eqCells_nums : ∀ {l m : List C} {a b : List Nat} {o p : List Bool}, nums l = some (a, o) → nums m = some (b, p) → l.all C.isU = true → m.all C.isU = true → a.length = b.length → eqCells (l.map C.norm) (m.map C.norm) = some (eqNs a b)
  | [], m, a, b, o, p, hl, hm, _, _, hab => by
    simp [nums] at hl
    obtain ⟨rfl, _⟩ := hl
    have hm' := (nums_len hm)
    have : b = [] := by cases b with | nil => rfl | cons _ _ => cases hab
    subst this
    have : m = [] := by cases m with | nil => rfl | cons _ _ => simp at hm'
    subst this
    rfl
  | [_], m, a, b, o, p, h, _, _, _, _ => by simp [nums] at h
  | [_, _], m, a, b, o, p, h, _, _, _, _ => by simp [nums] at h
  | [_, _, _], m, a, b, o, p, h, _, _, _, _ => by simp [nums] at h
  | c0 :: c1 :: c2 :: c3 :: r, m, a, b, o, p, hl, hm, hu, hv, hab => by
    simp only [List.all_cons, Bool.and_eq_true] at hu
    obtain ⟨u0, u1, u2, u3, ur⟩ := hu
    obtain ⟨x0, rfl⟩ := isU_of u0
    obtain ⟨x1, rfl⟩ := isU_of u1
    obtain ⟨x2, rfl⟩ := isU_of u2
    obtain ⟨x3, rfl⟩ := isU_of u3
    simp only [nums, num, wOf] at hl
    cases h2 : nums r with
    | none => simp [h2] at hl
    | some q2 =>
      obtain ⟨l, o2⟩ := q2
      simp only [h2, Option.some.injEq, Prod.mk.injEq] at hl
      obtain ⟨rfl, _⟩ := hl
      cases b with
      | nil => cases hab
      | cons b0 b =>
        match m, hm, hv with
        | d0 :: d1 :: d2 :: d3 :: s, hm, hv =>
          simp only [List.all_cons, Bool.and_eq_true] at hv
          obtain ⟨v0, v1, v2, v3, vr⟩ := hv
          obtain ⟨y0, rfl⟩ := isU_of v0
          obtain ⟨y1, rfl⟩ := isU_of v1
          obtain ⟨y2, rfl⟩ := isU_of v2
          obtain ⟨y3, rfl⟩ := isU_of v3
          simp only [nums, num, wOf] at hm
          cases hs : nums s with
          | none => simp [hs] at hm
          | some q =>
            obtain ⟨b', q'⟩ := q
            simp only [hs, Option.some.injEq, Prod.mk.injEq, List.cons.injEq] at hm
            obtain ⟨⟨rfl, rfl⟩, _⟩ := hm
            have hab' : l.length = b'.length := by simpa using hab
            have := eqCells_nums h2 hs ur vr hab'
            simp only [List.map_cons, C.norm, eqCells, kEq, decide_true, cond_true, this, eqNs_cons _ _ _ _ hab', beq4]
        | [], hm, _ => simp [nums] at hm
        | [_], hm, _ => simp [nums] at hm
        | [_, _], hm, _ => simp [nums] at hm
        | [_, _, _], hm, _ => simp [nums] at hm

theorem binU_ok {P : Program} {tab : Tab} (hT : TabOk P tab) {op : BinOp} {T : TypeId} {x y : W} {out : Out} {ρ : Env} {w : World} {u v : Value} {ox oy : Operand} (h : binU P tab op T x y = some out) (ho : ∀ b ∈ out.obs, b = true)
    (hx : RW ρ x u) (hy : RW ρ y v) :
    ∃ v' r, out = ⟨some v', [], out.obs⟩ ∧ RV ρ v' r ∧ (eqGuard op T ox oy u v).run P w = .ok () w ∧ (binOp op T u v).run P w = .ok r w := by
  unfold binU at h
  split at h
  · rename_i l m
    have old : binEv P tab op T (.agg (l.map C.norm)) (.agg (m.map C.norm)) = some out → ∃ v' r, out = ⟨some v', [], out.obs⟩ ∧ RV ρ v' r ∧ (eqGuard op T ox oy u v).run P w = .ok () w ∧ (binOp op T u v).run P w = .ok r w :=
      fun h => binEv_ok hT h ho hx.norm hy.norm
    cases hc : l.all C.isU && (m.all C.isU && codesOk (tab.eqs T) (l.map C.norm)) with
    | false => simp only [hc, cond_false] at h; exact old h
    | true =>
      simp only [hc, cond_true] at h
      simp only [Bool.and_eq_true] at hc
      obtain ⟨c1, c2, c3⟩ := hc
      split at h
      · rename_i a o1 b o2 h1 h2
        cases hl : Nat.beq a.length b.length with
        | false => simp [hl] at h
        | true =>
          simp only [hl, cond_true] at h
          refine old ?_
          unfold binEv
          simp only [c3, cond_true, eqCells_nums h1 h2 c1 c2 (Nat.beq_eq.mp hl)]
          exact h
      · exact old h
  · rename_i a b
    split at h
    · rename_i v' hv
      simp only [out1, Option.some.injEq] at h
      subst h
      obtain ⟨v0, h0, hs, hr⟩ := uOp_ok hv
      obtain ⟨v1, r, he, h1, h2, h3⟩ := binEv_ok hT (op := op) (T := T) (w := w) (ox := ox) (oy := oy) (x := (W.c (.u a)).norm) (y := (W.c (.u b)).norm) (out := ⟨some v0, [], []⟩) (by simp only [W.norm, C.norm, binEv, hs, cond_false, kEq, decide_true, cond_true, h0, outo]) (by simp) hx.norm hy.norm
      cases he
      exact ⟨v', r, rfl, hr ρ r h1, h2, h3⟩
    · exact binEv_ok hT h ho hx.norm hy.norm
  · rename_i a k b
    cases hs : isSh op with
    | true =>
      simp only [hs, cond_true] at h
      split at h
      · rename_i v' hv
        simp only [outo, Option.some.injEq] at h
        subst h
        obtain ⟨v0, h0, hr⟩ := uSh_ok hv
        obtain ⟨v1, r, he, h1, h2, h3⟩ := binEv_ok hT (op := op) (T := T) (w := w) (ox := ox) (oy := oy) (x := (W.c (.u a)).norm) (y := .c (.v (.int k b))) (out := ⟨some v0, [], [decide (0 ≤ b)]⟩) (by simp only [W.norm, C.norm, binEv, hs, cond_true, h0, outo]) ho hx.norm hy
        cases he
        exact ⟨v', r, rfl, hr ρ r h1, h2, h3⟩
      · cases h
    | false =>
      simp only [hs, cond_false] at h
      cases hk : kEq .u64 k with
      | false => simp [hk] at h
      | true =>
        simp only [hk, cond_true] at h
        have := kEq_ok hk
        subst this
        cases hcm : isCmp op with
        | true =>
          simp only [hcm, cond_true] at h
          split at h
          · rename_i v' hv
            simp only [out1, Option.some.injEq] at h
            subst h
            obtain ⟨v0, h0, hs, hr⟩ := uCmp_ok hv
            obtain ⟨v1, r, he, h1, h2, h3⟩ := binEv_ok hT (op := op) (T := T) (w := w) (ox := ox) (oy := oy) (x := (W.c (.u a)).norm) (y := .c (.v (.int .u64 b))) (out := ⟨some v0, [], []⟩) (by simp only [W.norm, C.norm, binEv, hs, cond_false, kEq, decide_true, cond_true, h0, outo]) (by simp) hx.norm hy
            cases he
            exact ⟨v', r, rfl, hr ρ r h1, h2, h3⟩
          · cases h
        | false =>
        simp only [hcm, cond_false] at h
        split at h
        · rename_i m hm
          split at h
          · rename_i v' hv
            simp only [out1, Option.some.injEq] at h
            subst h
            have hb := litU_ok hm
            rw [hb] at hy
            obtain ⟨v0, h0, hs, hr⟩ := uOp_ok hv
            obtain ⟨v1, r, he, h1, h2, h3⟩ := binEv_ok hT (op := op) (T := T) (w := w) (ox := ox) (oy := oy) (x := (W.c (.u a)).norm) (y := (W.c (.u m)).norm) (out := ⟨some v0, [], []⟩) (by simp only [W.norm, C.norm, binEv, hs, cond_false, kEq, decide_true, cond_true, h0, outo]) (by simp) hx.norm hy
            cases he
            exact ⟨v', r, rfl, hr ρ r h1, h2, h3⟩
          · exact binEv_ok hT h ho hx.norm hy.norm
        · exact binEv_ok hT h ho hx.norm hy.norm
  · rename_i a b
    cases hs : isSh op with
    | true => simp only [hs, cond_true] at h; exact binEv_ok hT h ho hx.norm hy.norm
    | false =>
      simp only [hs, cond_false] at h
      cases hcm : isCmp op with
      | true =>
        simp only [hcm, cond_true] at h
        split at h
        · rename_i v' hv
          simp only [out1, Option.some.injEq] at h
          subst h
          obtain ⟨v0, h0, _, hr⟩ := uCmp_ok hv
          obtain ⟨v2, h02, hr2⟩ := flipCmp_ok hcm h0
          obtain ⟨v1, r, he, h1, h2, h3⟩ := binEv_ok hT (op := op) (T := T) (w := w) (ox := ox) (oy := oy) (x := .c (.v (.int .u64 a))) (y := (W.c (.u b)).norm) (out := ⟨some v2, [], []⟩) (by simp only [W.norm, C.norm, binEv, hs, cond_false, kEq, decide_true, cond_true, h02, outo]) (by simp) hx hy.norm
          cases he
          exact ⟨v', r, rfl, hr ρ r (hr2 ρ r h1), h2, h3⟩
        · cases h
      | false =>
      simp only [hcm, cond_false] at h
      split at h
      · rename_i m hm
        split at h
        · rename_i v' hv
          simp only [out1, Option.some.injEq] at h
          subst h
          have hb := litU_ok hm
          rw [hb] at hx
          obtain ⟨v0, h0, hs, hr⟩ := uOp_ok hv
          obtain ⟨v1, r, he, h1, h2, h3⟩ := binEv_ok hT (op := op) (T := T) (w := w) (ox := ox) (oy := oy) (x := (W.c (.u m)).norm) (y := (W.c (.u b)).norm) (out := ⟨some v0, [], []⟩) (by simp only [W.norm, C.norm, binEv, hs, cond_false, kEq, decide_true, cond_true, h0, outo]) (by simp) hx hy.norm
          cases he
          exact ⟨v', r, rfl, hr ρ r h1, h2, h3⟩
        · exact binEv_ok hT h ho hx.norm hy.norm
      · exact binEv_ok hT h ho hx.norm hy.norm
  · exact binEv_ok hT h ho hx.norm hy.norm

theorem unEv_ok {P : Program} {op : UnOp} {x : W} {out : Out} {ρ : Env} {y : Value} (h : unEv op x = some out) (hx : RW ρ x y) :
    ∃ v r, out = ⟨some v, [], []⟩ ∧ RV ρ v r ∧ ∀ w, (Op.unary op y).run P w = .ok r w := by
  unfold unEv at h
  split at h
  · simp only [RW, RC] at hx; subst hx
    simp only [out1, Option.some.injEq] at h; subst h
    exact ⟨_, _, rfl, rfl, fun w => rfl⟩
  · simp only [RW, RC] at hx; subst hx
    simp only [out1, Option.some.injEq] at h; subst h
    exact ⟨_, _, rfl, rfl, fun w => rfl⟩
  · simp only [RW, RC] at hx; subst hx
    simp only [out1, Option.some.injEq] at h; subst h
    exact ⟨_, _, rfl, rfl, fun w => rfl⟩
  · cases h

end Sx

namespace Sx
open Go Go.RowKit

theorem convEv_ok {P : Program} {M M0 : Mem} {src dst : TypeId} {x : W} {out : Out} {ρ : Env} {w : World} {base : Nat} {y : Value} (h : convEv P M0 base src dst x = some out) (ho : ∀ b ∈ out.obs, b = true)
    (hMs : ∀ id b, M0 id = some b → M id = some b) (hM : MemOk P ρ M w) (hF : Fresh M base) (hx : RW ρ x y) :
    ∃ r w' ρ', (convert src dst y).run P w = .ok r w' ∧ Good P ρ ρ' M base out w w' r := by
  unfold convEv at h
  split at h
  · rename_i k0 n
    simp only [RW, RC] at hx
    subst hx
    split at h
    · rename_i k hk
      cases hs : hasT P src with
      | false => simp [hs] at h
      | true =>
        simp only [hs, cond_true, outo, Option.some.injEq] at h
        subst h
        obtain ⟨d, hd⟩ := und_of_hasT hs
        refine ⟨.int k (k.wrap n), w, ρ, ?_, Good.same hM (by rintro _ ⟨⟩; rfl) rfl rfl rfl rfl⟩
        simp [convert, run_underlying hd, run_underlying (intKindOf_ok hk), Conv.intToInt]
    · cases h
  · rename_i s
    simp only [RW, RC] at hx
    subst hx
    cases hb : (isStrT P dst && hasT P src) with
    | true =>
      simp only [hb, cond_true, out1, Option.some.injEq] at h
      subst h
      simp only [Bool.and_eq_true] at hb
      obtain ⟨d, hd⟩ := und_of_hasT hb.2
      refine ⟨.string s, w, ρ, ?_, Good.same hM (by rintro _ ⟨⟩; rfl) rfl rfl rfl rfl⟩
      simp [convert, run_underlying hd, run_underlying (und_str hb.1)]
    | false =>
      simp only [hb, cond_false] at h
      split at h
      · rename_i e he
        split at h
        · rename_i hk
          cases hs : hasT P src with
          | false => simp [hs] at h
          | true =>
            simp only [hs, cond_true, Option.some.injEq] at h
            subst h
            obtain ⟨d, hd⟩ := und_of_hasT hs
            have hrun := Lib.run_convert_string_bytes w src dst e s hd (elemOfSlice_ok he) (intKindOf_ok hk)
            refine ⟨_, _, ρ.set base w.heap.size .nilFunc, hrun, Good.alloc hM hF (by rw [Lib.bytesWorld_size]; omega) (fun k hk => Lib.bytesWorld_at_old w e s k hk) rfl rfl rfl ?_ (by simp [Blk.ro]) ?_⟩
            · rintro v' ⟨⟩
              exact ⟨_, _, rfl, grownCap_ge w s.size 0 e, fun _ => by simp [Env.set]⟩
            · refine ⟨Lib.bytesCells w e s, ⟨_, by simp only [Env.set, if_true]; exact Lib.bytesWorld_at_new w e s, fun i hi h => by omega⟩, ?_⟩
              intro i hi
              have hi' : i < s.size := by simpa [bytesOf] using hi
              simp [Env.set, Lib.bytesCells, bytesOf, Array.getElem?_append, hi', List.getD]
        · cases h
      · cases h
  · rename_i c hno1 hno2
    cases hb : isStrT P dst with
    | false => simp [hb] at h
    | true =>
      simp only [hb, cond_true] at h
      split at h
      · rename_i e he
        split at h
        · rename_i hk
          split at h
          · rename_i id off n hsl
            split at h
            · rename_i blk hblk
              split at h
              · rename_i l o hl
                simp only [outo, Option.some.injEq] at h
                subst h
                obtain ⟨ad, cap, rfl, hnc, had⟩ := C.slice_ok hsl hMs hM hx
                obtain ⟨hlen, hget⟩ := K.bytes_ok (hM.rel id blk (hMs _ _ hblk)).cells hl ho
                refine ⟨.string (strOf l), w, ρ, ?_, Good.same hM (by rintro _ ⟨⟩; rfl) rfl rfl rfl rfl⟩
                have := run_bytesToString (P := P) (w := w) (cap := cap) (ad := ad) (b := ρ.b id) (o := ρ.o id + off) hlen had (fun i v hv => by rw [Nat.add_assoc]; exact hget i v hv)
                simp [convert, run_underlying (elemOfSlice_ok he), run_underlying (und_str hb), run_underlying (intKindOf_ok hk), this]
              · cases h
            · cases h
          · split at h
            · simp only [cond_true, out1, Option.some.injEq] at h
              subst h
              simp only [RW, RC] at hx
              subst hx
              refine ⟨.string .empty, w, ρ, ?_, Good.same hM (by rintro _ ⟨⟩; rfl) rfl rfl rfl rfl⟩
              simp [convert, run_underlying (elemOfSlice_ok he), run_underlying (und_str hb), run_underlying (intKindOf_ok hk), Conv.bytesToString]
            · simp at h
        · cases h
      · cases h
  · cases h

theorem convU_ok {P : Program} {M M0 : Mem} {src dst : TypeId} {x : W} {out : Out} {ρ : Env} {w : World} {base : Nat} {y : Value} (h : convU P M0 base src dst x = some out) (ho : ∀ b ∈ out.obs, b = true)
    (hMs : ∀ id b, M0 id = some b → M id = some b) (hM : MemOk P ρ M w) (hF : Fresh M base) (hx : RW ρ x y) :
    ∃ r w' ρ', (convert src dst y).run P w = .ok r w' ∧ Good P ρ ρ' M base out w w' r := by
  unfold convU at h
  split at h
  · rename_i n
    split at h
    · rename_i hk
      cases hs : hasT P src with
      | false => simp [hs] at h
      | true =>
        simp only [hs, cond_true, outo, Option.some.injEq] at h
        subst h
        have hy : y = .int .u64 ((n % 18446744073709551616 : Nat) : Int) := hx
        subst hy
        obtain ⟨d, hd⟩ := und_of_hasT hs
        refine ⟨.int .u64 ((n % 18446744073709551616 : Nat) : Int), w, ρ, ?_, Good.same hM (by rintro _ ⟨⟩; rfl) rfl rfl rfl rfl⟩
        simp only [convert, run_underlying hd, run_underlying (intKindOf_ok hk), Conv.intToInt, Sem.run_bind, Sem.run_pure, Result.andThen_ok, wrapUn, Nat.mod_mod]
    · exact convEv_ok h ho hMs hM hF hx.norm
  · exact convEv_ok h ho hMs hM hF hx.norm

theorem evw_ok {ρ : Env} {t : Tms} {a : Act} (hev : ∀ x v, ev t x = some v → RV ρ v (a.eval x)) {x : Operand} {v : W} (h : evw t x = some v) : RW ρ v (a.eval x) := by
  unfold evw at h
  split at h
  · rename_i w hw
    simp at h; subst h
    exact hev x _ hw
  · cases h

theorem evn_ok {ρ : Env} {t : Tms} {a : Act} (hev : ∀ x v, ev t x = some v → RV ρ v (a.eval x)) {x : Operand} {v : W} (h : evn t x = some v) : RW ρ v (a.eval x) := by
  unfold evn at h
  split at h
  · rename_i w hw
    simp at h; subst h
    exact (evw_ok hev hw).norm
  · cases h

theorem evw_ids {base : Nat} {t : Tms} (hfr : ∀ x v, ev t x = some v → ∀ id ∈ v.ids, ¬ inR base id) {x : Operand} {v : W} (h : evw t x = some v) : ∀ id ∈ v.ids, ¬ inR base id := by
  unfold evw at h
  split at h
  · rename_i w hw
    simp at h; subst h
    exact hfr x _ hw
  · cases h

theorem evws_ok {ρ : Env} {t : Tms} {a : Act} (hev : ∀ x v, ev t x = some v → RV ρ v (a.eval x)) : ∀ {l : List Operand} {vs : List W}, evws t l = some vs → RL (RW ρ) vs (l.map a.eval)
  | [], vs, h => by simp [evws] at h; subst h; exact .nil
  | x :: l, vs, h => by
    simp only [evws] at h
    cases hx : evw t x with
    | none => simp [hx] at h
    | some v =>
      simp only [hx] at h
      cases hr : evws t l with
      | none => simp [hr] at h
      | some vs' =>
        simp [hr] at h
        subst h
        exact .cons (evw_ok hev hx) (evws_ok hev hr)

theorem evws_ids {base : Nat} {t : Tms} (hfr : ∀ x v, ev t x = some v → ∀ id ∈ v.ids, ¬ inR base id) : ∀ {l : List Operand} {vs : List W}, evws t l = some vs → ∀ x ∈ vs, ∀ id ∈ x.ids, ¬ inR base id
  | [], vs, h => by simp [evws] at h; subst h; simp
  | x :: l, vs, h => by
    simp only [evws] at h
    cases hx : evw t x with
    | none => simp [hx] at h
    | some v =>
      simp only [hx] at h
      cases hr : evws t l with
      | none => simp [hr] at h
      | some vs' =>
        simp [hr] at h
        subst h
        intro y hy
        rcases List.mem_cons.1 hy with rfl | hy
        · exact evw_ids hfr hx
        · exact evws_ids hfr hr y hy

theorem evParts_ids {base : Nat} {t : Tms} (hfr : ∀ x v, ev t x = some v → ∀ id ∈ v.ids, ¬ inR base id) : ∀ {l : List (Nat × Operand)} {vs : List (Nat × W)}, evParts t l = some vs → ∀ x ∈ vs, ∀ id ∈ x.2.ids, ¬ inR base id
  | [], vs, h => by simp [evParts] at h; subst h; simp
  | (i, x) :: l, vs, h => by
    simp only [evParts] at h
    cases hx : evw t x with
    | none => simp [hx] at h
    | some v =>
      simp only [hx] at h
      cases hr : evParts t l with
      | none => simp [hr] at h
      | some vs' =>
        simp [hr] at h
        subst h
        intro y hy
        rcases List.mem_cons.1 hy with rfl | hy
        · exact evw_ids hfr hx
        · exact evParts_ids hfr hr y hy

theorem litV_ok (ρ : Env) (v : Value) : RV ρ (litV v) v := by
  unfold litV
  split
  · rename_i cs
    exact ⟨cs.toList, rfl, RL.lits ρ _⟩
  · rfl

theorem wC_ids (v : Value) : (wC v).ids = [] := by
  unfold wC
  split
  · rename_i n
    cases Nat.blt n 18446744073709551616 <;> rfl
  · rfl
theorem wCs_ids (l : List Value) : ∀ c ∈ wCs l, c.ids = [] := by
  intro c hc
  unfold wCs at hc
  cases h : Nat.ble 4 l.length with
  | true =>
    rw [h] at hc
    obtain ⟨v, _, rfl⟩ := List.mem_map.1 hc
    exact wC_ids v
  | false =>
    rw [h] at hc
    obtain ⟨v, _, rfl⟩ := List.mem_map.1 hc
    rfl
theorem litV_ids (v : Value) : (litV v).ids = [] := by
  unfold litV
  split
  · simp only [V.ids, W.ids, List.flatMap_eq_nil_iff]
    exact wCs_ids _
  · rfl

theorem litW (ρ : Env) (v : Value) : RW ρ (match litV v with | .w x => x | _ => .c (.v v)) v := by
  have := litV_ok ρ v
  cases h : litV v with
  | w x => rw [h] at this; exact this
  | tup l => rfl

theorem litW_ids (v : Value) : (match litV v with | .w x => x | _ => W.c (.v v)).ids = [] := by
  have := litV_ids v
  cases h : litV v with
  | w x => rw [h] at this; exact this
  | tup l => rfl

theorem fnOf_ok {ρ : Env} {c : C} {f : FuncId} {fs cs : List W} {y : Value} (h : fnOf c = some (f, fs, cs)) (hc : RC ρ c y) :
    ∃ a b : List Value, y = .func (.func f) a.toArray b.toArray ∧ RL (RW ρ) fs a ∧ RL (RW ρ) cs b := by
  have lits : ∀ l : List Value, RL (RW ρ) (l.map fun v => match litV v with | .w x => x | _ => W.c (.v v)) l := by
    intro l
    induction l with
    | nil => exact .nil
    | cons v l ih => exact .cons (litW ρ v) ih
  unfold fnOf at h
  split at h
  · rename_i f fs cs
    simp only [Option.some.injEq, Prod.mk.injEq] at h
    obtain ⟨rfl, rfl, rfl⟩ := h
    simp only [RC] at hc
    subst hc
    exact ⟨fs.toList, cs.toList, rfl, lits _, lits _⟩
  · rename_i f caps
    simp only [Option.some.injEq, Prod.mk.injEq] at h
    obtain ⟨rfl, rfl, rfl⟩ := h
    simp only [RC] at hc
    subst hc
    refine ⟨[], _, rfl, .nil, ?_⟩
    induction caps with
    | nil => exact .nil
    | cons p l ih => exact .cons rfl ih
  · cases h

theorem fnOf_ids {base : Nat} {c : C} {f : FuncId} {fs cs : List W} (h : fnOf c = some (f, fs, cs)) (hc : ∀ id ∈ c.ids, ¬ inR base id) : (∀ x ∈ fs, ∀ id ∈ x.ids, ¬ inR base id) ∧ ∀ x ∈ cs, ∀ id ∈ x.ids, ¬ inR base id := by
  have lits : ∀ l : List Value, ∀ x ∈ (l.map fun v => match litV v with | .w x => x | _ => W.c (.v v)), ∀ id ∈ x.ids, ¬ inR base id := by
    intro l x hx id hid
    simp only [List.mem_map] at hx
    obtain ⟨v, _, rfl⟩ := hx
    rw [litW_ids] at hid
    cases hid
  unfold fnOf at h
  split at h
  · simp only [Option.some.injEq, Prod.mk.injEq] at h
    obtain ⟨rfl, rfl, rfl⟩ := h
    exact ⟨lits _, lits _⟩
  · rename_i f caps
    simp only [Option.some.injEq, Prod.mk.injEq] at h
    obtain ⟨rfl, rfl, rfl⟩ := h
    refine ⟨by simp, ?_⟩
    intro x hx id hid
    simp only [List.mem_map] at hx
    obtain ⟨p, hp, rfl⟩ := hx
    simp only [W.ids, C.ids, List.mem_singleton] at hid
    subst hid
    exact hc p.1 (by simp only [C.ids, List.mem_map]; exact ⟨p, hp, rfl⟩)
  · cases h

theorem callEv_ok {P : Program} {tab : Tab} (hT : TabOk P tab) {M M0 : Mem} {base : Nat} {o : Oper} {a : Act} {w : World} {f : Operand} {args : Array Operand} {ts : Array TypeId} {fv : W} {as : List W} {out : Out} {ρ : Env}
    (hop : o.op = .call ⟨.value f, args, ts⟩) (h : callEv P tab M0 base fv as = some out) (ho : ∀ b ∈ out.obs, b = true) (hMs : ∀ id b, M0 id = some b → M id = some b) (hM : MemOk P ρ M w) (hF : Fresh M base)
    (hf : RW ρ fv (a.eval f)) (ha : RL (RW ρ) as (args.toList.map a.eval)) (hfi : ∀ id ∈ fv.ids, ¬ inR base id) (hai : ∀ x ∈ as, ∀ id ∈ x.ids, ¬ inR base id) :
    Does P o a w (fun y w' => ∃ ρ', Good P ρ ρ' M base out w w' y) := by
  unfold callEv at h
  split at h
  · rename_i c
    split at h
    · rename_i g fs cs hfn
      split at h
      · rename_i fn hfun
        obtain ⟨l, m, hy, hl, hm⟩ := fnOf_ok hfn hf
        obtain ⟨hli, hmi⟩ := fnOf_ids hfn hfi
        have hall := (hl.append ha).append hm
        have harr : l.toArray ++ (args.map a.eval) ++ m.toArray = (l ++ args.toList.map a.eval ++ m).toArray := by
          apply Array.ext'
          simp
        have hexec : ∀ w, (execOp a.eval o).run P w = (callFunc g (l ++ args.toList.map a.eval ++ m).toArray).run P w := by
          intro w
          simp only [execOp, hop, resolve, Deferred.ofValue, hy, invoke, Sem.run_bind, Sem.run_pure, Result.andThen_ok, harr]
        cases hbd : fn.body.isSome with
        | true =>
          simp only [hbd, cond_true] at h
          have hnm := hT.name _ fn _ _ _ _ h hfun
          have hcalls := hT.ctr _ _ _ _ _ h ho ρ _ M w hMs hM hF hall (by
            intro x hx
            rcases List.mem_append.1 hx with hx | hx
            · rcases List.mem_append.1 hx with hx | hx
              · exact hli x hx
              · exact hai x hx
            · exact hmi x hx)
          have hne : fn.body.isNone = false := by cases hb : fn.body <;> simp [hb] at hbd ⊢
          have hcf : (callFunc g (l ++ args.toList.map a.eval ++ m).toArray).run P w = .ok (.enter g (l ++ args.toList.map a.eval ++ m).toArray) w := by
            have hnm' : ¬ fn.name = "runtime.NumGoroutine" := by simpa using hnm
            have hne' : ¬ fn.body = none := by intro e; rw [e] at hbd; cases hbd
            simp [callFunc, hfun, hnm', hne']
          intro K Q hK
          unfold Oper.wp
          rw [hexec, hcf, Oper.upon_enter]
          refine hcalls.mono ?_
          rintro e w' ⟨y, ρ', rfl, hg⟩
          exact hK y w' ⟨ρ', hg⟩
        | false =>
          simp only [hbd, cond_false] at h
          obtain ⟨hu, hext⟩ := hT.ext _ _ _ h ho
          obtain ⟨y, hyv, hrun⟩ := hext ρ _ (RLW.norm hall)
          refine Does.of_run (y := y) (w' := w) (by rw [hexec]; exact hrun w) ⟨ρ, ?_⟩
          have : out = ⟨out.v, [], out.obs⟩ := by cases out; simp at hu; subst hu; rfl
          rw [this]
          exact Good.same hM hyv rfl rfl rfl rfl
      · cases h
    · cases h
  · cases h

theorem makeFuncEv_ok {f : Fn} {first caps : List W} {out : Out} {ρ : Env} {us vs : List Value} (h : makeFuncEv f first caps = some out) (h1 : RL (RW ρ) first us) (h2 : RL (RW ρ) caps vs) :
    ∃ v, out = ⟨some v, [], []⟩ ∧ RV ρ v (.func f us.toArray vs.toArray) := by
  unfold makeFuncEv at h
  split at h
  · rename_i f
    cases h1
    split at h
    · simp only [out1, Option.some.injEq] at h
      subst h
      cases h2
      exact ⟨_, rfl, rfl⟩
    · split at h
      · rename_i l hl
        simp only [out1, Option.some.injEq] at h
        subst h
        refine ⟨_, rfl, ?_⟩
        have key : ∀ (ws : List W) (vs : List Value) (l : List (Nat × Nat)), RL (RW ρ) ws vs → caps? ws = some l → vs = l.map fun p => Value.pointer (some ⟨ρ.b p.1, ρ.o p.1 + p.2, none⟩) := by
          intro ws
          induction ws with
          | nil => intro vs l h hc; cases h; simp [caps?] at hc; subst hc; rfl
          | cons x ws ih =>
            intro vs l h hc
            cases h with
            | cons hx hr =>
              cases x with
              | c c =>
                cases c with
                | ptr id off =>
                  simp only [caps?] at hc
                  split at hc
                  · rename_i l' hl'
                    simp at hc; subst hc
                    simp only [List.map_cons]
                    rw [ih _ _ hr hl']
                    simp only [RW, RC] at hx
                    rw [hx]
                  · cases hc
                | _ => simp [caps?] at hc
              | _ => simp [caps?] at hc
        simp only [RV, RW, RC]
        rw [key _ _ _ h2 hl]
      · cases h
  · rename_i f x r
    split at h
    · rename_i fs hl
      simp only [out1, Option.some.injEq] at h
      subst h
      cases h2
      have kc : ∀ (l : List C) (cs m : List Value), RL (RC ρ) l cs → litCs l = some m → cs = m := by
        intro l
        induction l with
        | nil => intro cs m h he; cases h; simp [litCs] at he; exact he.symm ▸ rfl
        | cons c l ih =>
          intro cs m h he
          cases h with
          | cons hc hl =>
            cases c with
            | v x =>
              simp only [litCs] at he
              split at he
              · rename_i l' hl'
                cases he
                have hx : _ = x := hc
                rw [hx, ih _ _ hl hl']
              · cases he
            | _ => simp [litCs] at he
      have kw : ∀ (l : List W) (vs m : List Value), RL (RW ρ) l vs → litWs l = some m → vs = m := by
        intro l
        induction l with
        | nil => intro cs m h he; cases h; simp [litWs] at he; exact he.symm ▸ rfl
        | cons c l ih =>
          intro cs m h he
          cases h with
          | cons hc hl =>
            unfold litWs at he
            split at he
            · rename_i e; cases e
            · rename_i x r e
              cases e
              split at he
              · rename_i l' hl'
                cases he
                have hx : _ = x := hc
                rw [hx, ih _ _ hl hl']
              · cases he
            · rename_i l0 r e
              cases e
              split at he
              · rename_i c' m' hc' hm'
                cases he
                obtain ⟨cs, rfl, hcl⟩ := hc
                rw [kc _ _ _ hcl hc', ih _ _ hl hm']
              · cases he
            · cases he
      rw [kw _ _ _ h1 hl]
      exact ⟨_, rfl, rfl⟩
    · cases h
  · cases h

theorem RL.one {α β : Type} {R : α → β → Prop} {x : α} {m : List β} (h : RL R [x] m) : ∃ y, m = [y] ∧ R x y := by
  cases h with
  | cons hx hn => cases hn; exact ⟨_, rfl, hx⟩
theorem RL.two {α β : Type} {R : α → β → Prop} {x x' : α} {m : List β} (h : RL R [x, x'] m) : ∃ y y', m = [y, y'] ∧ R x y ∧ R x' y' := by
  cases h with
  | cons hx hn => obtain ⟨y', rfl, h'⟩ := hn.one; exact ⟨_, _, rfl, hx, h'⟩

theorem srcBytes_ok {P : Program} {M M0 : Mem} {x : W} {xs : List Int} {o : List Bool} {ρ : Env} {w : World} {z : Value} (h : srcBytes M0 x = some (xs, o)) (ho : ∀ b ∈ o, b = true) (hMs : ∀ id b, M0 id = some b → M id = some b) (hM : MemOk P ρ M w) (hx : RW ρ x z) :
    (Builtin.lenOf z).run P w = .ok xs.length w ∧ ∀ c, c ≤ xs.length → ∃ cs, (Builtin.firstCells 1 c z).run P w = .ok cs w ∧ cs.toList = (xs.take c).map (Value.int .u8) := by
  unfold srcBytes at h
  split at h
  · rename_i s
    simp only [Option.some.injEq, Prod.mk.injEq] at h
    obtain ⟨rfl, rfl⟩ := h
    have hz : z = .string s := hx
    subst hz
    refine ⟨by simp [Builtin.lenOf, bytesOf], fun c hc => ⟨_, rfl, ?_⟩⟩
    simp only [Array.toList_map, bytesOf, ← List.map_take, List.map_map]
    congr 1
    simp [ByteArray.extract, ByteArray.copySlice]
  · rename_i c _
    split at h
    · rename_i id off n hs
      split at h
      · rename_i blk hid
        obtain ⟨a, cap, rfl, hnc, ha⟩ := C.slice_ok hs hMs hM hx
        have hcells := (hM.rel id blk (hMs _ _ hid)).cells
        obtain ⟨hl, hread⟩ := K.bytes_ok hcells h ho
        refine ⟨by simp [Builtin.lenOf, hl], fun c hc => ?_⟩
        cases a with
        | none =>
          have : c = 0 := by
            rcases Nat.eq_zero_or_pos n with h0 | h0
            · omega
            · exact absurd (ha h0) (by simp)
          subst this
          exact ⟨#[], rfl, by simp⟩
        | some a =>
          refine ⟨((xs.take c).map (Value.int .u8)).toArray, ?_, by simp⟩
          have hlen : ((xs.take c).map (Value.int .u8)).length = c := by simp; omega
          have := run_loadCells_list (P := P) w a ((xs.take c).map (Value.int .u8)) (fun j v hj => by
            have hjc : j < c := by
              have := (List.getElem?_eq_some_iff.1 hj).1
              omega
            have e := ha (by omega)
            simp only [Option.some.injEq] at e
            subst e
            rw [add_at, Nat.add_assoc]
            refine hread j v ?_
            rw [List.getElem?_map, List.getElem?_take, if_pos hjc, ← List.getElem?_map] at hj
            exact hj)
          rw [hlen] at this
          simpa [Builtin.firstCells] using this
      · cases h
    · cases h
  · cases h

theorem copyEv_ok {P : Program} {M M0 : Mem} {base : Nat} {T : TypeId} {ts : Array TypeId} {d x : W} {out : Out} {ρ : Env} {w : World} {y z : Value} (ty : TypeId) (hT : ts[0]? = some T) (h : copyEv P M0 T d x = some out) (ho : ∀ b ∈ out.obs, b = true)
    (hMs : ∀ id b, M0 id = some b → M id = some b) (hM : MemOk P ρ M w) (hd : RW ρ d y) (hx : RW ρ x z) :
    ∃ r w', (Builtin.copy_ ts ty #[y, z]).run P w = .ok r w' ∧ Good P ρ ρ M base out w w' r := by
  unfold copyEv at h
  split at h
  · rename_i d e xs o he hsrc
    split at h
    · rename_i id off n hs
      split at h
      · rename_i ty' mode l hid
        cases hb : (mode.writes && Nat.beq (P.cellsOf e) 1) with
        | false => simp [hb] at h
        | true =>
          simp only [hb, cond_true, Option.some.injEq] at h
          subst h
          simp only [Bool.and_eq_true, Nat.beq_eq] at hb
          obtain ⟨hmode, hc1⟩ := hb
          have hfit : off + n ≤ l.length := by simpa using ho _ (List.mem_cons_self ..)
          obtain ⟨hlen, hfirst⟩ := srcBytes_ok hsrc (fun b hb => ho b (List.mem_cons_of_mem _ hb)) hMs hM hx
          obtain ⟨a, cap, rfl, hnc, ha⟩ := C.slice_ok hs hMs hM hd
          have hmin : (min xs.length n : Nat) = Nat.min xs.length n := rfl
          have m1 : Nat.min xs.length n ≤ xs.length := Nat.min_le_left _ _
          have m2 : Nat.min xs.length n ≤ n := Nat.min_le_right _ _
          have m3 : Nat.min xs.length n = xs.length ∨ Nat.min xs.length n = n := by
            rcases Nat.le_total xs.length n with hh | hh
            · exact .inl (Nat.min_eq_left hh)
            · exact .inr (Nat.min_eq_right hh)
          have hu := elemOfSlice_ok he
          have hsz : ∃ i, P.info? e = some i ∧ i.size = 1 := by
            cases hi : P.info? e with
            | none => simp [Program.cellsOf, hi] at hc1
            | some i => exact ⟨i, rfl, by simpa [Program.cellsOf, hi] using hc1⟩
          obtain ⟨i, hi, hi1⟩ := hsz
          rw [hmin]
          obtain ⟨cs, hcs, hcl⟩ := hfirst (Nat.min xs.length n) m1
          have hid' := hMs _ _ hid
          have hrel := hM.rel id _ hid'
          have hres : ∀ w', (match a with | some a => storeCells a cs.toList | none => pure ()).run P w = .ok () w' →
              (Builtin.copy_ ts ty #[.slice a n cap, z]).run P w = .ok (.int .i64 (Nat.min xs.length n : Nat)) w' := by
            intro w' hw'
            have hso : (Go.sizeOf e).run P w = .ok 1 w := by simp [Go.sizeOf, typeInfo, hi, hi1]
            cases a with
            | none =>
              simp only [Sem.run_pure, Result.ok.injEq, true_and] at hw'
              subst hw'
              simp [Builtin.copy_, hT, run_underlying hu, hlen, hso, hcs, goInt]
            | some a => simp [Builtin.copy_, hT, run_underlying hu, hlen, hso, hcs, hw', goInt]
          generalize Nat.min xs.length n = c at *
          have htake : xs.take n = xs.take c := by
            rcases m3 with rfl | rfl
            · rw [List.take_of_length_le m2, List.take_of_length_le (Nat.le_refl _)]
            · rfl
          have hcsl : cs.toList.length = c := by
            rw [hcl]
            simp only [List.length_map, List.length_take]
            omega
          rcases Nat.eq_zero_or_pos c with h0 | hpos
          · have hnil : cs.toList = [] := List.eq_nil_of_length_eq_zero (by omega)
            have hput : putL l off (xs.take n) = l := by
              have : xs.take n = [] := by rw [htake, h0]; rfl
              rw [this]
              simp [putL]
            refine ⟨_, w, hres w (by rw [hnil]; cases a <;> rfl), ?_⟩
            rw [hput]
            exact Good.same_put hM hid' (by rintro _ ⟨⟩; rfl)
          · have ha' := ha (by omega)
            subst ha'
            have hk : ∀ read, K.Is ρ (.ints .u8 l) read → K.Is ρ (.ints .u8 (putL l off (xs.take n))) (fun i => if off ≤ i ∧ i < off + cs.toList.length then cs.toList[i - off]? else read i) := by
              intro read hr
              intro j hj
              have hcx : cs.toList = (xs.take n).map (Value.int .u8) := by rw [hcl, htake]
              have hxl : (xs.take n).length = c := by rw [htake]; simp only [List.length_take]; omega
              simp only [putL, List.length_append, List.length_take, List.length_drop] at hj
              show (if off ≤ j ∧ j < off + cs.toList.length then cs.toList[j - off]? else read j) = _
              by_cases hc : off ≤ j ∧ j < off + cs.toList.length
              · rw [if_pos hc, hcx, List.getElem?_map]
                have hj2 : j - off < (xs.take n).length := by omega
                have : (putL l off (xs.take n)).getD j 0 = (xs.take n)[j - off] := by
                  simp only [putL, List.getD]
                  rw [List.getElem?_append_right (by simp; omega), List.getElem?_append_left (by simp only [List.length_take] at hj2 ⊢; omega)]
                  rw [show j - (l.take off).length = j - off by simp; omega, List.getElem?_eq_getElem hj2]
                  rfl
                rw [this, List.getElem?_eq_getElem hj2]
                rfl
              · rw [if_neg hc]
                have hjl : j < l.length := by omega
                have : (putL l off (xs.take n)).getD j 0 = l.getD j 0 := by
                  simp only [putL, List.getD]
                  rcases Nat.lt_or_ge j off with hlt | hge
                  · rw [List.getElem?_append_left (by simp; omega), List.getElem?_take, if_pos hlt]
                  · rw [List.getElem?_append_right (by simp; omega), List.getElem?_append_right (by simp only [List.length_take] at hxl ⊢; omega), List.getElem?_drop]
                    congr 3
                    simp only [List.length_take] at hxl ⊢
                    omega
                rw [this]
                exact hr j hjl
            obtain ⟨hlive, w', hrun, hrel', hs', hoth, hos, htp, hout⟩ := hrel.write (id := id) (off := off) (vs := cs.toList) (k' := .ints .u8 (putL l off (xs.take n))) hmode hk
              (by
                have : (xs.take n).length ≤ n := by simp; omega
                simp [K.len, putL]; omega) (by omega) (by simp only [K.len]; omega) (by
                intro v hv
                rw [hcl] at hv
                obtain ⟨q, _, rfl⟩ := List.mem_map.1 hv
                rfl)
            exact ⟨_, w', hres w' hrun, Good.write hM hid' hlive rfl hs' hoth hos htp hout (by rintro _ ⟨⟩; rfl) hrel'⟩
      · cases h
    · cases h
  · cases h

theorem builtinEv_ok {P : Program} {M M0 : Mem} {base : Nat} {b : Builtin} {ts : Array TypeId} {as : List W} {out : Out} {ρ : Env} {w : World} {vs : List Value} (ty : TypeId) (cb : Array Bool) (h : builtinEv P M0 base b ts as = some out)
    (ho : ∀ b ∈ out.obs, b = true) (hMs : ∀ id b, M0 id = some b → M id = some b) (hM : MemOk P ρ M w) (hF : Fresh M base) (ha : RL (RW ρ) as vs) :
    ∃ r w' ρ', (builtin b ts ty cb vs.toArray).run P w = .ok (.value r) w' ∧ Good P ρ ρ' M base out w w' r := by
  unfold builtinEv at h
  split at h
  · rename_i x
    obtain ⟨y, rfl, hx⟩ := ha.one
    split at h
    · rename_i T hT
      obtain ⟨v, r, rfl, hr, hrun⟩ := lenEv_ok (ty := ty) hT h hMs hM hx
      exact ⟨r, w, ρ, by simp [builtin, hrun], Good.same hM (by rintro _ ⟨⟩; exact hr) rfl rfl rfl rfl⟩
    · cases h
  · rename_i s x
    obtain ⟨y, z, rfl, hs, hx⟩ := ha.two
    split at h
    · rename_i T T' hT hT'
      obtain ⟨r, w', ρ', hrun, hg⟩ := appendEv_ok (ty := ty) h ho hMs hM hF hs hx
      refine ⟨r, w', ρ', ?_, hg⟩
      have e : (Builtin.append_ ts ty #[y, z]).run P w = (Builtin.append_ #[T, T'] ty #[y, z]).run P w := by
        simp only [Builtin.append_, hT, hT']
        rfl
      simp only [builtin, Sem.run_bind, e, hrun, Result.andThen_ok, Sem.run_pure]
    · cases h
  · rename_i d x
    obtain ⟨y, z, rfl, hd, hx⟩ := ha.two
    split at h
    · rename_i T hT
      obtain ⟨r, w', hrun, hg⟩ := copyEv_ok (base := base) ty hT h ho hMs hM hd hx
      exact ⟨r, w', ρ, by simp only [builtin, Sem.run_bind, hrun, Result.andThen_ok, Sem.run_pure], hg⟩
    · cases h
  · rename_i x y
    obtain ⟨u, v, rfl, hx, hy⟩ := ha.two
    unfold min2Ev at h
    split at h
    · rename_i k a k' b
      cases hk : kEq k k' with
      | false => simp [hk] at h
      | true =>
        simp only [hk, cond_true, out1, Option.some.injEq] at h
        subst h
        simp only [RW, RC] at hx hy
        subst hx; subst hy
        refine ⟨.int k (if b < a then b else a), w, ρ, ?_, Good.same hM (by rintro _ ⟨⟩; rfl) rfl rfl rfl rfl⟩
        simp [builtin, Builtin.min_, Builtin.min2]
    · cases h
  · rename_i x y
    obtain ⟨u, v, rfl, hx, hy⟩ := ha.two
    unfold max2Ev at h
    split at h
    · rename_i k a k' b
      cases hk : kEq k k' with
      | false => simp [hk] at h
      | true =>
        simp only [hk, cond_true, out1, Option.some.injEq] at h
        subst h
        simp only [RW, RC] at hx hy
        subst hx; subst hy
        refine ⟨.int k (if b > a then b else a), w, ρ, ?_, Good.same hM (by rintro _ ⟨⟩; rfl) rfl rfl rfl rfl⟩
        simp [builtin, Builtin.max_, Builtin.max2]
    · cases h
  · cases h

/-- every operation does what the symbolic one says. -/
theorem core_ok {P : Program} {tab : Tab} (hT : TabOk P tab) {M M0 : Mem} {base : Nat} {o : Oper} {t : Tms} {a : Act} {w : World} {out : Out} {ρ : Env} (h : core P tab base o t M0 = some out) (ho : ∀ b ∈ out.obs, b = true)
    (hMs : ∀ id b, M0 id = some b → M id = some b) (hM : MemOk P ρ M w) (hF : Fresh M base) (hev : ∀ x v, ev t x = some v → RV ρ v (a.eval x)) (hfr : ∀ x v, ev t x = some v → ∀ id ∈ v.ids, ¬ inR base id) :
    Does P o a w (fun y w' => ∃ ρ', Good P ρ ρ' M base out w w' y) := by
  unfold core at h
  have same : ∀ {x : Operand} {v : V}, ev t x = some v → (execOp a.eval o).run P w = .ok (.value (a.eval x)) w → out1 v = some out → Does P o a w (fun y w' => ∃ ρ', Good P ρ ρ' M base out w w' y) := by
    intro x v hx hr ho
    simp only [out1, Option.some.injEq] at ho
    subst ho
    exact Does.of_run hr ⟨ρ, Good.same hM (by rintro _ ⟨⟩; exact hev x v hx) rfl rfl rfl rfl⟩
  have val : ∀ {y : Value} {v : V} {obs : List Bool}, out = ⟨some v, [], obs⟩ → RV ρ v y → (execOp a.eval o).run P w = .ok (.value y) w → Does P o a w (fun y w' => ∃ ρ', Good P ρ ρ' M base out w w' y) := by
    rintro y v obs rfl hv hr
    exact Does.of_run hr ⟨ρ, Good.same hM (by rintro _ ⟨⟩; exact hv) rfl rfl rfl rfl⟩
  have full : ∀ {y : Value} {w' : World} {ρ' : Env}, (execOp a.eval o).run P w = .ok (.value y) w' → Good P ρ ρ' M base out w w' y → Does P o a w (fun y w' => ∃ ρ', Good P ρ ρ' M base out w w' y) :=
    fun hr hg => Does.of_run hr ⟨_, hg⟩
  split at h
  · rename_i x hop
    split at h
    · rename_i v hv; exact same hv (by simp [execOp, hop]) h
    · cases h
  · rename_i x hop
    split at h
    · rename_i v hv; exact same hv (by simp [execOp, hop]) h
    · cases h
  · rename_i c x y hop
    split at h
    · rename_i b hb
      have hc := hev c _ hb
      simp only [RV, RW, RC] at hc
      split at h
      · rename_i v hv
        cases b
        · simp only [cond_false] at hv; exact same hv (by simp [execOp, hop, hc, asBool]) h
        · simp only [cond_true] at hv; exact same hv (by simp [execOp, hop, hc, asBool]) h
      · cases h
    · cases h
  · rename_i T hop
    obtain ⟨y, w', ρ', hrun, hg⟩ := allocEv_ok h hM hF
    exact full (by simp [execOp, hop, hrun]) hg
  · rename_i T x hop
    split at h
    · rename_i v hv
      obtain ⟨y, w', ρ', hrun, hg⟩ := boxEv_ok (P := P) h hM hF (evw_ok hev hv) (evw_ids hfr hv)
      exact full (by simp [execOp, hop, hrun]) hg
    · cases h
  · rename_i T ps hop
    split at h
    · rename_i l hl
      obtain ⟨v, r, he, hr, hrun⟩ := buildEv_ok (w := w) h (evParts_ok hev _ _ hl)
      have e : (ps.toList.map fun (x : Nat × Operand) => (x.1, a.eval x.2)).toArray = ps.map fun (i, x) => (i, a.eval x) := by
        apply Array.ext'; simp
      refine val he hr ?_
      rw [e] at hrun
      simp [execOp, hop, hrun]
    · cases h
  · rename_i T n ps hop
    split at h
    · rename_i l hl
      obtain ⟨r, w', ρ', hrun, hg⟩ := buildSliceEv_ok h ho hM hF (evParts_ok hev _ _ hl) (evParts_ids hfr hl)
      have e : (ps.toList.map fun (x : Nat × Operand) => (x.1, a.eval x.2)).toArray = ps.map fun (i, x) => (i, a.eval x) := by
        apply Array.ext'; simp
      refine full ?_ hg
      rw [e] at hrun
      simp [execOp, hop, hrun]
    · cases h
  · rename_i T x hop
    split at h
    · rename_i v hv
      obtain ⟨v', r, he, hr, hrun⟩ := loadEv_ok h ho hMs hM (evw_ok hev hv)
      exact val he hr (by simp [execOp, hop, hrun])
    · cases h
  · rename_i T x v hop
    split at h
    · rename_i xv vv hx hv
      obtain ⟨w', hrun, hg⟩ := storeEv_ok (base := base) h ho hMs hM (evw_ok hev hx) (evw_ok hev hv)
      exact Does.of_skip (by simp [execOp, hop, hrun]) ⟨ρ, hg⟩
    · cases h
  · rename_i x hop
    split at h
    · rename_i id off hx
      have hc := hev x _ hx
      simp only [RV, RW, RC] at hc
      exact same hx (by simp [execOp, hop, hc]) h
    · rename_i f c hx
      have hc := hev x _ hx
      simp only [RV, RW, RC] at hc
      exact same hx (by simp [execOp, hop, hc]) h
    · rename_i f b c hx
      have hc := hev x _ hx
      simp only [RV, RW, RC] at hc
      exact same hx (by simp [execOp, hop, hc]) h
    · cases h
  · rename_i op T x y yt hop
    split at h
    · rename_i xv yv hx hy
      obtain ⟨v, r, he, hr, hg, hrun⟩ := binU_ok hT (w := w) (ox := x) (oy := y) h ho (evw_ok hev hx) (evw_ok hev hy)
      exact val he hr (by simp [execOp, hop, hg, hrun])
    · cases h
  · rename_i op T x hop
    split at h
    · rename_i xv hx
      obtain ⟨v, r, he, hr, hrun⟩ := unEv_ok (P := P) h (evn_ok hev hx)
      exact val he hr (by simp [execOp, hop, hrun])
    · cases h
  · rename_i s d x hop
    split at h
    · rename_i xv hx
      obtain ⟨r, w', ρ', hrun, hg⟩ := convU_ok h ho hMs hM hF (evw_ok hev hx)
      exact full (by simp [execOp, hop, hrun]) hg
    · cases h
  · rename_i f first caps hop
    split at h
    · rename_i us vs hu hv
      obtain ⟨v, he, hr⟩ := makeFuncEv_ok h (evws_ok hev hu) (evws_ok hev hv)
      refine val he hr ?_
      simp [execOp, hop, Instr.makeFunc]
      exact ⟨by apply Array.ext'; simp, by apply Array.ext'; simp⟩
    · cases h
  · rename_i T l c hop
    split at h
    · rename_i lv cv hl hc
      obtain ⟨r, w', ρ', hrun, hg⟩ := makeSliceEv_ok h ho hM hF (evw_ok hev hl) (evw_ok hev hc)
      exact full (by simp [execOp, hop, hrun]) hg
    · cases h
  · rename_i T x lo hi mx hop
    split at h
    · rename_i xv hx
      obtain ⟨v, r, he, hr, hrun⟩ := sliceEv_ok h ho hMs hM (evw_ok hev hx) hev
      exact val he hr (by simp [execOp, hop, hrun])
    · cases h
  · rename_i T x f hop
    split at h
    · rename_i xv hx
      obtain ⟨v, r, he, hr, hrun⟩ := fieldAddrEv_ok h (evw_ok hev hx)
      exact val he hr (by simp [execOp, hop, hrun])
    · cases h
  · rename_i T x f hop
    split at h
    · rename_i xv hx
      obtain ⟨v, r, he, hr, hrun⟩ := fieldEv_ok h (evw_ok hev hx)
      exact val he hr (by simp [execOp, hop, hrun])
    · cases h
  · rename_i T x i hop
    split at h
    · rename_i xv iv hx hi
      obtain ⟨v, r, he, hr, hrun⟩ := indexAddrEv_ok h ho hMs hM (evw_ok hev hx) (evw_ok hev hi)
      exact val he hr (by simp [execOp, hop, hrun])
    · cases h
  · rename_i T x i hop
    split at h
    · rename_i xv iv hx hi
      obtain ⟨v, r, he, hr, hrun⟩ := indexEv_ok h ho (evw_ok hev hx) (evw_ok hev hi)
      exact val he hr (by simp [execOp, hop, hrun])
    · cases h
  · rename_i x i hop
    split at h
    · rename_i l hx
      split at h
      · rename_i wv hw
        have hc := hev x _ hx
        obtain ⟨vs, hvs, hl⟩ := hc
        obtain ⟨b, hb, hr⟩ := hl.get i wv hw
        simp only [out1, Option.some.injEq] at h
        exact val h.symm hr (by simp [execOp, hop, hvs, Instr.extract, hb])
      · cases h
    · cases h
  · rename_i b args ts hop
    split at h
    · rename_i l hl
      obtain ⟨r, w', ρ', hrun, hg⟩ := builtinEv_ok o.type (args.map fun | .const _ => true | _ => false) h ho hMs hM hF (evws_ok hev hl)
      refine full ?_ hg
      have e : (args.toList.map a.eval).toArray = args.map a.eval := by apply Array.ext'; simp
      rw [e] at hrun
      simp only [execOp, hop, resolve, invoke, Sem.run_bind, Sem.run_pure, Result.andThen_ok]
      exact hrun
    · cases h
  · rename_i f args ts hop
    split at h
    · rename_i fv as hf ha
      exact callEv_ok hT hop h ho hMs hM hF (evw_ok hev hf) (evws_ok hev ha) (evw_ids hfr hf) (evws_ids hfr ha)
    · cases h
  · rename_i T x hop
    split at h
    · rename_i xv hx
      obtain ⟨v, r, he, hr, hrun⟩ := arrayAtEv_ok h ho hMs hM (evw_ok hev hx)
      exact val he hr (by simp [execOp, hop, hrun])
    · cases h
  · cases h

end Sx
