/- The symbolic executor, part W: libraries of contracts; arguments that are only read; laws. -/
import Derived.Test.YtmjejlbmcefaoaaSxV
namespace Sx
open Go Go.RowKit

abbrev Entry := List W → List Blk → Option (Res × List Bool)
def EntryOk (P : Program) (f : FuncId) (F : Entry) : Prop := ∀ args ms r obs, F args ms = some (r, obs) → (∀ b ∈ obs, b = true) → Spec P f args ms r

def findE : List (Nat × Entry) → Nat → Entry
  | [], _ => fun _ _ => none
  | (g, F) :: l, f => bif Nat.beq f g then F else findE l f

def AllOk (P : Program) (l : List (Nat × Entry)) : Prop := ∀ p ∈ l, EntryOk P p.1 p.2

theorem AllOk.nil (P : Program) : AllOk P [] := by intro p hp; cases hp
theorem AllOk.cons {P : Program} {f : Nat} {F : Entry} {l : List (Nat × Entry)} (h : EntryOk P f F) (hl : AllOk P l) : AllOk P ((f, F) :: l) := by
  intro p hp
  rcases List.mem_cons.1 hp with rfl | hp
  · exact h
  · exact hl p hp
theorem AllOk.append {P : Program} {l m : List (Nat × Entry)} (h : AllOk P l) (k : AllOk P m) : AllOk P (l ++ m) := by
  intro p hp
  rcases List.mem_append.1 hp with hp | hp
  · exact h p hp
  · exact k p hp

theorem findE_ok {P : Program} : ∀ {l : List (Nat × Entry)}, AllOk P l → FsOk P (findE l)
  | [], _, f, args, ms, r, obs, h, _ => by simp [findE] at h
  | (g, F) :: l, hl, f, args, ms, r, obs, h, ho => by
    simp only [findE] at h
    cases hb : Nat.beq f g with
    | true =>
      simp only [hb, cond_true] at h
      have := Nat.beq_eq.mp hb
      subst this
      exact hl (f, F) (by simp) args ms r obs h ho
    | false =>
      simp only [hb, cond_false] at h
      exact findE_ok (fun p hp => hl p (by simp [hp])) f args ms r obs h ho

/-- sums and differences of words with a carry (math/bits). -/
def addS (x y c : Int) : Int := Int.ofNat ((x.toNat + y.toNat + c.toNat) % 18446744073709551616)
def addC (x y c : Int) : Int := Int.ofNat ((x.toNat + y.toNat + c.toNat) / 18446744073709551616)
def subS (x y b : Int) : Int := Int.ofNat ((x.toNat + 18446744073709551616 - y.toNat - b.toNat) % 18446744073709551616)
def subB (x y b : Int) : Int := Int.ofNat (if x.toNat < y.toNat + b.toNat then 1 else 0)

def extOf (ad sb : Nat) (f : Nat) (args : List W) : Option Out :=
  match args with
  | [.c (.v (.int _ x)), .c (.v (.int _ y)), .c (.v (.int _ c))] =>
    bif Nat.beq f ad then some ⟨some (.tup [W.int .u64 (addS x y c), W.int .u64 (addC x y c)]), [], [Nat.ble c.toNat 1]⟩
    else bif Nat.beq f sb then some ⟨some (.tup [W.int .u64 (subS x y c), W.int .u64 (subB x y c)]), [], [Nat.ble c.toNat 1]⟩
    else none
  | _ => none

def extName (P : Program) (f : Nat) (nm : String) (e : Array Value → Sem Value) : Prop :=
  ∃ fn, P.funcs[f]? = some fn ∧ (fn.name == "runtime.NumGoroutine") = false ∧ fn.body.isNone = true ∧ Extern.findNext fn = none ∧ Extern.find fn = some e ∧ fn.name = nm

def carryRow (i : Nat) : Array Value → Sem Value := ((Extern.MathBitsCarry.rows[i]?).getD ("", fun _ => stuck "")).2

theorem key_add (P : Program) (w : World) (k1 k2 k3 : IntKind) (x y c : Int) (hc : c.toNat ≤ 1) :
    (carryRow 0 #[.int k1 x, .int k2 y, .int k3 c]).run P w = .ok (.tuple #[.int .u64 (addS x y c), .int .u64 (addC x y c)]) w := by
  cases c with
  | negSucc m => rfl
  | ofNat k =>
    have hk : k ≤ 1 := hc
    have : k = 0 ∨ k = 1 := by omega
    rcases this with rfl | rfl <;> rfl
theorem key_sub (P : Program) (w : World) (k1 k2 k3 : IntKind) (x y c : Int) (hc : c.toNat ≤ 1) :
    (carryRow 1 #[.int k1 x, .int k2 y, .int k3 c]).run P w = .ok (.tuple #[.int .u64 (subS x y c), .int .u64 (subB x y c)]) w := by
  cases c with
  | negSucc m => rfl
  | ofNat k =>
    have hk : k ≤ 1 := hc
    have : k = 0 ∨ k = 1 := by omega
    rcases this with rfl | rfl <;> rfl

theorem extOf_ok {P : Program} {ad sb : Nat} (ha : extName P ad "math/bits.Add64" (carryRow 0)) (hs : extName P sb "math/bits.Sub64" (carryRow 1)) :
    ∀ f args out, extOf ad sb f args = some out → (∀ b ∈ out.obs, b = true) → out.upd = [] ∧ ∀ ρ vs, RL (RW ρ) args vs → ∃ y, (∀ v, out.v = some v → RV ρ v y) ∧
    ∀ w, (callFunc f vs.toArray).run P w = .ok (.value y) w := by
  intro f args out h ho
  unfold extOf at h
  split at h
  · rename_i k1 x k2 y k3 c
    cases h1 : Nat.beq f ad with
    | true =>
      simp only [h1, cond_true, Option.some.injEq] at h
      subst h
      have := Nat.beq_eq.mp h1
      subst this
      have hc : c.toNat ≤ 1 := by simpa using ho
      have hc' : ¬ 1 < c.toNat := by omega
      refine ⟨rfl, fun ρ vs hv => ?_⟩
      cases hv with | cons a hv => cases hv with | cons b hv => cases hv with | cons d hv => cases hv with | nil =>
      simp only [RW, RC] at a b d
      subst a; subst b; subst d
      refine ⟨.tuple #[.int .u64 (addS x y c), .int .u64 (addC x y c)], ?_, fun w => ?_⟩
      · rintro v ⟨⟩
        exact ⟨_, rfl, .cons rfl (.cons rfl .nil)⟩
      · obtain ⟨fn, hf, hn, hb, hne, he, _⟩ := ha
        rw [run_callFunc_extern hf hn hb hne he]
        exact congrArg (fun r => r.andThen fun v w' => Result.ok (Next.value v) w') (key_add P w k1 k2 k3 x y c hc)
    | false =>
      simp only [h1, cond_false] at h
      cases h2 : Nat.beq f sb with
      | false => simp [h2] at h
      | true =>
        simp only [h2, cond_true, Option.some.injEq] at h
        subst h
        have := Nat.beq_eq.mp h2
        subst this
        have hc : c.toNat ≤ 1 := by simpa using ho
        refine ⟨rfl, fun ρ vs hv => ?_⟩
        cases hv with | cons a hv => cases hv with | cons b hv => cases hv with | cons d hv => cases hv with | nil =>
        simp only [RW, RC] at a b d
        subst a; subst b; subst d
        refine ⟨.tuple #[.int .u64 (subS x y c), .int .u64 (subB x y c)], ?_, fun w => ?_⟩
        · rintro v ⟨⟩
          exact ⟨_, rfl, .cons rfl (.cons rfl .nil)⟩
        · obtain ⟨fn, hf, hn, hb, hne, he, _⟩ := hs
          rw [run_callFunc_extern hf hn hb hne he]
          exact congrArg (fun r => r.andThen fun v w' => Result.ok (Next.value v) w') (key_sub P w k1 k2 k3 x y c hc)
  · cases h

def tabOf (l : List (Nat × Entry)) (ad sb : Nat) (eqs : List (TypeId × List Nat)) : Tab := ⟨mkCtr (findE l), extOf ad sb, eqsOf eqs⟩

theorem tabOf_ok {P : Program} {l : List (Nat × Entry)} {ad sb : Nat} {eqs : List (TypeId × List Nat)} (hl : AllOk P l) (hn : (P.funcs.toList.all fun fn => !(fn.name == "runtime.NumGoroutine")) = true)
    (ha : extName P ad "math/bits.Add64" (carryRow 0)) (hs : extName P sb "math/bits.Sub64" (carryRow 1)) (he : eqListOk P eqs = true) : TabOk P (tabOf l ad sb eqs) where
  ctr := fun f args look base out h ho ρ vs M w hMs hM hF ha _ => mkCtr_ok (findE_ok hl) h ho hMs hM hF ha
  name := fun f fn args look base out _ hf => by
    simp only [List.all_eq_true, Bool.not_eq_true'] at hn
    exact hn fn (by rw [← Array.getElem?_toList] at hf; exact List.mem_of_getElem? hf)
  ext := extOf_ok ha hs
  eqs := eqs_ok he

end Sx
