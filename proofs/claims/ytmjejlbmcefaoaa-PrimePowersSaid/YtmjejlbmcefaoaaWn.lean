/- Contracts: other values that stand for the same; runs whose obligations reckon themselves out. -/
import Derived.Test.YtmjejlbmcefaoaaSc
namespace Sx
open Go Go.RowKit

theorem Spec.resv {P : Program} {f : FuncId} {as : List W} {ms : List Blk} {r : Res} {v : V} (hi : ∀ ρ y, RV ρ r.v y → RV ρ v y) (h : Spec P f as ms r) : Spec P f as ms ⟨v, r.upd, r.new⟩ := by
  intro ρ vs w ha hM
  refine (h ρ vs w ha hM).mono ?_
  rintro e w' ⟨y, ρ', he, hv, hr⟩
  exact ⟨y, ρ', he, hi ρ' y hv, hr⟩

/-- an integer cell and a word that are the same. -/
theorem rc_word {n : Int} {m : Nat} (h : n = ((m % 18446744073709551616 : Nat) : Int)) {ρ : Env} {y : Value} : RC ρ (.v (.int .u64 n)) y ↔ RC ρ (.u m) y := by
  subst h
  exact Iff.rfl
theorem rl4 {R : C → Value → Prop} {a b c d a' b' c' d' : C} (h0 : ∀ y, R a y → R a' y) (h1 : ∀ y, R b y → R b' y) (h2 : ∀ y, R c y → R c' y) (h3 : ∀ y, R d y → R d' y) {vs : List Value} (h : RL R [a, b, c, d] vs) : RL R [a', b', c', d'] vs := by
  cases h with | cons x1 hl => cases hl with | cons x2 hl => cases hl with | cons x3 hl => cases hl with | cons x4 hl => cases hl with | nil =>
  exact .cons (h0 _ x1) (.cons (h1 _ x2) (.cons (h2 _ x3) (.cons (h3 _ x4) .nil)))
theorem rw4 {ρ : Env} {a b c d a' b' c' d' : C} (h0 : ∀ y, RC ρ a y → RC ρ a' y) (h1 : ∀ y, RC ρ b y → RC ρ b' y) (h2 : ∀ y, RC ρ c y → RC ρ c' y) (h3 : ∀ y, RC ρ d y → RC ρ d' y) {y : Value} (h : RW ρ (.agg [a, b, c, d]) y) : RW ρ (.agg [a', b', c', d']) y := by
  obtain ⟨cs, rfl, hl⟩ := h
  exact ⟨cs, rfl, rl4 h0 h1 h2 h3 hl⟩

/-- a number's words, as numbers. -/
def wd (n : Nat) (i : Nat) : Int := ((n / 18446744073709551616 ^ i % 18446744073709551616 : Nat) : Int)
theorem wd0 (n : Nat) : wd n 0 = ((n % 18446744073709551616 : Nat) : Int) := by simp [wd]
theorem wd1 (n : Nat) : wd n 1 = ((n / 18446744073709551616 % 18446744073709551616 : Nat) : Int) := by simp [wd]
theorem wd2 (n : Nat) : wd n 2 = ((n / 340282366920938463463374607431768211456 % 18446744073709551616 : Nat) : Int) := by simp [wd]
theorem wd3 (n : Nat) : wd n 3 = ((n / 6277101735386680763835789423207666416102355444464034512896 % 18446744073709551616 : Nat) : Int) := by simp [wd]
theorem wd_range (n i : Nat) : 0 ≤ wd n i ∧ wd n i < 18446744073709551616 := by
  unfold wd
  have := Nat.mod_lt (n / 18446744073709551616 ^ i) (show 0 < 18446744073709551616 by decide)
  omega
/-- four cells that hold a number's words. -/
def numI (n : Nat) : List C := [.v (.int .u64 (wd n 0)), .v (.int .u64 (wd n 1)), .v (.int .u64 (wd n 2)), .v (.int .u64 (wd n 3))]
theorem rw_numI {ρ : Env} {n : Nat} {y : Value} : RW ρ (.agg (numI n)) y ↔ RW ρ (.agg (numC n)) y := by
  constructor
  · exact fun h => rw4 (fun y => (rc_word (wd0 n)).1) (fun y => (rc_word (wd1 n)).1) (fun y => (rc_word (wd2 n)).1) (fun y => (rc_word (wd3 n)).1) h
  · exact fun h => rw4 (fun y => (rc_word (wd0 n)).2) (fun y => (rc_word (wd1 n)).2) (fun y => (rc_word (wd2 n)).2) (fun y => (rc_word (wd3 n)).2) h
/-- a row of four words. -/
def wrow (n : Nat) : List Int := [wd n 0, wd n 1, wd n 2, wd n 3]
theorem rw_row {ρ : Env} {n : Nat} {y : Value} : RW ρ (.agg (numC n)) y → RW ρ (.ints .u64 (wrow n)) y := by
  intro h
  obtain ⟨cs, rfl, hl⟩ := rw_numI.2 h
  cases hl with | cons x1 hl => cases hl with | cons x2 hl => cases hl with | cons x3 hl => cases hl with | cons x4 hl => cases hl with | nil =>
  simp only [RC] at x1 x2 x3 x4
  subst x1; subst x2; subst x3; subst x4
  rfl
theorem rw_row' {ρ : Env} {n : Nat} {y : Value} : RW ρ (.ints .u64 (wrow n)) y → RW ρ (.agg (numC n)) y := by
  intro h
  have h' : y = .agg (List.map (Value.int .u64) (wrow n)).toArray := h
  subst h'
  exact rw_numI.1 ⟨_, rfl, .cons rfl (.cons rfl (.cons rfl (.cons rfl .nil)))⟩

/-- a whole function in one run, whose obligations all come out as true. -/
theorem spec_run {P : Program} {tab : Tab} (hT : TabOk P tab) (hmix : P.follows .mixedOrders = true) {f : FuncId} {fn : Func} {args : List W} {ms : List Blk} {r : Res} (hf : P.funcs[f]? = some fn) (as : List (Nat × Bool)) (fu : Nat) (keep : List (Nat × Option IntKind))
    (hid : idsOk args ms = true) (hn : Nat.ble args.length fn.ntmps = true) (hσ : sigOk ms.length (keep.map (·.1)) = true)
    (h : (match whole P tab fn as fu keep args ms with | some (v, bs, _) => some (v, bs) | none => none) = some (r.v, applyU ms r.upd ++ r.new)) (ho : (match whole P tab fn as fu keep args ms with | some (_, _, o) => o.all id | none => false) = true)
    (hlen : Nat.beq (applyU ms r.upd).length ms.length = true) (hmo : modesOk ms (applyU ms r.upd ++ r.new) = true) : Spec P f args ms r := by
  cases hw : whole P tab fn as fu keep args ms with
  | none => rw [hw] at ho; cases ho
  | some p =>
    obtain ⟨v, bs, o⟩ := p
    rw [hw] at h ho
    simp only [Option.some.injEq, Prod.mk.injEq] at h
    obtain ⟨h1, h2⟩ := h
    exact spec_of_whole hT hmix hf as fu keep hid hn hσ (by rw [hw, h1, h2]) hlen hmo (by simpa using ho)

theorem shA1 (a : Nat) : shA [1] [a] = [.agg (numC a)] := rfl
theorem shA2 (a b : Nat) : shA [1, 1] [a, b] = [.agg (numC a), .agg (numC b)] := rfl
theorem shA3 (a b c : Nat) : shA [1, 1, 1] [a, b, c] = [.agg (numC a), .agg (numC b), .agg (numC c)] := rfl
theorem RLW.cons_iff {ρ : Env} {x : W} {l : List W} {vs : List Value} : RL (RW ρ) (x :: l) vs ↔ ∃ v r, vs = v :: r ∧ RW ρ x v ∧ RL (RW ρ) l r := by
  constructor
  · intro h
    cases h with
    | cons a b => exact ⟨_, _, rfl, a, b⟩
  · rintro ⟨v, r, rfl, a, b⟩
    exact .cons a b
/-- arguments one by one. -/
inductive Imps : List W → List W → Prop
  | nil : Imps [] []
  | cons {x y : W} {a b : List W} : (∀ ρ v, RW ρ x v → RW ρ y v) → Imps a b → Imps (x :: a) (y :: b)
theorem Imps.rl {ρ : Env} : ∀ {a b : List W} {vs : List Value}, Imps a b → RL (RW ρ) a vs → RL (RW ρ) b vs
  | _, _, _, .nil, h => h
  | _, _, _, .cons h r, .cons a b => .cons (h _ _ a) (r.rl b)
theorem Imps.refl : ∀ a : List W, Imps a a
  | [] => .nil
  | _ :: a => .cons (fun _ _ h => h) (Imps.refl a)
theorem Spec.imps {P : Program} {f : FuncId} {as bs : List W} {ms : List Blk} {r : Res} (hi : Imps as bs) (h : Spec P f bs ms r) : Spec P f as ms r := Spec.args (fun _ _ => hi.rl) h
theorem rv_tup2 {ρ : Env} {x z x' z' : W} {y : Value} (h1 : ∀ y, RW ρ x y → RW ρ x' y) (h2 : ∀ y, RW ρ z y → RW ρ z' y) (h : RV ρ (.tup [x, z]) y) : RV ρ (.tup [x', z']) y := by
  obtain ⟨vs, rfl, hl⟩ := h
  cases hl with | cons a hl => cases hl with | cons b hl => cases hl with | nil =>
  exact ⟨_, rfl, .cons (h1 _ a) (.cons (h2 _ b) .nil)⟩
theorem Fin.mono {P : Program} {fn : Func} {R R' : Ending → World → Prop} {k : List Item} {a : Act} {w : World} (hR : ∀ e w, R e w → R' e w) (h : Fin P fn R k a w) : Fin P fn R' k a w := by
  intro b cs
  obtain ⟨e, a', w', hq, harr⟩ := h b cs
  refine ⟨e, a', w', ?_, harr⟩
  cases e with
  | normal => obtain ⟨h1, v, h2, h3⟩ := hq; exact ⟨h1, v, h2, hR _ _ h3⟩
  | ret => obtain ⟨h1, v, h2, h3⟩ := hq; exact ⟨h1, v, h2, hR _ _ h3⟩
  | panic chain => exact ⟨hq.1, hR _ _ hq.2⟩
  | outgrown => exact hR _ _ hq
  | _ => exact hq
/-- a walk's end at another value that stands for the same. -/
theorem G.resv {P : Program} {tab : Tab} {fn : Func} {ms : List Blk} {ρ : Env} {w : World} {r : Res} {v : V} {c : Cfg} (hi : ∀ ρ y, RV ρ r.v y → RV ρ v y) (h : G (mkX P tab fn ms ρ w r) c) : G (mkX P tab fn ms ρ w ⟨v, r.upd, r.new⟩) c := by
  intro ρ' a w' hs
  refine Fin.mono ?_ (h ρ' a w' hs)
  rintro e w'' ⟨y, ρ'', he, hv, hr⟩
  exact ⟨y, ρ'', he, hi ρ'' y hv, hr⟩
theorem ns1 {ns : List Nat} (h : ns.length = [1].sum) : ∃ a, ns = [a] := by
  match ns, h with
  | [a], _ => exact ⟨a, rfl⟩
theorem ns2 {ns : List Nat} (h : ns.length = [1, 1].sum) : ∃ a b, ns = [a, b] := by
  match ns, h with
  | [a, b], _ => exact ⟨a, b, rfl⟩
theorem ns3 {ns : List Nat} (h : ns.length = [1, 1, 1].sum) : ∃ a b c, ns = [a, b, c] := by
  match ns, h with
  | [a, b, c], _ => exact ⟨a, b, c, rfl⟩
end Sx
