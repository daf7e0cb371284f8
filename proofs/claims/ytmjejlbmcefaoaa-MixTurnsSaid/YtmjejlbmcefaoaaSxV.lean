/- The symbolic executor, part V: '==' of structs and arrays whose parts are numbers, bools and strings. -/
import Derived.Test.YtmjejlbmcefaoaaSxU
namespace Sx
open Go Go.RowKit

def veq : Value → Value → Option Bool
  | .int k a, .int k' b => if k = k' then some (a == b) else none
  | .string a, .string b => some (a == b)
  | .bool a, .bool b => some (a == b)
  | _, _ => none

def eqVs : List Value → List Value → Option Bool
  | [], [] => some true
  | a :: r, b :: s =>
    match veq a b, eqVs r s with
    | some x, some y => some (x && y)
    | _, _ => none
  | _, _ => none

theorem eqCells_vs {ρ : Env} : ∀ {l m : List C} {r : Bool} {cs ds : List Value}, eqCells l m = some r → RL (RC ρ) l cs → RL (RC ρ) m ds → eqVs cs ds = some r
  | [], [], r, _, _, h, .nil, .nil => by simpa [eqCells, eqVs] using h
  | a :: l, b :: m, r, _, _, h, .cons hx hl, .cons hy hm => by
    unfold eqCells at h
    split at h
    · cases ‹_ :: _ = []›
    · rename_i e1 e2
      simp only [List.cons.injEq] at e1 e2
      obtain ⟨rfl, rfl⟩ := e1
      obtain ⟨rfl, rfl⟩ := e2
      simp only [RC] at hx hy
      subst hx; subst hy
      rename_i k a k' b
      cases hk : kEq k k' with
      | false => simp [hk] at h
      | true =>
        simp only [hk, cond_true] at h
        split at h
        · rename_i x hx
          simp only [eqVs, veq, kEq_ok hk, if_true, eqCells_vs hx hl hm]
          exact h
        · cases h
    · rename_i e1 e2
      simp only [List.cons.injEq] at e1 e2
      obtain ⟨rfl, rfl⟩ := e1
      obtain ⟨rfl, rfl⟩ := e2
      simp only [RC] at hx hy
      subst hx; subst hy
      split at h
      · rename_i x hx
        simp only [eqVs, veq, eqCells_vs hx hl hm]
        exact h
      · cases h
    · rename_i e1 e2
      simp only [List.cons.injEq] at e1 e2
      obtain ⟨rfl, rfl⟩ := e1
      obtain ⟨rfl, rfl⟩ := e2
      simp only [RC] at hx hy
      subst hx; subst hy
      split at h
      · rename_i x hx
        simp only [eqVs, veq, eqCells_vs hx hl hm]
        exact h
      · cases h
    · cases h
  | [], _ :: _, r, _, _, h, _, _ => by simp [eqCells] at h
  | _ :: _, [], r, _, _, h, _, _ => by simp [eqCells] at h

theorem eqVs_append : ∀ (a b c d : List Value), a.length = b.length → eqVs (a ++ c) (b ++ d) = (match eqVs a b, eqVs c d with | some x, some y => some (x && y) | _, _ => none)
  | [], [], c, d, _ => by simp [eqVs]; cases eqVs c d <;> simp
  | x :: a, y :: b, c, d, h => by
    simp only [List.cons_append, eqVs]
    rw [eqVs_append a b c d (by simpa using h)]
    cases veq x y <;> cases eqVs a b <;> cases eqVs c d <;> simp [Bool.and_assoc]
  | [], _ :: _, _, _, h => by simp at h
  | _ :: _, [], _, _, h => by simp at h

def fieldsOk (f : TypeId → Bool) (P : Program) : List Field → Nat → Option Nat
  | [], off => some off
  | x :: r, off => bif Nat.beq x.offset off && (f x.type && !(x.name == "_")) then fieldsOk f P r (off + P.cellsOf x.type) else none

def optEq (o : Option Nat) (n : Nat) : Bool := match o with | some m => Nat.beq m n | none => false

def eqTy (P : Program) : Nat → TypeId → Bool
  | 0, _ => false
  | d + 1, T =>
    match P.underlying T with
    | some (.int _) => Nat.beq (P.cellsOf T) 1
    | some .bool => Nat.beq (P.cellsOf T) 1
    | some .string => Nat.beq (P.cellsOf T) 1
    | some (.struct fields) => !(P.stoodInHeld T) && optEq (fieldsOk (eqTy P d) P fields.toList 0) (P.cellsOf T)
    | some (.array n e) => eqTy P d e && Nat.beq (P.cellsOf T) (n * P.cellsOf e)
    | _ => false

def rep (n : Nat) (l : List Nat) : List Nat := match n with | 0 => [] | n + 1 => l ++ rep n l

/-- the kinds of a type's cells. -/
def leafs (P : Program) : Nat → TypeId → List Nat
  | 0, _ => []
  | d + 1, T =>
    match P.underlying T with
    | some (.int _) => [0]
    | some .bool => [1]
    | some .string => [2]
    | some (.struct fields) => fields.toList.flatMap fun f => leafs P d f.type
    | some (.array n e) => rep n (leafs P d e)
    | _ => []

def vcode : Value → Nat
  | .int _ _ => 0
  | .bool _ => 1
  | .string _ => 2
  | _ => 3

theorem rep_length (l : List Nat) : ∀ n, (rep n l).length = n * l.length
  | 0 => by simp [rep]
  | n + 1 => by simp [rep, rep_length l n, Nat.succ_mul]; omega

theorem leafs_length {P : Program} : ∀ (d : Nat) (T : TypeId), eqTy P d T = true → (leafs P d T).length = P.cellsOf T
  | 0, T, h => by simp [eqTy] at h
  | d + 1, T, h => by
    unfold eqTy at h
    unfold leafs
    split at h <;> rename_i hu <;> (try simp only [hu])
    · simp at h; simp [h]
    · simp at h; simp [h]
    · simp at h; simp [h]
    · rename_i fields
      simp only [Bool.and_eq_true] at h
      have key : ∀ (fs : List Field) (off : Nat), optEq (fieldsOk (eqTy P d) P fs off) (P.cellsOf T) = true → off + (fs.flatMap fun f => leafs P d f.type).length = P.cellsOf T := by
        intro fs
        induction fs with
        | nil => intro off h; simp only [fieldsOk, optEq] at h; simpa using h
        | cons f fs ih =>
          intro off h
          simp only [fieldsOk] at h
          cases hb : (Nat.beq f.offset off && (eqTy P d f.type && !(f.name == "_"))) with
          | false => simp [hb, optEq] at h
          | true =>
            simp only [hb, cond_true] at h
            simp only [Bool.and_eq_true] at hb
            have := ih _ h
            rw [List.flatMap_cons, List.length_append, leafs_length d f.type hb.2.1]
            omega
      have := key fields.toList 0 h.2
      omega
    · rename_i n e
      simp only [Bool.and_eq_true] at h
      rw [rep_length, leafs_length d e h.1]
      have : P.cellsOf T = n * P.cellsOf e := by simpa using h.2
      exact this.symm
    · cases h

theorem rep_seg (l : List Nat) : ∀ (n i : Nat), i < n → ((rep n l).drop (i * l.length)).take l.length = l
  | 0, i, h => by omega
  | n + 1, 0, h => by simp [rep]
  | n + 1, i + 1, h => by
    have := rep_seg l n i (by omega)
    simp only [rep]
    rw [show (i + 1) * l.length = l.length + i * l.length by rw [Nat.succ_mul]; omega, ← List.drop_drop, List.drop_left]
    exact this

/-- a value of a type out of its cells. -/
def mkT (P : Program) (T : TypeId) (cs : List Value) : Value := if isAggT P T then .agg cs.toArray else cs.getD 0 .nilFunc

theorem run_part {P : Program} {T : TypeId} {cs : List Value} {off : Nat} {w : World} (hh : hasT P T = true) (hl : off + P.cellsOf T ≤ cs.length) (h1 : isAggT P T = false → P.cellsOf T = 1) :
    (part T cs.toArray off).run P w = .ok (mkT P T ((cs.drop off).take (P.cellsOf T))) w := by
  obtain ⟨i, hi⟩ := info_of_hasT hh
  unfold mkT
  cases hagg : isAggT P T with
  | true =>
    simp only [if_true, part, Sem.run_bind, run_isAgg' hh, hagg, Result.andThen_ok, run_sizeOf' hi, Sem.run_pure]
    congr 2
    simp only [List.extract_toArray, List.extract]
    congr 2
    omega
  | false =>
    have := h1 hagg
    have hlt : off < cs.length := by omega
    simp [part, run_isAgg' hh, hagg, hlt, this, List.getD]

theorem hasT_of_eqTy {P : Program} : ∀ {d : Nat} {T : TypeId}, eqTy P d T = true → hasT P T = true
  | 0, T, h => by simp [eqTy] at h
  | d + 1, T, h => by
    unfold eqTy at h
    unfold hasT
    cases hu : P.underlying T with
    | none => simp [hu] at h
    | some _ => rfl

theorem one_of_eqTy {P : Program} : ∀ {d : Nat} {T : TypeId}, eqTy P d T = true → isAggT P T = false → P.cellsOf T = 1
  | 0, T, h, _ => by simp [eqTy] at h
  | d + 1, T, h, ha => by
    unfold eqTy at h
    unfold isAggT at ha
    split at h <;> rename_i hu <;> simp only [hu] at ha
    · simpa using h
    · simpa using h
    · simpa using h
    · cases ha
    · cases ha
    · cases h

theorem eqVs_cut {cs ds : List Value} {r : Bool} (h : eqVs cs ds = some r) (n : Nat) (hl : cs.length = ds.length) : ∃ x y, eqVs (cs.take n) (ds.take n) = some x ∧ eqVs (cs.drop n) (ds.drop n) = some y ∧ r = (x && y) := by
  have := eqVs_append (cs.take n) (ds.take n) (cs.drop n) (ds.drop n) (by simp [hl])
  rw [List.take_append_drop, List.take_append_drop, h] at this
  cases h1 : eqVs (cs.take n) (ds.take n) with
  | none => simp [h1] at this
  | some x =>
    cases h2 : eqVs (cs.drop n) (ds.drop n) with
    | none => simp [h1, h2] at this
    | some y => simp [h1, h2] at this; exact ⟨x, y, rfl, rfl, this⟩

theorem eqVs_one {a b : Value} {r : Bool} (h : eqVs [a] [b] = some r) : veq a b = some r := by
  simp only [eqVs] at h
  cases hv : veq a b with
  | none => simp [hv] at h
  | some x => simp [hv] at h; simp [h]

theorem run_eqFields {P : Program} {d dd : Nat} (ih : ∀ (T : TypeId) (cs ds : List Value) (r : Bool) (w : World), eqTy P d T = true → cs.map vcode = leafs P d T → ds.length = P.cellsOf T → eqVs cs ds = some r → (Op.equalIn dd T (mkT P T cs) (mkT P T ds)).run P w = .ok r w)
    (cs ds : List Value) (hl : cs.length = ds.length) : ∀ (fs : List Field) (off : Nat) (r : Bool) (w : World), optEq (fieldsOk (eqTy P d) P fs off) cs.length = true → off ≤ cs.length → (cs.drop off).map vcode = (fs.flatMap fun f => leafs P d f.type) → eqVs (cs.drop off) (ds.drop off) = some r →
    (Op.eqFields dd cs.toArray ds.toArray fs).run P w = .ok r w
  | [], off, r, w, h, _, _, he => by
    simp only [fieldsOk, optEq] at h
    have : off = cs.length := by simpa using h
    subst this
    rw [List.drop_length, hl, List.drop_length] at he
    simp [eqVs] at he
    subst he
    simp [Op.eqFields]
  | f :: fs, off, r, w, h, hoff, hcd, he => by
    simp only [fieldsOk] at h
    cases hb : (Nat.beq f.offset off && (eqTy P d f.type && !(f.name == "_"))) with
    | false => simp [hb, optEq] at h
    | true =>
      simp only [hb, cond_true] at h
      simp only [Bool.and_eq_true, Bool.not_eq_true'] at hb
      obtain ⟨h1, h2, h3⟩ := hb
      have h1 : f.offset = off := by simpa using h1
      have hne : f.name ≠ "_" := by simpa using h3
      -- the fields behind end where the cells do
      have hend : ∀ (fs : List Field) (o : Nat), optEq (fieldsOk (eqTy P d) P fs o) cs.length = true → o ≤ cs.length := by
        intro fs
        induction fs with
        | nil => intro o h; simp only [fieldsOk, optEq] at h; have : o = cs.length := by simpa using h
                 omega
        | cons g gs ihg =>
          intro o h
          simp only [fieldsOk] at h
          cases hb : (Nat.beq g.offset o && (eqTy P d g.type && !(g.name == "_"))) with
          | false => simp [hb, optEq] at h
          | true => simp only [hb, cond_true] at h; have := ihg _ h; omega
      have hfit := hend fs _ h
      obtain ⟨x, y, e1, e2, rfl⟩ := eqVs_cut he (P.cellsOf f.type) (by simp [hl])
      rw [List.drop_drop, List.drop_drop] at e2
      have hh := hasT_of_eqTy h2
      have p1 := run_part (P := P) (w := w) (T := f.type) (cs := cs) (off := off) hh (by omega) (one_of_eqTy h2)
      have p2 := run_part (P := P) (w := w) (T := f.type) (cs := ds) (off := off) hh (by omega) (one_of_eqTy h2)
      have hll := leafs_length d f.type h2
      rw [List.flatMap_cons] at hcd
      have hc1 : ((cs.drop off).take (P.cellsOf f.type)).map vcode = leafs P d f.type := by
        rw [List.map_take, hcd, ← hll, List.take_left]
      have hc2 : (cs.drop (off + P.cellsOf f.type)).map vcode = (fs.flatMap fun f => leafs P d f.type) := by
        rw [← List.drop_drop, List.map_drop, hcd, ← hll, List.drop_left]
      have p3 := ih f.type _ _ x w h2 hc1 (by simp; omega) e1
      simp only [Op.eqFields, hne, ne_eq, not_false_iff, if_true, h1, Sem.run_bind, p1, p2, p3, Result.andThen_ok]
      cases x with
      | false => simp
      | true =>
        simp only [Bool.not_true, Bool.false_eq_true, if_false, Bool.true_and]
        exact run_eqFields ih cs ds hl fs (off + P.cellsOf f.type) y w h hfit hc2 e2

theorem run_equalIn_array {P : Program} {d : Nat} {T e : TypeId} {n : Nat} {xs ys : Array Value} {w : World} (hu : P.underlying T = some (.array n e)) (hh : hasT P e = true) (f : Nat → Bool)
    (hf : ∀ i, i < n → (do let a ← part e xs (i * P.cellsOf e); let b ← part e ys (i * P.cellsOf e); Op.equalIn d e a b).run P w = .ok (f i) w) :
    (Op.equalIn (d + 1) T (.agg xs) (.agg ys)).run P w = .ok ((List.range n).all f) w := by
  obtain ⟨ie, hie⟩ := info_of_hasT hh
  simp only [Op.equalIn, Sem.run_bind, run_underlying hu, Result.andThen_ok, run_sizeOf' hie]
  simp only [Std.Legacy.Range.forIn_eq_forIn_range', Std.Legacy.Range.size]
  have hstep : ∀ i, i < n → ∀ u : Option Bool × Unit, (do
      let x ← part e xs (i * P.cellsOf e)
      let y ← part e ys (i * P.cellsOf e)
      let z ← Op.equalIn d e x y
      if (!z) = true then pure (ForInStep.done (some false, ())) else pure (ForInStep.yield (none, ())) : Sem (ForInStep (Option Bool × Unit))).run P w =
        .ok (if f i = true then ForInStep.yield (none, ()) else ForInStep.done (some false, ())) w := by
    intro i hi _
    have := hf i hi
    simp only [Sem.run_bind] at this ⊢
    generalize (part e xs (i * P.cellsOf e)).run P w = r1 at this ⊢
    cases r1 with
    | halt x w1 => simp [Result.andThen] at this
    | ok x w1 =>
      simp only [Result.andThen_ok] at this ⊢
      generalize (part e ys (i * P.cellsOf e)).run P w1 = r2 at this ⊢
      cases r2 with
      | halt x w2 => simp [Result.andThen] at this
      | ok y w2 =>
        simp only [Result.andThen_ok] at this ⊢
        rw [this]
        cases f i <;> simp
  have hloop : ∀ (l : List Nat), (∀ i ∈ l, i < n) → (forIn l ((none, ()) : Option Bool × Unit) (fun i (_ : Option Bool × Unit) => (do
      let x ← part e xs (i * P.cellsOf e)
      let y ← part e ys (i * P.cellsOf e)
      let z ← Op.equalIn d e x y
      if (!z) = true then pure (ForInStep.done (some false, ())) else pure (ForInStep.yield (none, ())) : Sem (ForInStep (Option Bool × Unit))))).run P w =
        .ok (if l.all f = true then (none, ()) else (some false, ())) w := by
    intro l
    induction l with
    | nil => intro _; simp
    | cons i l ih =>
      intro hl
      rw [List.forIn_cons, Sem.run_bind, hstep i (hl i (by simp)) (none, ())]
      cases hfi : f i with
      | true =>
        simp only [Result.andThen_ok, if_true, List.all_cons, hfi, Bool.true_and]
        exact ih fun j hj => hl j (by simp [hj])
      | false => simp [hfi]
  have := hloop (List.range' 0 n) (fun i hi => by simp [List.mem_range'] at hi; omega)
  rw [show (n - 0 + 1 - 1) / 1 = n by simp]
  refine (congrArg (fun r => Result.andThen r _) this).trans ?_
  rw [List.range_eq_range']
  cases (List.range' 0 n).all f <;> simp

theorem all_eqVs {s : Nat} : ∀ (n : Nat) (cs ds : List Value) (r : Bool), cs.length = n * s → ds.length = n * s → eqVs cs ds = some r →
    ∃ f : Nat → Bool, (∀ i, i < n → eqVs ((cs.drop (i * s)).take s) ((ds.drop (i * s)).take s) = some (f i)) ∧ (List.range n).all f = r
  | 0, cs, ds, r, h1, h2, h => by
    have a : cs = [] := List.eq_nil_of_length_eq_zero (by omega)
    have b : ds = [] := List.eq_nil_of_length_eq_zero (by omega)
    subst a; subst b
    simp [eqVs] at h
    subst h
    exact ⟨fun _ => true, by intro i hi; omega, by simp⟩
  | n + 1, cs, ds, r, h1, h2, h => by
    rw [Nat.succ_mul] at h1 h2
    obtain ⟨x, y, e1, e2, rfl⟩ := eqVs_cut h s (by omega)
    obtain ⟨f, hf, hr⟩ := all_eqVs (s := s) n (cs.drop s) (ds.drop s) y (by simp; omega) (by simp; omega) e2
    refine ⟨fun i => match i with | 0 => x | i + 1 => f i, ?_, ?_⟩
    · intro i hi
      cases i with
      | zero => simpa using e1
      | succ i =>
        have := hf i (by omega)
        rw [List.drop_drop, List.drop_drop] at this
        rw [show (i + 1) * s = s + i * s by rw [Nat.succ_mul]; omega]
        exact this
    · rw [List.range_succ_eq_map, List.all_cons, List.all_map]
      rw [← hr]
      rfl

theorem equalIn_ok {P : Program} : ∀ (d : Nat) (dd : Nat) (T : TypeId) (cs ds : List Value) (r : Bool) (w : World), d ≤ dd → eqTy P d T = true → cs.map vcode = leafs P d T → ds.length = P.cellsOf T → eqVs cs ds = some r →
    (Op.equalIn dd T (mkT P T cs) (mkT P T ds)).run P w = .ok r w
  | 0, dd, T, cs, ds, r, w, _, h, _, _, _ => by simp [eqTy] at h
  | d + 1, 0, T, cs, ds, r, w, hd, _, _, _, _ => by omega
  | d + 1, dd + 1, T, cs, ds, r, w, hd, h, hcd, hdl, he => by
    have hc : cs.length = P.cellsOf T := by rw [← leafs_length _ _ h, ← hcd]; simp
    have hone : isAggT P T = false → ∃ a b, cs = [a] ∧ ds = [b] ∧ mkT P T cs = a ∧ mkT P T ds = b := by
      intro ha
      have h1 := one_of_eqTy h ha
      rw [h1] at hc hdl
      obtain ⟨a, rfl⟩ := List.length_eq_one_iff.1 hc
      obtain ⟨b, rfl⟩ := List.length_eq_one_iff.1 hdl
      exact ⟨a, b, rfl, rfl, by simp [mkT, ha], by simp [mkT, ha]⟩
    have h' := h
    unfold eqTy at h
    have scal : isAggT P T = false → (∀ a b, [vcode a] = leafs P (d + 1) T → veq a b = some r → (Op.equalIn (dd + 1) T a b).run P w = .ok r w) → (Op.equalIn (dd + 1) T (mkT P T cs) (mkT P T ds)).run P w = .ok r w := by
      intro ha hs
      obtain ⟨a, b, rfl, rfl, e1, e2⟩ := hone ha
      rw [e1, e2]
      exact hs a b hcd (eqVs_one he)
    split at h <;> rename_i hu
    · refine scal (by unfold isAggT; rw [hu]) fun a b hk hv => ?_
      unfold leafs at hk
      simp only [hu] at hk
      unfold veq at hv
      split at hv
      · split at hv
        · rename_i hk; subst hk; simp at hv; subst hv; exact run_equalIn_int w dd T _ _ _ _ hu
        · cases hv
      · simp [vcode] at hk
      · simp [vcode] at hk
      · cases hv
    · refine scal (by unfold isAggT; rw [hu]) fun a b hk hv => ?_
      unfold leafs at hk
      simp only [hu] at hk
      unfold veq at hv
      split at hv
      · simp [vcode] at hk
      · simp [vcode] at hk
      · simp at hv; subst hv; exact run_equalIn_bool' w dd T _ _ hu
      · cases hv
    · refine scal (by unfold isAggT; rw [hu]) fun a b hk hv => ?_
      unfold leafs at hk
      simp only [hu] at hk
      unfold veq at hv
      split at hv
      · simp [vcode] at hk
      · simp at hv; subst hv; rw [run_equalIn_string w dd T _ _ hu, beq_toListBytes]
      · simp [vcode] at hk
      · cases hv
    · rename_i fields
      simp only [Bool.and_eq_true, Bool.not_eq_true'] at h
      have hagg : isAggT P T = true := by unfold isAggT; rw [hu]
      have hf : P.fieldsOf T = fields := by unfold Program.fieldsOf; rw [hu]
      have e1 : mkT P T cs = .agg cs.toArray := by simp [mkT, hagg]
      have e2 : mkT P T ds = .agg ds.toArray := by simp [mkT, hagg]
      rw [e1, e2, run_equalIn_struct w dd T _ _ (by rw [hf]; exact hu) h.1, hf]
      exact run_eqFields (d := d) (dd := dd) (fun T cs ds r w a b c e => equalIn_ok d dd T cs ds r w (by omega) a b c e) cs ds (by omega) fields.toList 0 r w (by rw [hc]; exact h.2) (by omega) (by unfold leafs at hcd; simp only [hu] at hcd; simpa using hcd) (by simpa using he)
    · rename_i n e
      simp only [Bool.and_eq_true] at h
      have hagg : isAggT P T = true := by unfold isAggT; rw [hu]
      have e1 : mkT P T cs = .agg cs.toArray := by simp [mkT, hagg]
      have e2 : mkT P T ds = .agg ds.toArray := by simp [mkT, hagg]
      have hn : P.cellsOf T = n * P.cellsOf e := by simpa using h.2
      obtain ⟨f, hf, hr⟩ := all_eqVs (s := P.cellsOf e) n cs ds r (by omega) (by omega) he
      have hh := hasT_of_eqTy h.1
      rw [e1, e2, run_equalIn_array hu hh f, hr]
      intro i hi
      have hfit : i * P.cellsOf e + P.cellsOf e ≤ n * P.cellsOf e := by
        have := Nat.mul_le_mul_right (P.cellsOf e) (show i + 1 ≤ n by omega)
        rw [Nat.succ_mul] at this
        exact this
      have p1 := run_part (P := P) (w := w) (T := e) (cs := cs) (off := i * P.cellsOf e) hh (by omega) (one_of_eqTy h.1)
      have p2 := run_part (P := P) (w := w) (T := e) (cs := ds) (off := i * P.cellsOf e) hh (by omega) (one_of_eqTy h.1)
      have hce : ((cs.drop (i * P.cellsOf e)).take (P.cellsOf e)).map vcode = leafs P d e := by
        unfold leafs at hcd
        simp only [hu] at hcd
        rw [List.map_take, List.map_drop, hcd, ← leafs_length d e h.1]
        exact rep_seg _ n i hi
      have p3 := equalIn_ok d dd e _ _ (f i) w (by omega) h.1 hce (by simp; omega) (hf i hi)
      simp only [Sem.run_bind, p1, p2, p3, Result.andThen_ok]
    · cases h

theorem codes_v {ρ : Env} : ∀ {ks : List Nat} {l : List C} {cs : List Value}, codesOk (some ks) l = true → (∀ k ∈ ks, k ≠ 3) → RL (RC ρ) l cs → cs.map vcode = ks
  | [], [], _, _, _, .nil => rfl
  | k :: ks, c :: l, v :: cs, h, h3, .cons hc hl => by
    simp only [codesOk, Bool.and_eq_true] at h
    have hk : c.code = k := by simpa using h.1
    simp only [List.map_cons]
    rw [codes_v h.2 (fun j hj => h3 j (by simp [hj])) hl]
    congr 1
    unfold C.code at hk
    split at hk
    · simp only [RC] at hc; subst hc; simpa [vcode] using hk
    · simp only [RC] at hc; subst hc; simpa [vcode] using hk
    · simp only [RC] at hc; subst hc; simpa [vcode] using hk
    · exact absurd hk.symm (h3 k (by simp))
  | [], _ :: _, _, h, _, _ => by simp [codesOk] at h
  | _ :: _, [], _, h, _, _ => by simp [codesOk] at h

/-- the table of types whose '==' is held cell by cell. -/
def eqsOf (l : List (TypeId × List Nat)) (T : TypeId) : Option (List Nat) :=
  match l with
  | [] => none
  | (t, ks) :: r => bif Nat.beq T t then some ks else eqsOf r T

def eqListOk (P : Program) : List (TypeId × List Nat) → Bool
  | [] => true
  | (t, ks) :: r => (eqTy P 8 t && isAggT P t && !(P.eqGuardType P.depth t) && (leafs P 8 t == ks) && ks.all (fun k => !(Nat.beq k 3))) && eqListOk P r

theorem eqsOf_ok {P : Program} : ∀ {l : List (TypeId × List Nat)}, eqListOk P l = true → ∀ T ks, eqsOf l T = some ks → eqTy P 8 T = true ∧ isAggT P T = true ∧ P.eqGuardType P.depth T = false ∧ leafs P 8 T = ks ∧ ∀ k ∈ ks, k ≠ 3
  | [], _, T, ks, h => by simp [eqsOf] at h
  | (t, k0) :: r, h, T, ks, hT => by
    simp only [eqListOk, Bool.and_eq_true, Bool.not_eq_true', List.all_eq_true] at h
    simp only [eqsOf] at hT
    cases hb : Nat.beq T t with
    | true =>
      simp [hb] at hT
      subst hT
      have := Nat.beq_eq.mp hb
      subst this
      obtain ⟨⟨⟨⟨⟨h1, h2⟩, h3⟩, h4⟩, h5⟩, _⟩ := h
      refine ⟨h1, h2, h3, by simpa using h4, fun k hk e => ?_⟩
      have := h5 k hk
      subst e
      simp at this
    | false => simp only [hb, cond_false] at hT; exact eqsOf_ok h.2 T ks hT

theorem eqs_ok {P : Program} {l : List (TypeId × List Nat)} (hl : eqListOk P l = true) : ∀ T c m r, codesOk (eqsOf l T) c = true → eqCells c m = some r → ∀ ρ cs ds, RL (RC ρ) c cs → RL (RC ρ) m ds → ∀ w,
    (Op.equal T (.agg cs.toArray) (.agg ds.toArray)).run P w = .ok r w ∧ P.eqGuardType P.depth T = false := by
  intro T c m r hc he ρ cs ds h1 h2 w
  cases hT : eqsOf l T with
  | none => rw [hT] at hc; simp [codesOk] at hc
  | some ks =>
    rw [hT] at hc
    obtain ⟨a1, a2, a3, a4, a5⟩ := eqsOf_ok hl T ks hT
    have hcd := codes_v hc a5 h1
    have hev := eqCells_vs he h1 h2
    have hlen : ds.length = P.cellsOf T := by
      rw [← leafs_length 8 T a1, a4, ← hcd]
      have : ∀ (a b : List Value) (r : Bool), eqVs a b = some r → a.length = b.length := by
        intro a
        induction a with
        | nil => intro b r h; cases b <;> simp [eqVs] at h ⊢
        | cons x a ih =>
          intro b r h
          cases b with
          | nil => simp [eqVs] at h
          | cons y b =>
            simp only [eqVs] at h
            split at h
            · rename_i u v hu hv; simp [ih b v hv]
            · cases h
      simp [this cs ds r hev]
    have := equalIn_ok 8 Op.maxDepth T cs ds r w (by unfold Op.maxDepth; omega) a1 (by rw [a4]; exact hcd) hlen hev
    simp only [mkT, a2, if_true] at this
    exact ⟨this, a3⟩

end Sx
