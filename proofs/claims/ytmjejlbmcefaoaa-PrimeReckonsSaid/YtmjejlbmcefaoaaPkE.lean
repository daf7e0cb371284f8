/- A symbolic executor, checked once, and what it shows of the functions: part 5. -/
import Derived.Test.YtmjejlbmcefaoaaPkD
import Derived.OpenShut
import Derived.ProofKit
import Derived.SliceStrings
namespace Sx
open Go Go.RowKit Go.ChangeShapes Go.WideShapes Go.ChangeAt

inductive Kind where
  | int (k : IntKind)
  | bool
  | str
  | ints (k : IntKind)
  | strs
  | arr (n : Nat) (k : IntKind)
  | arrs (n : Nat) (k : IntKind)

inductive Arg where
  | int (k : IntKind) (n : Int)
  | bool (b : Bool)
  | str (s : ByteArray)
  | ints (k : IntKind) (l : List Int)
  | strs (l : List ByteArray)
  | arr (k : IntKind) (l : List Int)
  | arrs (k : IntKind) (n m : Nat) (l : List Int)

def kindOf (P : Program) (t : TypeId) : Option Kind :=
  match P.underlying t with
  | some (.int k) => some (.int k)
  | some .bool => some .bool
  | some .string => some .str
  | some (.slice e) =>
    match P.underlying e with
    | some (.int k) => bif Nat.beq (P.cellsOf e) 1 then some (.ints k) else none
    | some .string => bif Nat.beq (P.cellsOf e) 1 then some .strs else none
    | some (.array n e') =>
      match P.underlying e' with
      | some (.int k) => bif Nat.beq (P.cellsOf e') 1 && (Nat.beq (P.cellsOf e) n && Nat.blt 0 n) then some (.arrs n k) else none
      | _ => none
    | _ => none
  | some (.array n e) =>
    match P.underlying e with
    | some (.int k) => bif Nat.beq (P.cellsOf e) 1 && Nat.beq (P.cellsOf t) n then some (.arr n k) else none
    | _ => none
  | _ => none

def Arg.is : Kind → Arg → Prop
  | .int k, .int k' n => k' = k ∧ (Lit.int k n).wf = true
  | .bool, .bool _ => True
  | .str, .str s => s.size ≤ maxLen
  | .ints k, .ints k' l => k' = k ∧ l.length ≤ maxLen ∧ ∀ n ∈ l, (Lit.int k n).wf = true
  | .strs, .strs l => l.length ≤ maxLen ∧ ∀ s ∈ l, s.size ≤ maxLen
  | .arr n k, .arr k' l => k' = k ∧ l.length = n ∧ ∀ n ∈ l, (Lit.int k n).wf = true
  | .arrs n k, .arrs k' n' m l => k' = k ∧ n' = n ∧ m ≤ maxLen ∧ l.length = m * n ∧ ∀ n ∈ l, (Lit.int k n).wf = true
  | _, _ => False

def argW (j : Nat) : Arg → W
  | .int k n => .c (.v (.int k n))
  | .bool b => .c (.v (.bool b))
  | .str s => .c (.v (.string s))
  | .ints _ l => .c (.sl j 0 l.length)
  | .strs l => .c (.sl j 0 l.length)
  | .arr k l => .agg (l.map (C.int k))
  | .arrs _ _ m _ => .c (.sl j 0 m)

def argB : Arg → Option Blk
  | .ints k l => some ⟨0, .ro, .ints k l⟩
  | .strs l => some ⟨0, .ro, .strs l⟩
  | .arrs k _ _ l => some ⟨0, .ro, .ints k l⟩
  | _ => none

def allW : List Arg → Nat → List W
  | [], _ => []
  | a :: r, j => match argB a with
    | some _ => argW j a :: allW r (j + 1)
    | none => argW j a :: allW r j

def allB : List Arg → List Blk
  | [] => []
  | a :: r => match argB a with
    | some b => b :: allB r
    | none => allB r

def AllIs : List Kind → List Arg → Prop
  | [], [] => True
  | k :: ks, a :: as => Arg.is k a ∧ AllIs ks as
  | _, _ => False

section
variable {H : Type} {enc : TypeId × Value → H} {P : Program} {w : World} {base : Nat} {r : Reach}

theorem list_ext_getD {l : List Value} {m : List Int} {k : IntKind} (hl : l.length = m.length) (h : ∀ i, i < m.length → l[i]? = some (.int k (m.getD i 0))) : l = m.map (Value.int k) := by
  apply List.ext_getElem?
  intro i
  rcases Nat.lt_or_ge i m.length with hi | hi
  · rw [h i hi]
    simp [List.getD, hi]
  · rw [List.getElem?_eq_none (by omega), List.getElem?_eq_none (by simpa using hi)]

theorem rl_ints (k : IntKind) (ρ : Env) : ∀ m : List Int, RL (RC ρ) (m.map (C.int k)) (m.map (Value.int k))
  | [] => .nil
  | _ :: r => .cons rfl (rl_ints k ρ r)

theorem open_one {t : TypeId} {v : Value} {d : DataW H} {ps : List MemPlace} {kd : Kind} (hk : kindOf P t = some kd) (hval : Value.okWide P w r base t v) (hd : DataW.Trod enc P w 0 (fun _ => true) true t v d ps) :
    ∃ a : Arg, Arg.is kd a ∧ (argB a = none → ∀ ρ j, RW ρ (argW j a) v) ∧ (∀ b, argB a = some b → b.k.ids = [] ∧ b.mode = .ro ∧ ∃ p : Nat × Nat, ∀ ρ j, ρ.b j = p.1 → ρ.o j = p.2 → RW ρ (argW j a) v ∧ BlkRel P ρ j b w) := by
  unfold kindOf at hk
  split at hk
  · rename_i k ht
    cases hk
    obtain ⟨n, rfl, _, _, hw⟩ := open_int ht hval hd
    exact ⟨.int k n, ⟨rfl, hw⟩, fun _ _ _ => rfl, fun b hb => by cases hb⟩
  · rename_i ht
    cases hk
    obtain ⟨n, rfl, _, _⟩ := open_bool ht hval hd
    exact ⟨.bool n, trivial, fun _ _ _ => rfl, fun b hb => by cases hb⟩
  · rename_i ht
    cases hk
    obtain ⟨s, rfl, _, _, hs⟩ := Go.ChangeMaps.open_string ht hval hd
    exact ⟨.str s, hs, fun _ _ _ => rfl, fun b hb => by cases hb⟩
  · rename_i e ht
    obtain ⟨a0, len0, cap0, rfl⟩ := okWide_slice ht hval
    obtain ⟨fuel, hf⟩ := hd
    split at hk
    · rename_i k he
      cases hc : Nat.beq (P.cellsOf e) 1 with
      | false => simp [hc] at hk
      | true =>
        simp [hc] at hk
        subst hk
        have hc1 : P.cellsOf e = 1 := Nat.beq_eq.mp hc
        rcases open_ints ht he hc1 hf with ⟨hcs, _⟩ | ⟨a, len, cap, zs, hcs, _, hle, hmax, hall, _, hcell, hwf⟩
        · simp [Value.cells] at hcs
          obtain ⟨rfl, rfl, rfl⟩ := hcs
          refine ⟨.ints k [], ⟨rfl, by simp, by simp⟩, (by rintro ⟨⟩), fun b hb => ?_⟩
          cases hb
          exact ⟨rfl, rfl, (0, 0), fun ρ j _ _ => ⟨⟨none, 0, rfl, by simp, by simp⟩, ⟨by intro i hi; simp at hi, by simp [K.len]⟩⟩⟩
        · simp [Value.cells] at hcs
          obtain ⟨rfl, rfl, rfl⟩ := hcs
          simp only [if_true] at hall
          have htl : (zs.take len0).length = len0 := by simp; omega
          refine ⟨.ints k (zs.take len0), ⟨rfl, by omega, fun n hn => hwf n (List.mem_of_mem_take hn)⟩, (by rintro ⟨⟩), fun b hb => ?_⟩
          cases hb
          refine ⟨rfl, rfl, (a.block, a.off), fun ρ j hb ho => ?_⟩
          rcases Nat.eq_zero_or_pos len0 with h0 | hpos
          · subst h0
            exact ⟨⟨some a, cap0, by simp, by simp, by simp⟩, ⟨by intro i hi; simp at hi, by simp [K.len]⟩⟩
          · obtain ⟨b, off, rfl, hc⟩ := Go.ints_at hcell (by omega)
            simp only at hb ho
            refine ⟨⟨some ⟨b, off, none⟩, cap0, by rw [htl], by omega, fun _ => by rw [hb, ho, Nat.add_zero]⟩, ⟨fun i hi => ?_, fun _ => ?_⟩⟩
            · simp only [hb, ho]
              rw [hc i (by omega)]
              rw [htl] at hi
              simp [List.getD, hi]
            · rw [hb]
              exact World.block_lt_of_cell? w _ (hc 0 (by omega))
    · rename_i he
      cases hc : Nat.beq (P.cellsOf e) 1 with
      | false => simp [hc] at hk
      | true =>
        simp [hc] at hk
        subst hk
        have hc1 : P.cellsOf e = 1 := Nat.beq_eq.mp hc
        rcases open_strings ht he hc1 hf with ⟨hcs, _⟩ | ⟨a, len, cap, zs, hcs, _, hle, hmax, hall, _, hcell, hwf⟩
        · simp [Value.cells] at hcs
          obtain ⟨rfl, rfl, rfl⟩ := hcs
          refine ⟨.strs [], ⟨by simp, by simp⟩, (by rintro ⟨⟩), fun b hb => ?_⟩
          cases hb
          exact ⟨rfl, rfl, (0, 0), fun ρ j _ _ => ⟨⟨none, 0, rfl, by simp, by simp⟩, ⟨by intro i hi; simp at hi, by simp [K.len]⟩⟩⟩
        · simp [Value.cells] at hcs
          obtain ⟨rfl, rfl, rfl⟩ := hcs
          simp only [if_true] at hall
          have htl : (zs.take len0).length = len0 := by simp; omega
          refine ⟨.strs (zs.take len0), ⟨by omega, fun n hn => hwf n (List.mem_of_mem_take hn)⟩, (by rintro ⟨⟩), fun b hb => ?_⟩
          cases hb
          refine ⟨rfl, rfl, (a.block, a.off), fun ρ j hb ho => ?_⟩
          rcases Nat.eq_zero_or_pos len0 with h0 | hpos
          · subst h0
            exact ⟨⟨some a, cap0, by simp, by simp, by simp⟩, ⟨by intro i hi; simp at hi, by simp [K.len]⟩⟩
          · obtain ⟨b, off, spot⟩ := a
            have hspot : spot = none := by simpa [Addr.add] using World.cell?_spot (hcell 0 (by omega))
            subst hspot
            simp only at hb ho
            have hc : ∀ j, j < zs.length → w.cell? ⟨b, off + j, none⟩ = some (.string (zs.getD j .empty)) := fun j hj => by rw [← Go.WideShapes.add_plain]; exact hcell j hj
            refine ⟨⟨some ⟨b, off, none⟩, cap0, by rw [htl], by omega, fun _ => by rw [hb, ho, Nat.add_zero]⟩, ⟨fun i hi => ?_, fun _ => ?_⟩⟩
            · simp only [hb, ho]
              rw [hc i (by omega)]
              rw [htl] at hi
              simp [List.getD, hi]
            · rw [hb]
              exact World.block_lt_of_cell? w _ (hc 0 (by omega))
    · rename_i n e' he
      split at hk
      · rename_i k he'
        cases hc : Nat.beq (P.cellsOf e') 1 && (Nat.beq (P.cellsOf e) n && Nat.blt 0 n) with
        | false => simp [hc] at hk
        | true =>
          simp [hc] at hk
          subst hk
          simp only [Bool.and_eq_true] at hc
          have hc1 : P.cellsOf e' = 1 := Nat.beq_eq.mp hc.1
          have hcn : P.cellsOf e = n := Nat.beq_eq.mp hc.2.1
          have hn : 0 < n := Nat.blt_eq.mp hc.2.2
          rcases DataW.trod_slice ht hf with ⟨hcs, _⟩ | ⟨a, len, cap, elems, rest, f1, _, hcs, _, _, hle, hmax, hlen, hel, _, _⟩
          · simp [Value.cells] at hcs
            obtain ⟨rfl, rfl, rfl⟩ := hcs
            refine ⟨.arrs k n 0 [], ⟨rfl, rfl, by simp, by simp, by simp⟩, (by rintro ⟨⟩), fun b hb => ?_⟩
            cases hb
            exact ⟨rfl, rfl, (0, 0), fun ρ j _ _ => ⟨⟨none, 0, rfl, by simp, by simp⟩, ⟨by intro i hi; simp at hi, by simp [K.len]⟩⟩⟩
          · simp [Value.cells] at hcs
            obtain ⟨rfl, rfl, rfl⟩ := hcs
            have each : ∀ i j, i < len0 → j < n → ∃ z, w.cell? ((a.add (i * n)).add j) = some (.int k z) ∧ (Lit.int k z).wf = true := by
              intro i j hi hj
              have h1 := hel i hi
              rw [hcn] at h1
              have hx : elems[i]? = some elems[i] := List.getElem?_eq_getElem (by omega)
              rw [hx] at h1
              rw [Option.bind_eq_some_iff] at h1
              obtain ⟨cs, h2, h3⟩ := h1
              obtain ⟨_, hl2, hcell⟩ := World.cells?_some h2
              obtain ⟨xs, f2, _, _, _, hxl, hel2⟩ := DataW.trod_array he h3
              have h4 := hel2 j hj
              rw [hc1, Nat.mul_one, List.getElem?_eq_getElem (by omega)] at h4
              obtain ⟨z, hz, _, hw⟩ := DataW.trod_int he' h4
              refine ⟨z, ?_, hw⟩
              rw [hcell j hj]
              have h0 := congrArg (fun l => l[0]?) hz
              simpa [List.getElem?_drop] using h0
            rcases Nat.eq_zero_or_pos len0 with h0 | hl0
            · subst h0
              refine ⟨.arrs k n 0 [], ⟨rfl, rfl, by simp, by simp, by simp⟩, (by rintro ⟨⟩), fun b hb => ?_⟩
              cases hb
              exact ⟨rfl, rfl, (a.block, a.off), fun ρ j hb ho => ⟨⟨some a, cap0, rfl, by omega, by simp⟩, ⟨by intro i hi; simp at hi, by simp [K.len]⟩⟩⟩
            · have hpos : 0 < len0 * n := Nat.mul_pos hl0 hn
              obtain ⟨b, off, spot⟩ := a
              have hspot : spot = none := by
                obtain ⟨z, hz, _⟩ := each 0 0 hl0 hn
                simpa [Addr.add] using World.cell?_spot hz
              subst hspot
              let f : Nat → Int := fun i => match w.cell? ⟨b, off + i, none⟩ with | some (.int _ z) => z | _ => 0
              have hf : ∀ i, i < len0 * n → w.cell? ⟨b, off + i, none⟩ = some (.int k (f i)) ∧ (Lit.int k (f i)).wf = true := by
                intro i hi
                obtain ⟨z, hz, hw⟩ := each (i / n) (i % n) (Nat.div_lt_of_lt_mul (by rw [Nat.mul_comm]; exact hi)) (Nat.mod_lt _ hn)
                rw [Go.WideShapes.add_plain, Go.WideShapes.add_plain, Nat.add_assoc, Nat.div_add_mod'] at hz
                have : f i = z := by simp only [f, hz]
                rw [this]; exact ⟨hz, hw⟩
              refine ⟨.arrs k n len0 ((List.range (len0 * n)).map f), ⟨rfl, rfl, by omega, by simp, fun z hz => ?_⟩, (by rintro ⟨⟩), fun b hb => ?_⟩
              · obtain ⟨i, hi, rfl⟩ := List.mem_map.1 hz
                exact (hf i (by simpa using hi)).2
              · cases hb
                refine ⟨rfl, rfl, (b, off), fun ρ j hb ho => ?_⟩
                refine ⟨⟨some ⟨b, off, none⟩, cap0, rfl, by omega, fun _ => by rw [hb, ho, Nat.add_zero]⟩, ⟨fun i hi => ?_, fun _ => ?_⟩⟩
                · simp only [hb, ho]
                  simp only [List.length_map, List.length_range] at hi
                  rw [(hf i hi).1]
                  simp [List.getD, hi]
                · rw [hb]
                  exact World.block_lt_of_cell? w _ (hf 0 hpos).1
      · cases hk
    · cases hk
  · rename_i n e ht
    split at hk
    · rename_i k he
      cases hc : Nat.beq (P.cellsOf e) 1 && Nat.beq (P.cellsOf t) n with
      | false => simp [hc] at hk
      | true =>
        simp [hc] at hk
        subst hk
        simp only [Bool.and_eq_true] at hc
        have hc1 : P.cellsOf e = 1 := Nat.beq_eq.mp hc.1
        have hcn : P.cellsOf t = n := Nat.beq_eq.mp hc.2
        obtain ⟨fuel, hf⟩ := hd
        obtain ⟨xs, m, _, _, hl, hxl, hel⟩ := DataW.trod_array ht hf
        have hagg : ∃ cs, v = .agg cs ∧ cs.size = n := by
          simp only [Value.okWide, ht] at hval
          obtain ⟨cs, h1, h2, _⟩ := hval
          exact ⟨cs, h1, by rw [h2, hcn]⟩
        obtain ⟨cs, rfl, hsz⟩ := hagg
        have each : ∀ i, i < n → ∃ z, cs[i]? = some (.int k z) ∧ (Lit.int k z).wf = true := by
          intro i hi
          have := hel i hi
          rw [hc1, Nat.mul_one] at this
          have hx : xs[i]? = some xs[i] := List.getElem?_eq_getElem (by omega)
          rw [hx] at this
          obtain ⟨z, hz, _, hw⟩ := DataW.trod_int he this
          refine ⟨z, ?_, hw⟩
          have h0 := congrArg (fun l => l[0]?) hz
          simpa [Value.cells, List.getElem?_drop] using h0
        let zs : List Int := cs.toList.map fun | .int _ z => z | _ => 0
        have hzs : ∀ i, i < n → cs[i]? = some (.int k (zs.getD i 0)) ∧ (Lit.int k (zs.getD i 0)).wf = true := by
          intro i hi
          obtain ⟨z, h1, h2⟩ := each i hi
          have : zs.getD i 0 = z := by simp [zs, List.getD, h1]
          rw [this]; exact ⟨h1, h2⟩
        have hzl : zs.length = n := by simp [zs, hsz]
        refine ⟨.arr k zs, ⟨rfl, hzl, fun z hz => ?_⟩, fun _ ρ j => ?_, fun b hb => by cases hb⟩
        · obtain ⟨i, hi, rfl⟩ := List.getElem_of_mem hz
          have := (hzs i (by omega)).2
          simpa [List.getD, hi] using this
        · have hcs : cs.toList = zs.map (Value.int k) := list_ext_getD (by simp [hzl, hsz]) fun i hi => by have := (hzs i (by omega)).1; simpa using this
          refine ⟨zs.map (Value.int k), ?_, rl_ints k ρ zs⟩
          rw [← hcs]
    · cases hk
  · cases hk

def kinds (P : Program) : List TypeId → Option (List Kind)
  | [] => some []
  | t :: r => match kindOf P t with
    | some k => match kinds P r with
      | some l => some (k :: l)
      | none => none
    | none => none

theorem open_all : ∀ {ts : List TypeId} {ks : List Kind} {vs : List Value} {ds : List (DataW H)} {ps : List MemPlace}, kinds P ts = some ks → DataW.TrodAll enc P w 0 (fun _ => true) true ts vs ds ps →
    (∀ (j : Nat) t v, ts[j]? = some t → vs[j]? = some v → Value.okWide P w r base t v) →
    ds.length = ts.length ∧ ∃ as, AllIs ks as ∧ (∀ b ∈ allB as, b.k.ids = [] ∧ b.mode = .ro) ∧ ∃ pl : List (Nat × Nat), pl.length = (allB as).length ∧ ∀ ρ j, (∀ (i : Nat) p, pl[i]? = some p → ρ.b (j + i) = p.1 ∧ ρ.o (j + i) = p.2) →
      RL (RW ρ) (allW as j) vs ∧ ∀ (i : Nat) b, (allB as)[i]? = some b → BlkRel P ρ (j + i) b w
  | [], ks, vs, ds, ps, hk, ht, _ => by
    simp [kinds] at hk
    subst hk
    obtain ⟨rfl, rfl, rfl⟩ := trodAll_nil ht
    exact ⟨rfl, [], trivial, by simp [allB], [], rfl, fun ρ j _ => ⟨.nil, by simp [allB]⟩⟩
  | t :: ts, ks, vs, ds, ps, hk, ht, hv => by
    simp only [kinds] at hk
    split at hk
    · rename_i k hk1
      split at hk
      · rename_i l hk2
        cases hk
        obtain ⟨v, vs', d, ds', p, q, rfl, rfl, rfl, h0, hr⟩ := trodAll_cons ht
        obtain ⟨a, a1, a2, a3⟩ := open_one hk1 (hv 0 t v rfl rfl) h0
        obtain ⟨hlen, as, b1, b2, pl, b3, b4⟩ := open_all hk2 hr (fun j t v h1 h2 => hv (j + 1) t v (by simpa using h1) (by simpa using h2))
        refine ⟨by simp [hlen], a :: as, ⟨a1, b1⟩, ?_⟩
        cases hb : argB a with
        | none =>
          refine ⟨by simpa [allB, hb] using b2, pl, by simpa [allB, hb] using b3, fun ρ j hρ => ?_⟩
          obtain ⟨c1, c2⟩ := b4 ρ j hρ
          simp only [allW, allB, hb]
          exact ⟨.cons (a2 hb ρ j) c1, c2⟩
        | some b =>
          obtain ⟨hid, hro, p0, hp⟩ := a3 b hb
          have hall : ∀ x ∈ b :: allB as, x.k.ids = [] ∧ x.mode = .ro := by
            intro x hx
            rcases List.mem_cons.1 hx with rfl | hx
            · exact ⟨hid, hro⟩
            · exact b2 x hx
          refine ⟨by simpa only [allB, hb] using hall, p0 :: pl, by simp [allB, hb, b3], fun ρ j hρ => ?_⟩
          have h00 := hρ 0 p0 (by simp)
          obtain ⟨e1, e2⟩ := hp ρ j h00.1 h00.2
          obtain ⟨c1, c2⟩ := b4 ρ (j + 1) (fun i p hi => by
            have := hρ (i + 1) p (by simpa using hi)
            rw [show j + (i + 1) = j + 1 + i by omega] at this
            exact this)
          simp only [allW, allB, hb]
          refine ⟨.cons e1 c1, fun i b' hb' => ?_⟩
          cases i with
          | zero => simp at hb'; subst hb'; exact e2
          | succ i =>
            have := c2 i b' (by simpa using hb')
            rw [show j + (i + 1) = j + 1 + i by omega]
            exact this
      · cases hk
    · cases hk

theorem trodAll_below (hl : laidOutB P = true) {W W' : World} (hb : Below W.heap.size W W') : ∀ {ts : List TypeId} {vs : List Value} {ds : List (DataW H)} {ps : List MemPlace}, (ts.all fun t => P.readableRec t && decide (t < P.types.size)) = true →
    DataW.TrodAll enc P W 0 (fun _ => true) true ts vs ds ps → (∀ x ∈ ps, x.block < W.heap.size) → DataW.TrodAll enc P W' 0 (fun b => decide (b < W.heap.size)) true ts vs ds ps
  | [], vs, ds, ps, _, h, _ => by
    obtain ⟨rfl, rfl, rfl⟩ := trodAll_nil h
    exact trodAll_mk0
  | t :: ts, vs, ds, ps, hr, h, hlt => by
    simp only [List.all_cons, Bool.and_eq_true, decide_eq_true_eq] at hr
    obtain ⟨v, vs', d, ds', p, q, rfl, rfl, rfl, h0, h1⟩ := trodAll_cons h
    exact ⟨p, q, Below.trod hl hr.1.1 hr.1.2 h0 hb (fun x hx => hlt x (by simp [hx])), trodAll_below hl hb hr.2 h1 (fun x hx => hlt x (by simp [hx])), rfl⟩

/-- A law: from its contract at open arguments to the row's step. -/
theorem law_step {f : FuncId} {fn : Func} {s : ChangeSpec} {ks : List Kind} {tb : TypeId} (hl : laidOutB P = true) (hr : (fn.params.toList.all fun t => P.readableRec t && decide (t < P.types.size)) = true) (hks : kinds P fn.params.toList = some ks)
    (hv : s.vars = []) (hres : fn.resultTypes = #[tb]) (htb : P.underlying tb = some .bool) (hfn : ∀ ds : List (DataW H), ds.length = fn.params.size → s.fn H ds = { results := [.lit (.bool true)], args := ds })
    (hspec : ∀ as, AllIs ks as → Spec P f (allW as 0) (allB as) ⟨V.bool true, [], []⟩)
    {W : World} {base : Nat} {args : Array Value} {ds gs : List (DataW H)} {before : List MemPlace} (hval : ∀ (j : Nat) t v, fn.params[j]? = some t → args[j]? = some v → Value.okWide P W .any base t v)
    (hW : DataW.Whole enc P fn.params.toList s.vars false W args.toList ds gs before) :
    Calls P f args W fun e W' => ∃ v, e = .returned v ∧ s.post enc P fn false true false false W args v W' := by
  have hlt := hW.lt
  have hW0 := hW
  obtain ⟨p, q, hA, hV, rfl, hfz, _⟩ := hW
  rw [hv] at hV
  obtain ⟨rfl, rfl⟩ := trodVars_none hV
  obtain ⟨hdl, as, a1, a2, pl, a3, a4⟩ := open_all hks hA (fun j t v h1 h2 => hval j t v (by simpa using h1) (by simpa using h2))
  let ρ : Env := ⟨fun i => (pl.getD i (0, 0)).1, fun i => (pl.getD i (0, 0)).2, fun _ => .nilFunc⟩
  obtain ⟨c1, c2⟩ := a4 ρ 0 (fun i p hi => by rw [Nat.zero_add]; simp [ρ, List.getD, hi])
  have hM : MemOk P ρ (mOf (allB as)) W := by
    refine ⟨fun id b hb => ?_, fun i j bi bj hi _ hli _ _ => ?_⟩
    · rw [mOf_get] at hb
      have := c2 id b hb
      rwa [Nat.zero_add] at this
    · rw [mOf_get] at hi
      have := (a2 bi (List.mem_of_getElem? hi)).2
      unfold live at hli
      rw [this] at hli
      exact hli.elim
  have hs := hspec as a1 ρ args.toList W c1 hM
  rw [Array.toArray_toList] at hs
  refine hs.mono ?_
  rintro e W' ⟨y, ρ', rfl, hy, _, _, hfr, _⟩
  have hy' : y = .bool true := hy
  subst hy'
  have hbel : Below W.heap.size W W' := by
    refine ⟨hfr.os, hfr.tape, hfr.output, hfr.size, fun k hk => hfr.block k hk ?_⟩
    rintro ⟨id, blk, hm, hlv, _⟩
    rw [mOf_get] at hm
    have := (a2 blk (List.mem_of_getElem? hm)).2
    unfold live at hlv
    rw [this] at hlv
    exact hlv
  have hfn' := hfn ds (by rw [hdl]; simp)
  have hfn2 : s.fn H (ds ++ []) = { results := [.lit (.bool true)], args := ds } := by rw [List.append_nil]; exact hfn'
  refine ⟨_, rfl, ds, [], p ++ [], [], p, [], hW0, ?_, ?_, ?_, hbel.frame _, fun h => by cases h⟩
  · rw [hfn2, hres]
    exact trodAll_cons_mk (shut_bool htb _) trodAll_mk0
  · rw [hfn2]
    exact trodAll_below hl hbel hr hA (fun x hx => hlt x (by simp [hx]))
  · rw [hfn2, hv]
    rfl
end

/-- what stands behind a loop's head. -/
def kAt (P : Program) (tab : Tab) (fn : Func) (as : List (Nat × Bool)) (heads : Nat) (args : List W) (ms : List Blk) : List Item :=
  match fn.body with
  | some body => match run P tab as fn.ntmps 1000000 heads (cfg [.code body] (List.range args.length) (args.map V.w) ms) with
    | some (c, _) => c.k
    | none => []
  | none => []

theorem onil : ∀ b ∈ ([] : List Bool), b = true := by simp
theorem ocons {b : Bool} {l : List Bool} (h : b = true) (hl : ∀ b ∈ l, b = true) : ∀ x ∈ b :: l, x = true := by
  intro x hx
  rcases List.mem_cons.1 hx with rfl | hx
  · exact h
  · exact hl x hx
theorem ohead {b : Bool} {l : List Bool} (h : ∀ x ∈ b :: l, x = true) : b = true := h b (List.mem_cons_self ..)
theorem otail {b : Bool} {l : List Bool} (h : ∀ x ∈ b :: l, x = true) : ∀ x ∈ l, x = true := fun x hx => h x (List.mem_cons_of_mem _ hx)
def tt (n : Nat) : List Bool := List.replicate n true
theorem ott (n : Nat) : ∀ b ∈ tt n, b = true := by
  intro b hb
  exact (List.mem_replicate.1 hb).2

/-- from a loop's head on: so many turns are left. -/
theorem G.turns {X : Ctx} (st : Nat → Cfg) (n : Nat) (step : ∀ j, j < n → G X (st (j + 1)) → G X (st j)) (stop : G X (st n)) : ∀ m j, j + m = n → G X (st j)
  | 0, j, h => by
    have : j = n := by omega
    subst this
    exact stop
  | m + 1, j, h => step j (by omega) (G.turns st n step stop m (j + 1) (by omega))

theorem G.loop {X : Ctx} (st : Nat → Cfg) (n : Nat) (step : ∀ j, j < n → G X (st (j + 1)) → G X (st j)) (stop : G X (st n)) : G X (st 0) :=
  G.turns st n step stop n 0 (by omega)

/-- a nil slice seen as a row of its own with nothing in it. -/
theorem G.nilOwn {X : Ctx} {k : List Item} {ts : List Nat} {vs : List V} {bs : List Blk} (i : Nat) (e : TypeId) (K0 : K) (hK : K0.len = 0) (hid : K0.ids = []) (hv : vs[i]? = some (.w (.c (.v (.slice none 0 0))))) (hn : X.I.1 ≤ bs.length)
    (hg : G X (cfg k ts (vs.set i (.w (.c (.own bs.length)))) (bs ++ [⟨e, .own 0, K0⟩]))) : G X (cfg k ts vs bs) := by
  intro ρ a w hs
  let ρ' : Env := ρ.set bs.length 0 (.slice none 0 0)
  have hsame : ∀ j, j < bs.length → ρ.same ρ' j := fun j hj => Env.set_same (by omega)
  have hlt : ∀ id b, mOf bs id = some b → id < bs.length := by
    intro id b hb
    rw [mOf_get] at hb
    exact (List.getElem?_eq_some_iff.1 hb).1
  have hget : ∀ id b, mOf (bs ++ [⟨e, .own 0, K0⟩]) id = some b → (id < bs.length ∧ mOf bs id = some b) ∨ (id = bs.length ∧ b = ⟨e, .own 0, K0⟩) := by
    intro id b hb
    rw [mOf_get] at hb
    rcases Nat.lt_or_ge id bs.length with h | h
    · rw [List.getElem?_append_left h] at hb
      exact .inl ⟨h, by rw [mOf_get]; exact hb⟩
    · rw [List.getElem?_append_right h] at hb
      have hlen := (List.getElem?_eq_some_iff.1 hb).1
      simp at hlen
      have : id = bs.length := by omega
      subst this
      simp at hb
      exact .inr ⟨rfl, hb.symm⟩
  have hnl : ¬ live ρ' bs.length ⟨e, .own 0, K0⟩ := by
    simp [live, ρ', Env.set, Value.ownBlock]
  have hsim : Sim X.P X.D X.I X.F X.w0 (fun id => id < bs.length + 1) ρ' (tOf ts (vs.set i (.w (.c (.own bs.length))))) (mOf (bs ++ [⟨e, .own 0, K0⟩])) X.fn.ntmps a w := by
    have htm := hs.tm
    have hut := hs.ut
    refine ⟨?_, hs.sz, hs.df, ⟨?_, ?_⟩, ?_, hs.fr, ?_, ?_, ?_, ?_, ?_⟩
    · intro x v hx
      have key : ∀ (ts : List Nat) (vs : List V) (i : Nat), vs[i]? = some (.w (.c (.v (.slice none 0 0)))) → tOf ts (vs.set i (.w (.c (.own bs.length)))) x = some v → tOf ts vs x = some v ∨ (tOf ts vs x = some (.w (.c (.v (.slice none 0 0)))) ∧ v = .w (.c (.own bs.length))) := by
        intro ts
        induction ts with
        | nil => intro vs i _ h; simp [tOf] at h
        | cons y ts ih =>
          intro vs i hv h
          cases vs with
          | nil => simp at hv
          | cons u vs =>
            cases i with
            | zero =>
              simp only [List.set_cons_zero, tOf] at h ⊢
              simp only [List.getElem?_cons_zero, Option.some.injEq] at hv
              cases hb : Nat.beq x y with
              | true => simp only [hb, cond_true, Option.some.injEq] at h ⊢; exact .inr ⟨hv, h.symm⟩
              | false => simp only [hb, cond_false] at h ⊢; exact .inl h
            | succ i =>
              simp only [List.set_cons_succ, tOf] at h ⊢
              cases hb : Nat.beq x y with
              | true => simp only [hb, cond_true] at h ⊢; exact .inl h
              | false => simp only [hb, cond_false] at h ⊢; exact ih vs i (by simpa using hv) h
      rcases key ts vs i hv hx with h | ⟨h, rfl⟩
      · obtain ⟨y, hy, hr⟩ := htm x v h
        exact ⟨y, hy, hr.env fun j hj => hsame j (hut x v h j hj)⟩
      · obtain ⟨y, hy, hr⟩ := htm x _ h
        have hy' : y = .slice none 0 0 := hr
        subst hy'
        exact ⟨_, hy, by simp [ρ', Env.set], rfl⟩
    · intro id b hb
      rcases hget id b hb with ⟨h, hb'⟩ | ⟨rfl, rfl⟩
      · exact (hs.mem.rel id b hb').env (hsame id h) fun j hj => hsame j (hs.uk id b hb' j hj)
      · unfold BlkRel
        simp only
        refine ⟨by simp [ρ', Env.set], by simp [ρ', Env.set, Value.ownBlock], [], by simp only [ρ', Env.set, if_true]; exact World.ownsRow_nil w 0 _ _, by simp [hK], ?_⟩
        cases K0 with
        | cs l => simp [K.len] at hK; subst hK; intro j c hc; simp at hc
        | ints q l => simp [K.len] at hK; subst hK; intro j hj; simp at hj
        | strs l => simp [K.len] at hK; subst hK; intro j hj; simp at hj
    · intro i' j bi bj hi hj hli hlj hij
      rcases hget i' bi hi with ⟨h1, h2⟩ | ⟨rfl, rfl⟩
      · rcases hget j bj hj with ⟨h3, h4⟩ | ⟨rfl, rfl⟩
        · have := hs.mem.inj i' j bi bj h2 h4 ((live_env (hsame i' h1)).1 hli) (hlj.imp (live_env (hsame j h3)).1 id) hij
          rw [(hsame i' h1).b, (hsame j h3).b]; exact this
        · exfalso
          rcases hlj with hlj | ⟨hro, _⟩
          · exact hnl hlj
          · simp [Blk.ro] at hro
      · exact absurd hli hnl
    · intro id b hb hl
      rcases hget id b hb with ⟨h, hb'⟩ | ⟨rfl, rfl⟩
      · rw [(hsame id h).b]; exact hs.lo id b hb' ((live_env (hsame id h)).1 hl)
      · exact absurd hl hnl
    · intro x v hx id hid'
      obtain ⟨q, _, h2⟩ := tOf_get _ _ x v hx
      rw [List.getElem?_set] at h2
      split at h2
      · split at h2
        · simp at h2; subst h2
          simp [V.ids, W.ids, C.ids] at hid'
          omega
        · cases h2
      · have key2 : ∀ (ts : List Nat) (vs : List V) (i : Nat), tOf ts (vs.set i (.w (.c (.own bs.length)))) x = some v → tOf ts vs x = some v ∨ v = .w (.c (.own bs.length)) := by
          intro ts
          induction ts with
          | nil => intro vs i h; simp [tOf] at h
          | cons y ts ih =>
            intro vs i h
            cases vs with
            | nil => simp [tOf] at h
            | cons u vs =>
              cases i with
              | zero =>
                simp only [List.set_cons_zero, tOf] at h ⊢
                cases hb : Nat.beq x y with
                | true => simp only [hb, cond_true, Option.some.injEq] at h ⊢; exact .inr h.symm
                | false => simp only [hb, cond_false] at h ⊢; exact .inl h
              | succ i =>
                simp only [List.set_cons_succ, tOf] at h ⊢
                cases hb : Nat.beq x y with
                | true => simp only [hb, cond_true] at h ⊢; exact .inl h
                | false => simp only [hb, cond_false] at h ⊢; exact ih vs i h
        rcases key2 ts vs i hx with h | rfl
        · have := hut x v h id hid'
          change id < bs.length at this
          omega
        · simp [V.ids, W.ids, C.ids] at hid'
          omega
    · intro id b hb
      rcases hget id b hb with ⟨h, _⟩ | ⟨rfl, _⟩ <;> omega
    · intro id b hb j hj
      rcases hget id b hb with ⟨h, hb'⟩ | ⟨_, rfl⟩
      · have := hs.uk id b hb' j hj
        change j < bs.length at this
        omega
      · simp only [hid] at hj
        cases hj
    · intro j hj
      have h1 := hs.ini j hj
      have h2 := hsame j (by omega)
      exact ⟨h2.b.trans h1.b, h2.o.trans h1.o, h2.val.trans h1.val⟩
    · intro j hj
      omega
  refine hg ρ' a w ?_
  simpa [cfg] using hsim

/-- from a state to the function's end. -/
def ends (P : Program) (tab : Tab) (fn : Func) (as : List (Nat × Bool)) (f : Nat) (keep : List (Nat × Option IntKind)) (c : Cfg) : Option (V × List Blk × List Bool) :=
  match run P tab as fn.ntmps f 1000000 c with
  | some (c, o) => match finish P fn.results.toList keep c with
    | some (v, bs, o') => some (v, bs, o ++ o')
    | none => none
  | none => none

theorem G.ends {P : Program} {tab : Tab} {fn : Func} {ms : List Blk} {ρ : Env} {w : World} {r : Res} {c : Cfg} (hT : TabOk P tab) (hmix : P.follows .mixedOrders = true) (as : List (Nat × Bool)) (fu : Nat) (keep : List (Nat × Option IntKind)) {o : List Bool}
    (h : Sx.ends P tab fn as fu keep c = some (r.v, applyU ms r.upd ++ r.new, o)) (hσ : sigOk ms.length (keep.map (·.1)) = true) (hlen : Nat.beq (applyU ms r.upd).length ms.length = true) (hmo : modesOk ms (applyU ms r.upd ++ r.new) = true) (ho : ∀ b ∈ o, b = true) :
    G (mkX P tab fn ms ρ w r) c := by
  unfold Sx.ends at h
  split at h
  · rename_i c' o1 hrun
    split at h
    · rename_i v bs o2 hfin
      simp only [Option.some.injEq, Prod.mk.injEq] at h
      obtain ⟨h1, h2, rfl⟩ := h
      exact run_ok (X := mkX P tab fn ms ρ w r) ⟨hT, hmix⟩ _ _ _ c' o1 hrun (fun b hb => ho b (by simp [hb]))
        (G.finish keep hfin hσ (fun b hb => ho b (by simp [hb])) h1 h2 (by simpa using hlen) (by rw [h2]; exact hmo))
    · cases h
  · cases h

theorem spec_body {P : Program} {tab : Tab} {f : FuncId} {fn : Func} {args : List W} {ms : List Blk} {r : Res} (hf : P.funcs[f]? = some fn) (hb : fn.body.isSome = true) (hid : idsOk args ms = true) (hn : Nat.ble args.length fn.ntmps = true)
    (hg : ∀ ρ w, G (mkX P tab fn ms ρ w r) (cfg [.code (fn.body.getD .skip)] (List.range args.length) (args.map V.w) ms)) : Spec P f args ms r := by
  cases h : fn.body with
  | none => rw [h] at hb; cases hb
  | some body =>
    rw [h] at hg
    exact spec_of_G hf h hid (by simpa using hn) hg

end Sx
namespace Sx
open Go Go.RowKit

theorem Spec.resv {P : Program} {f : FuncId} {as : List W} {ms : List Blk} {r : Res} {v : V} (hi : ∀ ρ y, RV ρ r.v y → RV ρ v y) (h : Spec P f as ms r) : Spec P f as ms ⟨v, r.upd, r.new⟩ := by
  intro ρ vs w ha hM
  refine (h ρ vs w ha hM).mono ?_
  rintro e w' ⟨y, ρ', he, hv, hr⟩
  exact ⟨y, ρ', he, hi ρ' y hv, hr⟩

/-- an integer cell and a word that are the same. -/
theorem rc_word {n : Int} {m : Nat} (h : n = ((m % 18446744073709551616 : Nat) : Int)) {ρ : Env} {y : Value} : RC ρ (.v (.int .u64 n)) y ↔ RC ρ (.u m) y := by
  subst h
  exact Iff.rfl
theorem rl4 {R : C → Value → Prop} {a b c d a' b' c' d' : C} (h0 : ∀ y, R a y → R a' y) (h1 : ∀ y, R b y → R b' y) (h2 : ∀ y, R c y → R c' y) (h3 : ∀ y, R d y → R d' y) {vs : List Value} (h : RL R [a, b, c, d] vs) : RL R [a', b', c', d'] vs := by
  cases h with | cons x1 hl => cases hl with | cons x2 hl => cases hl with | cons x3 hl => cases hl with | cons x4 hl => cases hl with | nil =>
  exact .cons (h0 _ x1) (.cons (h1 _ x2) (.cons (h2 _ x3) (.cons (h3 _ x4) .nil)))
theorem rw4 {ρ : Env} {a b c d a' b' c' d' : C} (h0 : ∀ y, RC ρ a y → RC ρ a' y) (h1 : ∀ y, RC ρ b y → RC ρ b' y) (h2 : ∀ y, RC ρ c y → RC ρ c' y) (h3 : ∀ y, RC ρ d y → RC ρ d' y) {y : Value} (h : RW ρ (.agg [a, b, c, d]) y) : RW ρ (.agg [a', b', c', d']) y := by
  obtain ⟨cs, rfl, hl⟩ := h
  exact ⟨cs, rfl, rl4 h0 h1 h2 h3 hl⟩

/-- a number's words, as numbers. -/
def wd (n : Nat) (i : Nat) : Int := ((n / 18446744073709551616 ^ i % 18446744073709551616 : Nat) : Int)
theorem wd0 (n : Nat) : wd n 0 = ((n % 18446744073709551616 : Nat) : Int) := by simp [wd]
theorem wd1 (n : Nat) : wd n 1 = ((n / 18446744073709551616 % 18446744073709551616 : Nat) : Int) := by simp [wd]
theorem wd2 (n : Nat) : wd n 2 = ((n / 340282366920938463463374607431768211456 % 18446744073709551616 : Nat) : Int) := by simp [wd]
theorem wd3 (n : Nat) : wd n 3 = ((n / 6277101735386680763835789423207666416102355444464034512896 % 18446744073709551616 : Nat) : Int) := by simp [wd]
theorem wd_range (n i : Nat) : 0 ≤ wd n i ∧ wd n i < 18446744073709551616 := by
  unfold wd
  have := Nat.mod_lt (n / 18446744073709551616 ^ i) (show 0 < 18446744073709551616 by decide)
  omega
/-- four cells that hold a number's words. -/
def numI (n : Nat) : List C := [.v (.int .u64 (wd n 0)), .v (.int .u64 (wd n 1)), .v (.int .u64 (wd n 2)), .v (.int .u64 (wd n 3))]
theorem rw_numI {ρ : Env} {n : Nat} {y : Value} : RW ρ (.agg (numI n)) y ↔ RW ρ (.agg (numC n)) y := by
  constructor
  · exact fun h => rw4 (fun y => (rc_word (wd0 n)).1) (fun y => (rc_word (wd1 n)).1) (fun y => (rc_word (wd2 n)).1) (fun y => (rc_word (wd3 n)).1) h
  · exact fun h => rw4 (fun y => (rc_word (wd0 n)).2) (fun y => (rc_word (wd1 n)).2) (fun y => (rc_word (wd2 n)).2) (fun y => (rc_word (wd3 n)).2) h
/-- a row of four words. -/
def wrow (n : Nat) : List Int := [wd n 0, wd n 1, wd n 2, wd n 3]
theorem rw_row {ρ : Env} {n : Nat} {y : Value} : RW ρ (.agg (numC n)) y → RW ρ (.ints .u64 (wrow n)) y := by
  intro h
  obtain ⟨cs, rfl, hl⟩ := rw_numI.2 h
  cases hl with | cons x1 hl => cases hl with | cons x2 hl => cases hl with | cons x3 hl => cases hl with | cons x4 hl => cases hl with | nil =>
  simp only [RC] at x1 x2 x3 x4
  subst x1; subst x2; subst x3; subst x4
  rfl
/-- arguments one by one. -/
inductive Imps : List W → List W → Prop
  | nil : Imps [] []
  | cons {x y : W} {a b : List W} : (∀ ρ v, RW ρ x v → RW ρ y v) → Imps a b → Imps (x :: a) (y :: b)
theorem Imps.rl {ρ : Env} : ∀ {a b : List W} {vs : List Value}, Imps a b → RL (RW ρ) a vs → RL (RW ρ) b vs
  | _, _, _, .nil, h => h
  | _, _, _, .cons h r, .cons a b => .cons (h _ _ a) (r.rl b)
theorem Imps.refl : ∀ a : List W, Imps a a
  | [] => .nil
  | _ :: a => .cons (fun _ _ h => h) (Imps.refl a)
theorem Spec.imps {P : Program} {f : FuncId} {as bs : List W} {ms : List Blk} {r : Res} (hi : Imps as bs) (h : Spec P f bs ms r) : Spec P f as ms r := Spec.args (fun _ _ => hi.rl) h
theorem rv_tup2 {ρ : Env} {x z x' z' : W} {y : Value} (h1 : ∀ y, RW ρ x y → RW ρ x' y) (h2 : ∀ y, RW ρ z y → RW ρ z' y) (h : RV ρ (.tup [x, z]) y) : RV ρ (.tup [x', z']) y := by
  obtain ⟨vs, rfl, hl⟩ := h
  cases hl with | cons a hl => cases hl with | cons b hl => cases hl with | nil =>
  exact ⟨_, rfl, .cons (h1 _ a) (.cons (h2 _ b) .nil)⟩
theorem leaves_mono {P : Program} {fn : Func} {tmps : Array Value} {R R' : Ending → World → Prop} (hR : ∀ e w, R e w → R' e w) : ∀ (ds : List Deferred) (u : FrameMode) (w : World), Leaves P fn tmps R ds u w → Leaves P fn tmps R' ds u w
  | [], .returning, w, h => by
    obtain ⟨v, h1, h2⟩ := h
    exact ⟨v, h1, hR _ _ h2⟩
  | [], .panicking chain, w, h => hR _ _ h
  | [], .run, w, h => h
  | d :: ds, u, w, h => by
    obtain ⟨h1, fv, cap, f, args, h2, h3, h4⟩ := h
    refine ⟨h1, fv, cap, f, args, h2, h3, h4.mono fun e u' w' he => ?_⟩
    cases e with
    | returned v => exact leaves_mono hR ds _ _ he
    | panicked chain => exact leaves_mono hR ds _ _ he
    | outgrown => exact hR _ _ he
theorem Fin.mono {P : Program} {fn : Func} {R R' : Ending → World → Prop} {k : List Item} {a : Act} {w : World} (hR : ∀ e w, R e w → R' e w) (h : Fin P fn R k a w) : Fin P fn R' k a w := by
  intro b cs
  obtain ⟨e, a', w', hq, harr⟩ := h b cs
  refine ⟨e, a', w', ?_, harr⟩
  cases e with
  | normal => exact leaves_mono hR _ _ _ hq
  | ret => exact leaves_mono hR _ _ _ hq
  | panic chain => exact leaves_mono hR _ _ _ hq
  | outgrown => exact hR _ _ hq
  | _ => exact hq
/-- a walk's end at another value that stands for the same. -/
theorem G.resv {P : Program} {tab : Tab} {fn : Func} {ms : List Blk} {ρ : Env} {w : World} {r : Res} {v : V} {c : Cfg} (hi : ∀ ρ y, RV ρ r.v y → RV ρ v y) (h : G (mkX P tab fn ms ρ w r) c) : G (mkX P tab fn ms ρ w ⟨v, r.upd, r.new⟩) c := by
  intro ρ' a w' hs
  refine Fin.mono ?_ (h ρ' a w' hs)
  rintro e w'' ⟨y, ρ'', he, hv, hr⟩
  exact ⟨y, ρ'', he, hi ρ'' y hv, hr⟩
theorem ns1 {ns : List Nat} (h : ns.length = [1].sum) : ∃ a, ns = [a] := by
  match ns, h with
  | [a], _ => exact ⟨a, rfl⟩
theorem ns2 {ns : List Nat} (h : ns.length = [1, 1].sum) : ∃ a b, ns = [a, b] := by
  match ns, h with
  | [a, b], _ => exact ⟨a, b, rfl⟩
theorem ns3 {ns : List Nat} (h : ns.length = [1, 1, 1].sum) : ∃ a b c, ns = [a, b, c] := by
  match ns, h with
  | [a, b, c], _ => exact ⟨a, b, c, rfl⟩
end Sx
namespace Sx
open Go Go.RowKit

theorem tOf_set {u v' : V} {x : Nat} {v : V} : ∀ {ts : List Nat} {vs : List V} {i : Nat}, vs[i]? = some u → tOf ts (vs.set i v') x = some v → tOf ts vs x = some v ∨ (tOf ts vs x = some u ∧ v = v')
  | [], vs, i, _, h => by simp [tOf] at h
  | y :: ts, [], i, hv, h => by simp at hv
  | y :: ts, u0 :: vs, 0, hv, h => by
    simp only [List.set_cons_zero, tOf] at h ⊢
    simp only [List.getElem?_cons_zero, Option.some.injEq] at hv
    cases hb : Nat.beq x y with
    | true => simp only [hb, cond_true, Option.some.injEq] at h ⊢; exact .inr ⟨hv, h.symm⟩
    | false => simp only [hb, cond_false] at h ⊢; exact .inl h
  | y :: ts, u0 :: vs, i + 1, hv, h => by
    simp only [List.set_cons_succ, tOf] at h ⊢
    cases hb : Nat.beq x y with
    | true => simp only [hb, cond_true] at h ⊢; exact .inl h
    | false => simp only [hb, cond_false] at h ⊢; exact tOf_set (by simpa using hv) h

/-- a slice of one's own seen as one that is only read. -/
theorem G.ownSl {X : Ctx} {k : List Item} {ts : List Nat} {vs : List V} {bs : List Blk} (i id : Nat) {n : Nat} {b : Blk} (hv : vs[i]? = some (.w (.c (.own id)))) (hb : bs[id]? = some b) (hm : b.mode = .own n)
    (hg : G X (cfg k ts (vs.set i (.w (.c (.sl id 0 n)))) (bs.set id ⟨b.ty, .ro, b.k⟩))) : G X (cfg k ts vs bs) := by
  intro ρ a w hs
  refine hg ρ a w ?_
  have hb' : mOf bs id = some b := by rw [mOf_get]; exact hb
  have hlt : id < bs.length := (List.getElem?_eq_some_iff.1 hb).1
  have hget : ∀ j c, mOf (bs.set id ⟨b.ty, .ro, b.k⟩) j = some c → (j ≠ id ∧ mOf bs j = some c) ∨ (j = id ∧ c = ⟨b.ty, .ro, b.k⟩) := by
    intro j c hc
    rw [mOf_get, List.getElem?_set] at hc
    by_cases hji : id = j
    · subst hji
      simp [hlt] at hc
      exact .inr ⟨rfl, hc.symm⟩
    · simp only [hji, if_false] at hc
      exact .inl ⟨fun h => hji h.symm, by rw [mOf_get]; exact hc⟩
  have hrel := hs.mem.rel id b hb'
  have hcells := hrel.cells
  have hnl : ¬ live ρ id ⟨b.ty, .ro, b.k⟩ := fun h => h
  have hrel2 := hrel
  unfold BlkRel at hrel2
  rw [hm] at hrel2
  obtain ⟨ho0, hgb, xs, hown, hl, hi⟩ := hrel2
  have hnn : ∀ z, RC ρ (.own id) z → RC ρ (.sl id 0 n) z := by
    intro z hz
    have hz : z = ρ.val id := hz.1
    rcases hown.2 with ⟨hv, h0⟩ | ⟨g, cap, cur, hv, _, _, hcap, _⟩
    · exact ⟨none, 0, by rw [hz, hv, h0], by omega, by omega⟩
    · have hg := hgb g (by rw [hv]; rfl)
      exact ⟨some ⟨g, 0, none⟩, cap, by rw [hz, hv], hcap, fun _ => by rw [← hg, ho0]⟩
  have hlive : 0 < b.k.len → live ρ id b := by
    intro h0
    unfold live
    rw [hm]
    rcases hown.2 with ⟨hv, hn0⟩ | ⟨g, cap, cur, hv, _⟩
    · exfalso
      have h1 := hown.1
      rw [hn0] at h1
      simp at h1
      rw [h1] at hl
      simp at hl
      omega
    · simp only [hv]
      intro h; cases h
  refine ⟨?_, hs.sz, hs.df, ⟨?_, ?_⟩, ?_, hs.fr, ?_, ?_, ?_, hs.ini, ?_⟩
  · intro x v hx
    rcases tOf_set hv hx with h | ⟨h, rfl⟩
    · exact hs.tm x v h
    · obtain ⟨y, hy, hr⟩ := hs.tm x _ h
      exact ⟨y, hy, hnn y hr⟩
  · intro j c hc
    rcases hget j c hc with ⟨_, h⟩ | ⟨rfl, rfl⟩
    · exact hs.mem.rel j c h
    · refine ⟨hcells, fun h0 => ?_⟩
      exact hrel.lt (.inl (hlive h0))
  · intro i' j bi bj hi' hj hli hlj hij
    rcases hget i' bi hi' with ⟨h1, h2⟩ | ⟨rfl, rfl⟩
    · rcases hget j bj hj with ⟨h3, h4⟩ | ⟨rfl, rfl⟩
      · exact hs.mem.inj i' j bi bj h2 h4 hli hlj hij
      · refine hs.mem.inj i' j bi b h2 hb' hli ?_ hij
        rcases hlj with hlj | ⟨_, hpos⟩
        · exact absurd hlj hnl
        · exact .inl (hlive hpos)
    · exact absurd hli hnl
  · intro j c hc hl'
    rcases hget j c hc with ⟨_, h⟩ | ⟨rfl, rfl⟩
    · exact hs.lo j c h hl'
    · exact absurd hl' hnl
  · intro x v hx j hj
    show j < (bs.set id _).length
    rw [List.length_set]
    rcases tOf_set hv hx with h | ⟨h, rfl⟩
    · exact hs.ut x v h j hj
    · have : j = id := by simpa [V.ids, W.ids, C.ids] using hj
      omega
  · intro j c hc
    show j < (bs.set id _).length
    rw [List.length_set]
    rcases hget j c hc with ⟨_, h⟩ | ⟨rfl, _⟩
    · exact hs.um j c h
    · exact hlt
  · intro j c hc q hq
    show q < (bs.set id _).length
    rw [List.length_set]
    rcases hget j c hc with ⟨_, h⟩ | ⟨rfl, rfl⟩
    · exact hs.uk j c h q hq
    · exact hs.uk j b hb' q hq
  · intro q hq
    show q < (bs.set id _).length
    rw [List.length_set]
    exact hs.ui q hq

/-- an argument's slice seen a second time, as one that is only read. -/
theorem G.aliasRo {X : Ctx} {k : List Item} {ts : List Nat} {vs : List V} {bs : List Blk} (i : Nat) {j off n : Nat} {b : Blk} (hv : vs[i]? = some (.w (.c (.sl j off n)))) (hb : bs[j]? = some b) (hm : b.mode = .ro) (hn : X.I.1 ≤ bs.length)
    (hg : G X (cfg k ts (vs.set i (.w (.c (.sl bs.length off n)))) (bs ++ [b]))) : G X (cfg k ts vs bs) := by
  intro ρ a w hs
  let ρ' : Env := ⟨fun q => if q = bs.length then ρ.b j else ρ.b q, fun q => if q = bs.length then ρ.o j else ρ.o q, ρ.val⟩
  have hsame : ∀ q, q < bs.length → ρ.same ρ' q := fun q hq => by
    have : q ≠ bs.length := by omega
    exact ⟨by simp [ρ', this], by simp [ρ', this], rfl⟩
  have hb' : mOf bs j = some b := by rw [mOf_get]; exact hb
  have hget : ∀ id c, mOf (bs ++ [b]) id = some c → (id < bs.length ∧ mOf bs id = some c) ∨ (id = bs.length ∧ c = b) := by
    intro id c hc
    rw [mOf_get] at hc
    rcases Nat.lt_or_ge id bs.length with h | h
    · rw [List.getElem?_append_left h] at hc
      exact .inl ⟨h, by rw [mOf_get]; exact hc⟩
    · rw [List.getElem?_append_right h] at hc
      have hlen := (List.getElem?_eq_some_iff.1 hc).1
      simp at hlen
      have : id = bs.length := by omega
      subst this
      simp at hc
      exact .inr ⟨rfl, hc.symm⟩
  have hnl : ∀ (ρ : Env) q, ¬ live ρ q b := by
    intro ρ q h
    unfold live at h
    rw [hm] at h
    exact h
  have hrel := hs.mem.rel j b hb'
  have hro : b.ro := by unfold Blk.ro; rw [hm]; trivial
  have eb : ρ'.b bs.length = ρ.b j := by simp [ρ']
  have eo : ρ'.o bs.length = ρ.o j := by simp [ρ']
  refine hg ρ' a w ⟨?_, hs.sz, hs.df, ⟨?_, ?_⟩, ?_, hs.fr, ?_, ?_, ?_, ?_, ?_⟩
  · intro x v hx
    rcases tOf_set hv hx with h | ⟨h, rfl⟩
    · obtain ⟨y, hy, hr⟩ := hs.tm x v h
      exact ⟨y, hy, hr.env fun q hq => hsame q (hs.ut x v h q hq)⟩
    · obtain ⟨y, hy, hr⟩ := hs.tm x _ h
      obtain ⟨p, cap, h1, h2, h3⟩ := hr
      exact ⟨y, hy, p, cap, h1, h2, fun hp => by rw [eb, eo]; exact h3 hp⟩
  · intro id c hc
    rcases hget id c hc with ⟨h, hc'⟩ | ⟨rfl, rfl⟩
    · exact (hs.mem.rel id c hc').env (hsame id h) fun q hq => hsame q (hs.uk id c hc' q hq)
    · unfold BlkRel at hrel ⊢
      rw [hm] at hrel ⊢
      simp only [eb, eo]
      exact ⟨K.Is.env hrel.1 fun q hq => hsame q (hs.uk j c hb' q hq), hrel.2⟩
  · intro i' q bi bq hi hq hli hlq hij
    rcases hget i' bi hi with ⟨h1, h2⟩ | ⟨rfl, rfl⟩
    · have hli' := (live_env (hsame i' h1)).1 hli
      rcases hget q bq hq with ⟨h3, h4⟩ | ⟨rfl, rfl⟩
      · have := hs.mem.inj i' q bi bq h2 h4 hli' (hlq.imp (live_env (hsame q h3)).1 id) hij
        rw [(hsame i' h1).b, (hsame q h3).b]; exact this
      · have hne : i' ≠ j := by
          rintro rfl
          rw [hb'] at h2
          cases h2
          exact hnl _ _ hli
        rw [(hsame i' h1).b, eb]
        refine hs.mem.inj i' j bi bq h2 hb' hli' (.inr ⟨hro, ?_⟩) hne
        rcases hlq with hlq | ⟨_, hpos⟩
        · exact absurd hlq (hnl _ _)
        · exact hpos
    · exact absurd hli (hnl _ _)
  · intro id c hc hl'
    rcases hget id c hc with ⟨h, hc'⟩ | ⟨rfl, rfl⟩
    · rw [(hsame id h).b]; exact hs.lo id c hc' ((live_env (hsame id h)).1 hl')
    · exact absurd hl' (hnl _ _)
  · intro x v hx q hq
    show q < (bs ++ [b]).length
    rw [List.length_append, List.length_singleton]
    rcases tOf_set hv hx with h | ⟨h, rfl⟩
    · have := hs.ut x v h q hq
      change q < bs.length at this
      omega
    · have : q = bs.length := by simpa [V.ids, W.ids, C.ids] using hq
      omega
  · intro id c hc
    show id < (bs ++ [b]).length
    rw [List.length_append, List.length_singleton]
    rcases hget id c hc with ⟨h, _⟩ | ⟨rfl, _⟩ <;> omega
  · intro id c hc q hq
    show q < (bs ++ [b]).length
    rw [List.length_append, List.length_singleton]
    rcases hget id c hc with ⟨h, hc'⟩ | ⟨_, rfl⟩
    · have := hs.uk id c hc' q hq
      change q < bs.length at this
      omega
    · have := hs.uk j c hb' q hq
      change q < bs.length at this
      omega
  · intro q hq
    have h1 := hs.ini q hq
    have h2 := hsame q (by omega)
    exact ⟨by rw [h2.b, h1.b], by rw [h2.o, h1.o], by rw [h2.val, h1.val]⟩
  · intro q hq
    show q < (bs ++ [b]).length
    rw [List.length_append, List.length_singleton]
    omega
end Sx
