/- The symbolic executor, part T: a function's contract out of its walk. -/
import Derived.Test.YtmjejlbmcefaoaaSxS
namespace Sx
open Go Go.RowKit

def mkX (P : Program) (tab : Tab) (fn : Func) (ms : List Blk) (ρ : Env) (w : World) (r : Res) : Ctx where
  P := P
  tab := tab
  fn := fn
  R := Post P ρ ms r w
  I := (ms.length, ρ)
  F := fun b => ∃ id blk, mOf ms id = some blk ∧ live ρ id blk ∧ ρ.b id = b
  w0 := w

def Mode.kind : Mode → Nat
  | .ro => 0
  | .rw => 1
  | .own _ => 2

def modesOk : List Blk → List Blk → Bool
  | a :: l, b :: m => Nat.beq a.mode.kind b.mode.kind && modesOk l m
  | [], m => m.all fun b => !(Nat.beq b.mode.kind 0)
  | _ :: _, [] => false

theorem modesOk_ok : ∀ (l m : List Blk), modesOk l m = true → (∀ (i : Nat) a b, l[i]? = some a → m[i]? = some b → a.mode.kind = b.mode.kind) ∧ (∀ (i : Nat) a, l[i]? = some a → ∃ b, m[i]? = some b) ∧ (∀ (i : Nat) b, m[l.length + i]? = some b → b.mode.kind ≠ 0)
  | a :: l, b :: m, h => by
    simp only [modesOk, Bool.and_eq_true] at h
    obtain ⟨h1, h2, h3⟩ := modesOk_ok l m h.2
    refine ⟨fun i x y hx hy => ?_, fun i x hx => ?_, fun i y hy => ?_⟩
    · cases i with
      | zero => simp at hx hy; subst hx; subst hy; exact Nat.beq_eq.mp h.1
      | succ i => exact h1 i x y (by simpa using hx) (by simpa using hy)
    · cases i with
      | zero => exact ⟨b, by simp⟩
      | succ i => simpa using h2 i x (by simpa using hx)
    · refine h3 i y ?_
      rw [List.length_cons, show l.length + 1 + i = l.length + i + 1 by omega] at hy
      simpa using hy
  | [], m, h => by
    simp only [modesOk, List.all_eq_true, Bool.not_eq_true'] at h
    refine ⟨by simp, by simp, fun i b hb => ?_⟩
    have := h b (List.mem_of_getElem? hb)
    intro e
    rw [e] at this
    cases this
  | _ :: _, [], h => by simp [modesOk] at h

theorem live_kind {ρ ρ' : Env} {i : Nat} {a b : Blk} (hs : ρ.same ρ' i) (hk : a.mode.kind = b.mode.kind) (h : live ρ i a) : live ρ' i b := by
  unfold live at *
  cases ha : a.mode <;> cases hb : b.mode <;> rw [ha, hb] at hk <;> simp [Mode.kind] at hk <;> rw [ha] at h <;> simp_all [hs.val]

theorem ro_kind {b : Blk} (h : b.mode.kind ≠ 0) : ¬ b.ro := by
  unfold Blk.ro
  cases hb : b.mode <;> rw [hb] at h <;> simp [Mode.kind] at h ⊢

theorem Fin.of_end {P : Program} {fn : Func} {R : Ending → World → Prop} {k : List Item} {a : Act} {w : World} (he : atEnd k = true) (hd : a.defers = []) {v : Value} (hr : (results fn a.tmps).run P w = .ok v w) (hR : R (.returned v) w) : Fin P fn R k a w := by
  unfold atEnd at he
  split at he
  · exact Fin.done ⟨hd, v, hr, hR⟩
  · exact Fin.ret ⟨hd, v, hr, hR⟩
  · cases he

theorem G.finish {P : Program} {tab : Tab} {fn : Func} {ms : List Blk} {ρ : Env} {w : World} {r : Res} {c : Cfg} (keep : List (Nat × Option IntKind)) {bs : List Blk} {o : List Bool} {v : V}
    (h : finish P fn.results.toList keep c = some (v, bs, o)) (hσ : sigOk ms.length (keep.map (·.1)) = true) (ho : ∀ b ∈ o, b = true) (hv : v = r.v) (hbs : bs = applyU ms r.upd ++ r.new) (hlen : (applyU ms r.upd).length = ms.length)
    (hmo : modesOk ms bs = true) : G (mkX P tab fn ms ρ w r) c := by
  intro ρ1 a w1 hs
  unfold Sx.finish at h
  cases he : atEnd c.k with
  | false => simp [he] at h
  | true =>
    simp only [he, cond_true] at h
    split at h
    · rename_i ws o' hres
      split at h
      · rename_i v' bs' hren hproj
        simp only [Option.some.injEq, Prod.mk.injEq] at h
        obtain ⟨rfl, rfl, rfl⟩ := h
        have hs' := hs.proj (ts := []) (vs := []) rfl hproj hσ
        obtain ⟨ys, hys, hrun⟩ := resEvs_ok hs hres ho
        have hrv := retV_ok hys
        have hrv' := (V.ren_ok (σ := keep.map (·.1)) hren _).2 hrv
        obtain ⟨m1, m2, m3⟩ := modesOk_ok _ _ hmo
        refine Fin.of_end he hs.df (v := if h : ys.toArray.size = 1 then ys.toArray[0] else .tuple ys.toArray) ?_ ?_
        · change (results fn a.tmps).run P w1 = _
          unfold results
          rw [Array.mapM_eq_mapM_toList]
          simp only [Sem.run_bind, Sem.run_map]
          exact congrArg (fun r => Result.andThen (Result.andThen r fun a w' => Result.ok a.toArray w') fun a w' => Sem.run P (pure (if h : a.size = 1 then a[0] else Value.tuple a)) w') hrun
        · refine ⟨_, ρ1.pull (List.map (fun x : Nat × Option IntKind => x.1) keep), rfl, by rw [← hv]; exact hrv', hs'.ini, by rw [← hbs]; exact hs'.mem, hs'.fr, fun i b hb => ?_⟩
          have hbi : bs'[ms.length + i]? = some b := by
            rw [hbs, List.getElem?_append_right (by omega), hlen]
            simpa using hb
          refine ⟨ro_kind (m3 i b hbi), fun hl => ?_⟩
          have hmb : mOf bs' (ms.length + i) = some b := by rw [mOf_get]; exact hbi
          rcases hs'.lo _ b hmb hl with h | ⟨j, bj, hj, hlj, hbj⟩
          · exact h
          · exfalso
            rw [mOf_get] at hj
            have hjl := (List.getElem?_eq_some_iff.1 hj).1
            obtain ⟨bj', hbj'⟩ := m2 j bj hj
            have hsame := hs'.ini j hjl
            have hlive := live_kind hsame (m1 j bj bj' hj hbj') hlj
            refine hs'.mem.inj j (ms.length + i) bj' b (by rw [mOf_get]; exact hbj') hmb hlive (.inl hl) (by omega) ?_
            rw [hsame.b]
            exact hbj
      · cases h
    · cases h

def idsOk (args : List W) (ms : List Blk) : Bool :=
  (args.all fun x => x.ids.all fun i => Nat.blt i ms.length) && ms.all fun b => b.k.ids.all fun i => Nat.blt i ms.length

theorem spec_of_G {P : Program} {tab : Tab} {f : FuncId} {fn : Func} {body : Code} {args : List W} {ms : List Blk} {r : Res} (hf : P.funcs[f]? = some fn) (hb : fn.body = some body) (hid : idsOk args ms = true) (hn : args.length ≤ fn.ntmps)
    (hg : ∀ ρ w, G (mkX P tab fn ms ρ w r) (cfg [.code body] (List.range args.length) (args.map V.w) ms)) : Spec P f args ms r := by
  intro ρ vs w ha hM
  refine calls_of_fin hf hb ?_
  simp only [idsOk, Bool.and_eq_true, List.all_eq_true, Nat.blt_eq] at hid
  have hl := ha.length
  refine hg ρ w ρ _ w ⟨?_, ?_, rfl, hM, ?_, .refl _ _, ?_, ?_, ?_, fun i _ => .refl ρ i, fun i hi => hi⟩
  · intro x v hx
    obtain ⟨i, h1, h2⟩ := tOf_get _ _ x v hx
    have hil : i < args.length := by have := (List.getElem?_eq_some_iff.1 h1).1; simpa using this
    have hxi : x = i := by rw [List.getElem?_range hil] at h1; simpa using h1.symm
    subst hxi
    rw [List.getElem?_map] at h2
    cases ha' : args[x]? with
    | none => simp [ha'] at h2
    | some u =>
      simp [ha'] at h2
      subst h2
      obtain ⟨y, hy, hr⟩ := ha.get x u ha'
      exact ⟨y, by rw [Array.getElem?_append_left (by simp; omega)]; simpa using hy, hr⟩
  · simp [mkX]; omega
  · intro id blk hb hlive
    exact .inr ⟨id, blk, hb, hlive, rfl⟩
  · intro x v hx id hid'
    obtain ⟨i, h1, h2⟩ := tOf_get _ _ x v hx
    rw [List.getElem?_map] at h2
    cases ha' : args[i]? with
    | none => simp [ha'] at h2
    | some u =>
      simp [ha'] at h2
      subst h2
      exact hid.1 u (List.mem_of_getElem? ha') id hid'
  · intro id blk hb
    change mOf ms id = some blk at hb
    rw [mOf_get] at hb
    exact (List.getElem?_eq_some_iff.1 hb).1
  · intro id blk hb j hj
    change mOf ms id = some blk at hb
    rw [mOf_get] at hb
    exact hid.2 blk (List.mem_of_getElem? hb) j hj

/-- a whole function in one run. -/
def whole (P : Program) (tab : Tab) (fn : Func) (as : List (Nat × Bool)) (f : Nat) (keep : List (Nat × Option IntKind)) (args : List W) (ms : List Blk) : Option (V × List Blk × List Bool) :=
  match fn.body with
  | some body =>
    match run P tab as fn.ntmps f 1000000 (cfg [.code body] (List.range args.length) (args.map V.w) ms) with
    | some (c, o) => match finish P fn.results.toList keep c with
      | some (v, bs, o') => some (v, bs, o ++ o')
      | none => none
    | none => none
  | none => none

theorem spec_of_whole {P : Program} {tab : Tab} (hT : TabOk P tab) (hmix : P.follows .mixedOrders = true) {f : FuncId} {fn : Func} {args : List W} {ms : List Blk} {r : Res} (hf : P.funcs[f]? = some fn) (as : List (Nat × Bool)) (fu : Nat) (keep : List (Nat × Option IntKind)) {o : List Bool}
    (hid : idsOk args ms = true) (hn : Nat.ble args.length fn.ntmps = true) (hσ : sigOk ms.length (keep.map (·.1)) = true)
    (h : whole P tab fn as fu keep args ms = some (r.v, applyU ms r.upd ++ r.new, o)) (hlen : Nat.beq (applyU ms r.upd).length ms.length = true) (hmo : modesOk ms (applyU ms r.upd ++ r.new) = true) (ho : ∀ b ∈ o, b = true) : Spec P f args ms r := by
  unfold whole at h
  split at h
  · rename_i body hb
    split at h
    · rename_i c o1 hrun
      split at h
      · rename_i v bs o2 hfin
        simp only [Option.some.injEq, Prod.mk.injEq] at h
        obtain ⟨h1, h2, rfl⟩ := h
        refine spec_of_G (tab := tab) hf hb hid (by simpa using hn) fun ρ w => ?_
        exact run_ok (X := mkX P tab fn ms ρ w r) ⟨hT, hmix⟩ _ _ _ c o1 hrun (fun b hb => ho b (by simp [hb]))
          (G.finish keep hfin hσ (fun b hb => ho b (by simp [hb])) h1 h2 (by simpa using hlen) (by rw [h2]; exact hmo))
      · cases h
    · cases h
  · cases h

end Sx
