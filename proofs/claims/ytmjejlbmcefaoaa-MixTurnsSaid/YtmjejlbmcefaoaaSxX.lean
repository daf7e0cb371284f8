/- The symbolic executor, part X: arguments that are only read, seen as rows of numbers or texts. -/
import Derived.Test.YtmjejlbmcefaoaaSxW
namespace Sx
open Go Go.RowKit

inductive View where
  | val
  | ints (k : IntKind)
  | strs

def cStrs : List C → Option (List ByteArray)
  | [] => some []
  | .v (.string s) :: r => match cStrs r with
    | some l => some (s :: l)
    | none => none
  | _ => none

theorem cStrs_ok : ∀ {l : List C} {r : List ByteArray}, cStrs l = some r → r.length = l.length ∧ ∀ (i : Nat) c, l[i]? = some c → c = .v (.string (r.getD i .empty))
  | [], r, h => by simp [cStrs] at h; subst h; simp
  | .v (.string s) :: l, r, h => by
    simp only [cStrs] at h
    cases hr : cStrs l with
    | none => simp [hr] at h
    | some m =>
      simp [hr] at h
      subst h
      obtain ⟨h1, h2⟩ := cStrs_ok hr
      refine ⟨by simp [h1], fun i c hc => ?_⟩
      cases i with
      | zero => simp at hc; subst hc; simp
      | succ i => simpa using h2 i c (by simpa using hc)

def seeK (v : View) (k : K) : Option K :=
  match v with
  | .val => none
  | .ints kd => match viewK (some kd) k with
    | some (.ints a l) => some (.ints a l)
    | _ => none
  | .strs => match k with
    | .cs l => match cStrs l with
      | some r => some (.strs r)
      | none => none
    | .strs l => some (.strs l)
    | _ => none

theorem seeK_ok {ρ : Env} {v : View} {k k' : K} (h : seeK v k = some k') (read : Nat → Option Value) : (k.Is ρ read → ∀ ρ', k'.Is ρ' read) ∧ k'.len = k.len ∧ k'.ids = [] := by
  cases v with
  | val => simp [seeK] at h
  | ints kd =>
    simp only [seeK] at h
    split at h
    · rename_i a l hv
      simp at h
      subst h
      obtain ⟨h1, h2, _⟩ := viewK_ok (ρ := ρ) hv read
      exact ⟨fun hk _ => h1 hk, h2, rfl⟩
    · cases h
  | strs =>
    simp only [seeK] at h
    split at h
    · rename_i l
      split at h
      · rename_i r hr
        simp at h
        subst h
        obtain ⟨h1, h2⟩ := cStrs_ok hr
        refine ⟨fun hk _ i hi => ?_, h1, rfl⟩
        have hil : i < l.length := by omega
        obtain ⟨y, hy, hc⟩ := hk i _ (List.getElem?_eq_getElem hil)
        rw [h2 i _ (List.getElem?_eq_getElem hil)] at hc
        rw [hy, hc]
      · cases h
    · simp at h; subst h; exact ⟨fun hk _ => hk, rfl, rfl⟩
    · cases h

def View.nil : View → K
  | .ints k => .ints k []
  | _ => .strs []

def noIds : W → Bool
  | .c (.v _) => true
  | .ints _ _ => true
  | _ => false

/-- one argument: what it is seen as, and whose block. -/
def seeArg (v : View) (x : W) (ms : List Blk) (j : Nat) : Option (W × Option (Blk × Nat)) :=
  match v with
  | .val => bif noIds x then some (x, none) else none
  | v =>
    match x with
    | .c (.sl id off len) =>
      match ms[id]? with
      | some b => match seeK v b.k with
        | some k => some (.c (.sl j off len), some (⟨b.ty, .ro, k⟩, id))
        | none => none
      | none => none
    | .c (.own id) =>
      match ms[id]? with
      | some b => match b.mode with
        | .own n => match seeK v b.k with
          | some k => some (.c (.sl j 0 n), some (⟨b.ty, .ro, k⟩, id))
          | none => none
        | _ => none
      | none => none
    | .c (.v (.slice none 0 0)) => some (.c (.sl j 0 0), some (⟨0, .ro, v.nil⟩, 0))
    | _ => none

def seeAll : List View → List W → List Blk → Nat → Option (List W × List Blk × List Nat)
  | [], [], _, _ => some ([], [], [])
  | v :: vs, x :: xs, ms, j =>
    match seeArg v x ms j with
    | some (y, none) => match seeAll vs xs ms j with
      | some (ys, bs, σ) => some (y :: ys, bs, σ)
      | none => none
    | some (y, some (b, id)) => match seeAll vs xs ms (j + 1) with
      | some (ys, bs, σ) => some (y :: ys, b :: bs, id :: σ)
      | none => none
    | none => none
  | _, _, _, _ => none

theorem noIds_ok {ρ ρ' : Env} {x : W} {y : Value} (h : noIds x = true) (hx : RW ρ x y) : RW ρ' x y := by
  unfold noIds at h
  split at h
  · exact hx
  · exact hx
  · cases h

theorem seeArg_ok {P : Program} {ρ ρ' : Env} {v : View} {x y : W} {ms : List Blk} {j : Nat} {z : Value} {w : World} (hM : MemOk P ρ (mOf ms) w) (hx : RW ρ x z) :
    (seeArg v x ms j = some (y, none) → RW ρ' y z) ∧
    (∀ b id, seeArg v x ms j = some (y, some (b, id)) → ρ'.b j = ρ.b id → ρ'.o j = ρ.o id → RW ρ' y z ∧ b.mode = .ro ∧ b.k.ids = [] ∧ BlkRel P ρ' j b w) := by
  constructor
  · intro h
    unfold seeArg at h
    split at h
    · cases hn : noIds x with
      | true => simp [hn] at h; subst h; exact noIds_ok hn hx
      | false => simp [hn] at h
    · split at h <;> (try split at h) <;> (try split at h) <;> (try split at h) <;> simp at h
  · intro b id h hb ho
    unfold seeArg at h
    split at h
    · cases hn : noIds x <;> simp [hn] at h
    · split at h
      · rename_i id' off len
        split at h
        · rename_i b0 hb0
          split at h
          · rename_i k hk
            simp only [Option.some.injEq, Prod.mk.injEq] at h
            obtain ⟨rfl, rfl, rfl⟩ := h
            have hrel := hM.rel id' b0 (by rw [mOf_get]; exact hb0)
            obtain ⟨a, cap, hz, hle, hpos⟩ := hx
            have hcells := hrel.cells
            obtain ⟨h1, h2, h3⟩ := seeK_ok (ρ := ρ) hk (fun i => w.cell? ⟨ρ.b id', ρ.o id' + i, none⟩)
            refine ⟨⟨a, cap, hz, hle, by rw [hb, ho]; exact hpos⟩, rfl, h3, ?_⟩
            refine ⟨by rw [hb, ho]; exact h1 hcells ρ', fun hlen => ?_⟩
            rw [hb]
            obtain ⟨us, hul, huv, _⟩ := K.Is.list (h1 hcells ρ')
            have h0 : 0 < us.length := by rw [hul]; exact hlen
            exact World.block_lt_of_cell? w _ (huv 0 _ (List.getElem?_eq_getElem h0))
          · cases h
        · cases h
      · rename_i id'
        split at h
        · rename_i b0 hb0
          split at h
          · rename_i n hmode
            split at h
            · rename_i k hk
              simp only [Option.some.injEq, Prod.mk.injEq] at h
              obtain ⟨rfl, rfl, rfl⟩ := h
              have hrel := hM.rel id' b0 (by rw [mOf_get]; exact hb0)
              have hcells := hrel.cells
              obtain ⟨h1, h2, h3⟩ := seeK_ok (ρ := ρ) hk (fun i => w.cell? ⟨ρ.b id', ρ.o id' + i, none⟩)
              unfold BlkRel at hrel
              rw [hmode] at hrel
              obtain ⟨ho0, hg, xs, hown, hl, hi⟩ := hrel
              have hz : z = ρ.val id' := hx.1
              refine ⟨?_, rfl, h3, by rw [hb, ho]; exact h1 hcells ρ', fun hlen => ?_⟩
              · rcases hown.2 with ⟨hv, h0⟩ | ⟨g, cap, cur, hv, _, _, hcap, _⟩
                · exact ⟨none, 0, by rw [hz, hv, h0], by omega, by omega⟩
                · have hgb := hg g (by rw [hv]; rfl)
                  exact ⟨some ⟨g, 0, none⟩, cap, by rw [hz, hv], hcap, fun _ => by rw [hb, ho, ← hgb, ho0]⟩
              · rw [hb]
                obtain ⟨us, hul, huv, _⟩ := K.Is.list (h1 hcells ρ')
                have h0 : 0 < us.length := by rw [hul]; exact hlen
                exact World.block_lt_of_cell? w _ (huv 0 _ (List.getElem?_eq_getElem h0))
            · cases h
          · cases h
        · cases h
      · simp only [Option.some.injEq, Prod.mk.injEq] at h
        obtain ⟨rfl, rfl, rfl⟩ := h
        have hz : z = .slice none 0 0 := hx
        refine ⟨⟨none, 0, hz, by omega, by omega⟩, rfl, by unfold View.nil; split <;> rfl, ?_⟩
        refine ⟨?_, ?_⟩
        · unfold View.nil; split <;> intro i hi <;> simp at hi
        · unfold View.nil; split <;> simp [K.len]
      · cases h

theorem seeAll_ok {P : Program} {ρ ρ' : Env} {ms : List Blk} {w : World} (hM : MemOk P ρ (mOf ms) w) : ∀ {vs : List View} {xs ys : List W} {zs : List Value} {j : Nat} {bs : List Blk} {σ : List Nat},
    seeAll vs xs ms j = some (ys, bs, σ) → RL (RW ρ) xs zs → (∀ (i : Nat) id, σ[i]? = some id → ρ'.b (j + i) = ρ.b id ∧ ρ'.o (j + i) = ρ.o id) →
    RL (RW ρ') ys zs ∧ bs.length = σ.length ∧ ∀ (i : Nat) b, bs[i]? = some b → b.mode = .ro ∧ b.k.ids = [] ∧ BlkRel P ρ' (j + i) b w
  | [], [], ys, zs, j, bs, σ, h, hz, _ => by
    simp [seeAll] at h
    obtain ⟨rfl, rfl, rfl⟩ := h
    cases hz
    exact ⟨.nil, rfl, by simp⟩
  | [], _ :: _, _, _, _, _, _, h, _, _ => by simp [seeAll] at h
  | _ :: _, [], _, _, _, _, _, h, _, _ => by simp [seeAll] at h
  | v :: vs, x :: xs, ys, zs, j, bs, σ, h, hz, hσ => by
    simp only [seeAll] at h
    cases hz with
    | cons hx hxs =>
      split at h
      · rename_i y hy
        split at h
        · rename_i ys' bs' σ' hr
          simp only [Option.some.injEq, Prod.mk.injEq] at h
          obtain ⟨rfl, rfl, rfl⟩ := h
          obtain ⟨h1, h2, h3⟩ := seeAll_ok hM hr hxs hσ
          exact ⟨.cons ((seeArg_ok hM hx).1 hy) h1, h2, h3⟩
        · cases h
      · rename_i y b id hy
        split at h
        · rename_i ys' bs' σ' hr
          simp only [Option.some.injEq, Prod.mk.injEq] at h
          obtain ⟨rfl, rfl, rfl⟩ := h
          have h0 := hσ 0 id (by simp)
          obtain ⟨k1, k2, k3, k4⟩ := (seeArg_ok (ρ' := ρ') hM hx).2 b id hy h0.1 h0.2
          obtain ⟨h1, h2, h3⟩ := seeAll_ok hM hr hxs (fun i id hi => by
            have := hσ (i + 1) id (by simpa using hi)
            rw [show j + (i + 1) = j + 1 + i by omega] at this
            exact this)
          refine ⟨.cons k1 h1, by simp [h2], fun i b' hb' => ?_⟩
          cases i with
          | zero => simp at hb'; subst hb'; exact ⟨k2, k3, k4⟩
          | succ i =>
            have := h3 i b' (by simpa using hb')
            rw [show j + (i + 1) = j + 1 + i by omega]
            exact this
        · cases h
      · cases h

/-- ids of what a call makes: its own names, the caller's. -/
def shiftId (m n i : Nat) : Nat := n + (i - m)

def freshB (m : Nat) (n : Nat) (ids : List Nat) : Bool := ids.all fun i => Nat.ble m i && Nat.blt i (m + n)

def roE (views : List View) (F : Entry) : Entry := fun args ms =>
  match seeAll views args ms 0 with
  | some (args2, ms2, _) =>
    match F args2 ms2 with
    | some (r, obs) =>
      match r.upd with
      | [] => bif (ms.all fun b => b.k.ids.all fun i => Nat.blt i ms.length) && freshB ms2.length r.new.length r.v.ids && r.new.all (fun b => freshB ms2.length r.new.length b.k.ids && !(Nat.beq b.mode.kind 0)) then
          some (⟨r.v.mapId (shiftId ms2.length ms.length), [], r.new.map (Blk.mapId (shiftId ms2.length ms.length))⟩, obs)
        else none
      | _ => none
    | none => none
  | none => none

theorem roE_ok {P : Program} {f : FuncId} {views : List View} {F : Entry} (hF : EntryOk P f F) : EntryOk P f (roE views F) := by
  intro args ms r obs h ho ρ vs w ha hM
  unfold roE at h
  split at h
  · rename_i args2 ms2 σ hsee
    split at h
    · rename_i r2 obs2 hr
      split at h
      · rename_i hupd
        cases hc : (ms.all fun b => b.k.ids.all fun i => Nat.blt i ms.length) && freshB ms2.length r2.new.length r2.v.ids && r2.new.all (fun b => freshB ms2.length r2.new.length b.k.ids && !(Nat.beq b.mode.kind 0)) with
        | false => simp [hc] at h
        | true =>
          simp only [hc, cond_true, Option.some.injEq, Prod.mk.injEq] at h
          obtain ⟨rfl, rfl⟩ := h
          simp only [freshB, Bool.and_eq_true, List.all_eq_true, Nat.ble_eq, Nat.blt_eq, Bool.not_eq_true'] at hc
          obtain ⟨⟨hcm, hcv⟩, hcn⟩ := hc
          obtain ⟨g1, g2, g3⟩ := seeAll_ok (ρ' := ρ.pull σ) hM hsee ha (fun i id hi => by rw [Nat.zero_add]; simp [Env.pull, hi])
          have hro : ∀ (i : Nat) b, ms2[i]? = some b → b.mode = .ro := fun i b hb => (g3 i b hb).1
          have hlv : ∀ (ρ : Env) (i j : Nat) b, ms2[i]? = some b → ¬ live ρ j b := by
            intro ρ i j b hb hl
            unfold live at hl
            rw [hro i b hb] at hl
            exact hl
          have hM2 : MemOk P (ρ.pull σ) (mOf ms2) w := by
            refine ⟨fun i b hb => ?_, fun i j bi bj hi hj hl _ _ => ?_⟩
            · rw [mOf_get] at hb
              have := (g3 i b hb).2.2
              rwa [Nat.zero_add] at this
            · rw [mOf_get] at hi
              exact absurd hl (hlv _ i i bi hi)
          refine (hF args2 ms2 r2 obs2 hr ho (ρ.pull σ) vs w g1 hM2).mono ?_
          rintro e w' ⟨y, ρl, rfl, hv, hini, hmem, hfr, hnew⟩
          rw [hupd] at hmem
          simp only [applyU] at hmem
          have hfr0 : Fr (fun _ => False) w w' := hfr.weaken (by
            rintro b hb ⟨id, blk, hm, hl, _⟩
            rw [mOf_get] at hm
            exact hlv _ id id blk hm hl)
          let ρ' : Env := ⟨fun i => bif Nat.blt i ms.length then ρ.b i else ρl.b (ms2.length + (i - ms.length)), fun i => bif Nat.blt i ms.length then ρ.o i else ρl.o (ms2.length + (i - ms.length)), fun i => bif Nat.blt i ms.length then ρ.val i else ρl.val (ms2.length + (i - ms.length))⟩
          have hold : ∀ i, i < ms.length → ρ.same ρ' i := by
            intro i hi
            have : Nat.blt i ms.length = true := by rw [Nat.blt_eq]; exact hi
            exact ⟨by simp [ρ', this], by simp [ρ', this], by simp [ρ', this]⟩
          have hnewS : ∀ i, ms2.length ≤ i → Same3 ρl i ρ' (shiftId ms2.length ms.length i) := by
            intro i hi
            have : Nat.blt (ms.length + (i - ms2.length)) ms.length = false := by rw [← Bool.not_eq_true, Nat.blt_eq]; omega
            have e : ms2.length + (i - ms2.length) = i := by omega
            exact ⟨by simp [ρ', shiftId, this, e], by simp [ρ', shiftId, this, e], by simp [ρ', shiftId, this, e]⟩
          have hget : ∀ (i : Nat) b, (r2.new.map (Blk.mapId (shiftId ms2.length ms.length)))[i]? = some b → ∃ b0, r2.new[i]? = some b0 ∧ b = b0.mapId (shiftId ms2.length ms.length) := by
            intro i b hb
            rw [List.getElem?_map] at hb
            cases h0 : r2.new[i]? with
            | none => simp [h0] at hb
            | some b0 => simp [h0] at hb; exact ⟨b0, rfl, hb.symm⟩
          have hnl : ∀ (i : Nat) b0, r2.new[i]? = some b0 → BlkRel P ρ' (ms.length + i) (b0.mapId (shiftId ms2.length ms.length)) w' ∧ ¬ b0.ro ∧ (live ρ' (ms.length + i) (b0.mapId (shiftId ms2.length ms.length)) → live ρl (ms2.length + i) b0) ∧ ρ'.b (ms.length + i) = ρl.b (ms2.length + i) := by
            intro i b0 hb0
            have hS := hnewS (ms2.length + i) (by omega)
            have e : shiftId ms2.length ms.length (ms2.length + i) = ms.length + i := by unfold shiftId; omega
            rw [e] at hS
            have hrel := hmem.rel (ms2.length + i) b0 (by rw [mOf_get, List.getElem?_append_right (by omega)]; simpa using hb0)
            have := hrel.mapId (g := shiftId ms2.length ms.length) (by rw [e]; exact hS) (fun j hj => hnewS j ((hcn b0 (List.mem_of_getElem? hb0)).1 j hj).1)
            rw [e] at this
            refine ⟨this, (hnew i b0 hb0).1, fun hl => ?_, hS.b⟩
            unfold live at *
            simp only [Blk.mapId] at hl
            cases hm : b0.mode <;> rw [hm] at hl <;> simp_all [hS.val]
          refine ⟨y, ρ', rfl, hv.mapId fun i hi => hnewS i (hcv i hi).1, hold, ⟨?_, ?_⟩, hfr0.weaken (fun _ _ h => h.elim), ?_⟩
          · intro id blk hb
            simp only [applyU] at hb
            rw [mOf_get] at hb
            rcases Nat.lt_or_ge id ms.length with hlt | hge
            · rw [List.getElem?_append_left hlt] at hb
              have hrel := hM.rel id blk (by rw [mOf_get]; exact hb)
              have hk := hrel.keep (w' := w') (fun hin => hfr0.block _ (hrel.lt hin) (fun h => h)) hfr0.size
              refine hk.env (hold id hlt) fun j hj => ?_
              exact hold j (hcm blk (List.mem_of_getElem? hb) j hj)
            · rw [List.getElem?_append_right hge] at hb
              obtain ⟨b0, h1, rfl⟩ := hget _ _ hb
              have := (hnl _ b0 h1).1
              rwa [show ms.length + (id - ms.length) = id by omega] at this
          · intro i j bi bj hi hj hli hlj hij
            simp only [applyU] at hi hj
            rw [mOf_get] at hi hj
            rcases Nat.lt_or_ge i ms.length with hil | hil <;> rcases Nat.lt_or_ge j ms.length with hjl | hjl
            · rw [List.getElem?_append_left hil] at hi
              rw [List.getElem?_append_left hjl] at hj
              have := hM.inj i j bi bj (by rw [mOf_get]; exact hi) (by rw [mOf_get]; exact hj) ((live_env (hold i hil)).1 hli) (hlj.imp (live_env (hold j hjl)).1 id) hij
              rw [(hold i hil).b, (hold j hjl).b]; exact this
            · rw [List.getElem?_append_left hil] at hi
              rw [List.getElem?_append_right hjl] at hj
              obtain ⟨b0, h1, rfl⟩ := hget _ _ hj
              obtain ⟨_, n2, n3, n4⟩ := hnl _ b0 h1
              rw [show ms.length + (j - ms.length) = j by omega] at n3 n4
              have h2 := (hM.rel i bi (by rw [mOf_get]; exact hi)).lt (.inl ((live_env (hold i hil)).1 hli))
              rcases hlj with hlj | ⟨hro', _⟩
              · have := (hnew _ b0 h1).2 (n3 hlj)
                rw [(hold i hil).b, n4]; omega
              · exact absurd ((ro_mode (b := b0) (b' := b0.mapId (shiftId ms2.length ms.length)) rfl).1 hro') n2
            · rw [List.getElem?_append_right hil] at hi
              rw [List.getElem?_append_left hjl] at hj
              obtain ⟨b0, h1, rfl⟩ := hget _ _ hi
              obtain ⟨_, n2, n3, n4⟩ := hnl _ b0 h1
              rw [show ms.length + (i - ms.length) = i by omega] at n3 n4
              have hin : bj.in ρ j := hlj.imp (live_env (hold j hjl)).1 id
              have h2 := (hM.rel j bj (by rw [mOf_get]; exact hj)).lt hin
              have := (hnew _ b0 h1).2 (n3 hli)
              rw [(hold j hjl).b, n4]; omega
            · rw [List.getElem?_append_right hil] at hi
              rw [List.getElem?_append_right hjl] at hj
              obtain ⟨b0, h1, rfl⟩ := hget _ _ hi
              obtain ⟨c0, k1, rfl⟩ := hget _ _ hj
              obtain ⟨_, n2, n3, n4⟩ := hnl _ b0 h1
              obtain ⟨_, m2, m3, m4⟩ := hnl _ c0 k1
              rw [show ms.length + (i - ms.length) = i by omega] at n3 n4
              rw [show ms.length + (j - ms.length) = j by omega] at m3 m4
              rw [n4, m4]
              refine hmem.inj _ _ b0 c0 (by rw [mOf_get, List.getElem?_append_right (by omega)]; simpa using h1) (by rw [mOf_get, List.getElem?_append_right (by omega)]; simpa using k1) (n3 hli) ?_ (by omega)
              rcases hlj with hlj | ⟨hro', _⟩
              · exact .inl (m3 hlj)
              · exact absurd ((ro_mode (b := c0) (b' := c0.mapId (shiftId ms2.length ms.length)) rfl).1 hro') m2
          · intro i b hb
            obtain ⟨b0, h1, rfl⟩ := hget _ _ hb
            obtain ⟨_, n2, n3, n4⟩ := hnl _ b0 h1
            refine ⟨fun hro' => n2 ((ro_mode (b := b0) (b' := b0.mapId (shiftId ms2.length ms.length)) rfl).1 hro'), fun hl => ?_⟩
            rw [n4]
            exact (hnew i b0 h1).2 (n3 hl)
      · cases h
    · cases h
  · cases h

end Sx
