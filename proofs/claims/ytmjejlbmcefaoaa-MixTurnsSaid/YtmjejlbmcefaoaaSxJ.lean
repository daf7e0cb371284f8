/- The symbolic executor, part J: make, append, conversions, len, comparisons. -/
import Derived.Test.YtmjejlbmcefaoaaSxI
namespace Sx
open Go Go.RowKit

def dropped (oid : Option Nat) : List (Nat × Option Blk) := match oid with | some id => [(id, none)] | none => []

theorem putM_drop (M : Mem) (oid : Option Nat) (base : Nat) (blk : Blk) (hne : ∀ id, oid = some id → id ≠ base) :
    putM M (dropped oid ++ [(base, some blk)]) = fun x => if x = base then some blk else if some x = oid then none else M x := by
  cases oid with
  | none => simp only [dropped, List.nil_append, putM_one]; funext x; by_cases h : x = base <;> simp [h]
  | some id =>
    have : putM M (dropped (some id) ++ [(base, some blk)]) = putM (putM M [(id, none)]) [(base, some blk)] := rfl
    rw [this, putM_one, putM_one]
    funext x
    by_cases h : x = base
    · simp [h]
    · by_cases h2 : x = id <;> simp [h, h2]

/-- a slice of the call's own, made or appended to; the old one is given up. -/
theorem Good.own {P : Program} {ρ : Env} {M : Mem} {base : Nat} {obs : List Bool} {w w' : World} {blk : Blk} {u : Value} {b : Nat} {oid : Option Nat} {n : Nat} (hM : MemOk P ρ M w) (hF : Fresh M base)
    (hmode : blk.mode = .own n) (hoid : ∀ id, oid = some id → ∃ bo, M id = some bo ∧ ∃ m, bo.mode = .own m) (hsz : w.heap.size ≤ w'.heap.size)
    (hold : ∀ k, k < w.heap.size → (∀ id, oid = some id → (ρ.val id).ownBlock ≠ some k) → w'.heap[k]? = w.heap[k]?) (hos : w'.os = w.os) (htp : w'.tape = w.tape) (hout : w'.output = w.output)
    (hone : u.oneCell' = true) (hb : BlkRel P (ρ.set base b u) base blk w')
    (hblk : u.ownBlock ≠ none → w.heap.size ≤ b ∨ ∃ id, oid = some id ∧ (ρ.val id).ownBlock = some b) :
    Good P ρ (ρ.set base b u) M base ⟨some (.w (.c (.own base))), dropped oid ++ [(base, some blk)], obs⟩ w w' u := by
  have hbR : inR base base := ⟨Nat.le_refl _, by omega⟩
  have hne : ∀ id b, M id = some b → id ≠ base := fun id b h e => hF.dom id b h (e ▸ hbR)
  have hoidb : ∀ id, oid = some id → id ≠ base := fun id h => by obtain ⟨bo, h', _⟩ := hoid id h; exact hne id bo h'
  have hob : ∀ id g, oid = some id → (ρ.val id).ownBlock = some g → g = ρ.b id ∧ ∃ bo, M id = some bo ∧ live ρ id bo := by
    intro id g h hg
    obtain ⟨bo, hbo, m, hm⟩ := hoid id h
    have hr := hM.rel id bo hbo
    unfold BlkRel at hr
    simp only [hm] at hr
    exact ⟨hr.2.1 g hg, bo, hbo, by unfold live; simp only [hm]; rw [hg]; simp⟩
  have hputM := putM_drop M oid base blk hoidb
  -- an old block that is not given up
  have hkeep : ∀ id bi, M id = some bi → some id ≠ oid → bi.in ρ id → w'.heap[ρ.b id]? = w.heap[ρ.b id]? := by
    intro id bi hid hno hin
    refine hold _ ((hM.rel id bi hid).lt hin) fun j hj he => ?_
    obtain ⟨e, bo, hbo, hlive⟩ := hob j _ hj he
    exact hM.inj j id bo bi hbo hid hlive hin (fun h => hno (by rw [← h, hj])) e.symm
  have hnewne : ∀ id bi, M id = some bi → some id ≠ oid → bi.in ρ id → u.ownBlock ≠ none → ρ.b id ≠ b := by
    intro id bi hid hno hin hu e
    rcases hblk hu with h | ⟨j, hj, hg⟩
    · have := (hM.rel id bi hid).lt hin; omega
    · obtain ⟨e', bo, hbo, hlive⟩ := hob j _ hj hg
      exact hM.inj j id bo bi hbo hid hlive hin (fun h => hno (by rw [← h, hj])) (by rw [← e', ← e])
  have hul : live (ρ.set base b u) base blk → u.ownBlock ≠ none := by
    unfold live; simp only [hmode]; simp [Env.set]
  refine ⟨?_, fun id hid => Env.set_same (fun e => hid (e ▸ hbR)), ⟨?_, ?_⟩, ⟨hos, htp, hout, hsz, fun k hk hn => hold k hk fun id hid he => ?_⟩, ?_⟩
  · rintro v' ⟨⟩
    exact ⟨by simp [Env.set], hone⟩
  · intro id bi h
    rw [hputM] at h
    simp only at h
    by_cases he : id = base
    · subst he; simp at h; subst h; exact hb
    · simp only [he, if_false] at h
      split at h
      · cases h
      · rename_i hno
        exact (((hM.rel id bi h).keep (hkeep id bi h hno) hsz).env (Env.set_same he) fun j hj => Env.set_same (fun e => hF.ids id bi h j hj (e ▸ hbR)))
  · intro i j bi bj hi hj hl hl' hij
    rw [hputM] at hi hj
    simp only at hi hj
    by_cases hi0 : i = base
    · subst hi0
      simp at hi
      subst hi
      have hj0 : j ≠ i := fun e => hij e.symm
      simp only [hj0, if_false] at hj
      split at hj
      · cases hj
      · rename_i hno
        have hlj : bj.in ρ j := by
          rcases hl' with h' | h'
          · exact .inl ((live_env (Env.set_same hj0)).1 h')
          · exact .inr h'
        have := hnewne j bj hj hno hlj (hul hl)
        simpa [Env.set, hj0] using this.symm
    · simp only [hi0, if_false] at hi
      split at hi
      · cases hi
      · rename_i hnoi
        have hli : live ρ i bi := (live_env (Env.set_same hi0)).1 hl
        by_cases hj0 : j = base
        · subst hj0
          simp at hj
          subst hj
          have hlb : live (ρ.set j b u) j blk := by
            rcases hl' with h' | ⟨h', _⟩
            · exact h'
            · unfold Blk.ro at h'; simp only [hmode] at h'
          have := hnewne i bi hi hnoi (.inl hli) (hul hlb)
          simpa [Env.set, hi0] using this
        · simp only [hj0, if_false] at hj
          split at hj
          · cases hj
          · have := hM.inj i j bi bj hi hj hli (hl'.imp (live_env (Env.set_same hj0)).1 id) hij
            simpa [Env.set, hi0, hj0] using this
  · obtain ⟨e, bo, hbo, hlive⟩ := hob id _ hid he
    exact hn ⟨id, bo, hbo, hlive, e.symm⟩
  · intro id bi h hl
    rw [hputM] at h
    simp only at h
    by_cases he : id = base
    · subst he
      simp at h
      subst h
      rcases hblk (hul hl) with h | ⟨j, hj, hg⟩
      · left; simpa [Env.set] using h
      · obtain ⟨e, bo, hbo, hlive⟩ := hob j _ hj hg
        exact .inr ⟨j, bo, hbo, hlive, by simp [Env.set, e]⟩
    · simp only [he, if_false] at h
      split at h
      · cases h
      · exact .inr ⟨id, bi, h, (live_env (Env.set_same he)).1 hl, by simp [Env.set, he]⟩

/-- what an append comes to. -/
theorem run_append {P : Program} {w : World} {t ty e : TypeId} {i : TypeInfo} {z : Value} (ht : P.underlying t = some (.slice e)) (hi : P.info? e = some i) (hz : i.zero = some z)
    (hzs : z.cells.size = i.size) (hpos : 0 < i.size) {v : Value} {n : Nat} {xs : List Value} (hown : w.ownsRow 0 e i.size v n xs)
    {ad : Option Addr} {m c : Nat} {news : List Value} (hl : news.length = m * i.size) (had : 0 < m → ∃ a, ad = some a ∧ ∀ (j : Nat) u, news[j]? = some u → w.cell? (a.add j) = some u) (h1 : ∀ u ∈ news, u.oneCell' = true)
    (h63 : n + m ≤ 1099511627776) (hbytes : (n + m) * i.bytes ≤ 1099511627776) :
    ∃ v' w', (Builtin.append_ #[t, t] ty #[v, .slice ad m c]).run P w = .ok v' w' ∧ w'.ownsRow 0 e i.size v' (n + m) (xs ++ news) ∧ v'.oneCell' = true ∧ w.heap.size ≤ w'.heap.size ∧
      (∀ k, k < w.heap.size → v.ownBlock ≠ some k → w'.heap[k]? = w.heap[k]?) ∧ w'.os = w.os ∧ w'.tape = w.tape ∧ w'.output = w.output ∧
      (∀ g, v'.ownBlock = some g → v.ownBlock = some g ∨ w.heap.size ≤ g) := by
  by_cases hm : m = 0
  · subst hm
    have hn : news = [] := List.eq_nil_of_length_eq_zero (by simpa using hl)
    subst hn
    have hsl : ∃ b cap, v = .slice b n cap ∧ n ≤ cap := by
      rcases hown.2 with ⟨rfl, rfl⟩ | ⟨g, cap, cur, rfl, _, _, hnc, _⟩
      · exact ⟨none, 0, rfl, Nat.le_refl _⟩
      · exact ⟨_, cap, rfl, hnc⟩
    obtain ⟨b, cap, rfl, hnc⟩ := hsl
    refine ⟨.slice b n cap, w, ?_, by simpa using hown, rfl, Nat.le_refl _, fun _ _ _ => rfl, rfl, rfl, rfl, fun g hg => .inl hg⟩
    cases ad with
    | none => cases b <;> simp [Builtin.append_, run_underlying ht, Go.sizeOf, typeInfo, hi, Builtin.lenOf, hnc, Builtin.firstCells, storeCells]
    | some a => cases b <;> simp [Builtin.append_, run_underlying ht, Go.sizeOf, typeInfo, hi, Builtin.lenOf, hnc, Builtin.firstCells, storeCells, loadCells, loadCellsFrom]
  · obtain ⟨a, rfl, hnews⟩ := had (by omega)
    have hmax : ∀ old, grownCap w (n + m) old e ≤ maxLen := fun old => grownCap_le_maxLen w (n + m) old e (by unfold maxLen; omega)
    have hlen : (xs ++ news).length = (n + m) * i.size := by rw [List.length_append, hown.1, hl, Nat.add_mul]
    have made : ∀ old, ∀ olds : List Value, olds = xs → (w.drew.alloc (.cells (olds.toArray ++ news.toArray ++ Builtin.zeroCells z.cells (grownCap w (n + m) old e - (n + m))) e)).ownsRow 0 e i.size
        (.slice (some ⟨w.heap.size, 0, none⟩) (n + m) (grownCap w (n + m) old e)) (n + m) (xs ++ news) := by
      rintro old olds rfl
      have hge := grownCap_ge w (n + m) old e
      refine ⟨hlen, .inr ⟨w.heap.size, _, _, rfl, Nat.zero_le _, heap_alloc_new w.drew _, hge, hmax old, ?_, ?_⟩⟩
      · simp only [Array.size_append, List.size_toArray, size_zeroCells, hzs, hown.1, hl, ← Nat.add_mul]
        congr 1
        omega
      · simp only [Array.toList_append, List.append_assoc]
        rw [← List.append_assoc, ← hlen]
        exact List.take_left
    rcases hown.2 with ⟨rfl, rfl⟩ | ⟨g, cap, cur, rfl, _, hg, hnc, hcm, hcs, htake⟩
    · have hx : xs = [] := List.eq_nil_of_length_eq_zero (by simpa using hown.1)
      subst hx
      have hr := run_append_nil (P := P) w t ty e i z ht hi hz a m c news hl hnews (by omega) (by omega) (by rw [Nat.zero_add] at hbytes; omega)
      have hmd := made 0 [] rfl
      simp only [Nat.zero_add, List.nil_append, Array.empty_append] at hmd ⊢
      exact ⟨_, _, hr, hmd, rfl, by simp, fun k hk _ => Below.heap_alloc w.drew _ k hk, rfl, rfl, rfl, fun g hg => .inr (by simp [Value.ownBlock] at hg; omega)⟩
    · by_cases hroom : n + m ≤ cap
      · have hfit : n * i.size + news.length ≤ cur.size := by rw [hl, hcs, ← Nat.add_mul]; exact Nat.mul_le_mul_right _ hroom
        have hr := run_append_room (P := P) w t ty e i ht hi g n cap cur hg a m c news hl hnews h1 hroom hfit
        refine ⟨_, _, hr, ⟨hlen, .inr ⟨g, cap, _, rfl, Nat.zero_le _, setRow_heap w g cur _ e _ hg, hroom, hcm, ?_, ?_⟩⟩, rfl, by simp, fun k _ hk => setRow_other w g k _ (fun e => hk (by simp [Value.ownBlock, e])), rfl, rfl, rfl, fun g' hg' => .inl hg'⟩
        · simp only [List.size_toArray, List.length_append, List.length_take, List.length_drop, Array.length_toList]
          omega
        · rw [htake, ← hlen]
          exact List.take_left
      · have holds : ∀ (j : Nat) u, xs[j]? = some u → w.cell? ((⟨g, 0, none⟩ : Addr).add j) = some u := hown.cells (g := g) rfl
        have hr := run_append_grow (P := P) w t ty e i z ht hi hz ⟨g, 0, none⟩ n cap xs hown.1 holds a m c news hl hnews (by omega) (by omega) (growslice_fits (by omega) (by omega))
        have hmd := made cap xs rfl
        exact ⟨_, _, hr, hmd, rfl, by simp, fun k hk _ => Below.heap_alloc w.drew _ k hk, rfl, rfl, rfl, fun g hg => .inr (by simp [Value.ownBlock] at hg; omega)⟩

theorem startK_ok (P : Program) (e : TypeId) (ρ : Env) : (startK P e).len = 0 ∧ (startK P e).Is ρ (fun i => ([] : List Value)[i]?) ∧ (startK P e).ids = [] := by
  unfold startK
  split
  · exact ⟨rfl, fun i hi => by simp at hi, rfl⟩
  · exact ⟨rfl, fun i hi => by simp at hi, rfl⟩
  · split
    · exact ⟨rfl, fun i hi => by simp at hi, rfl⟩
    · exact ⟨rfl, fun i c hc => by simp at hc, rfl⟩
  · exact ⟨rfl, fun i c hc => by simp at hc, rfl⟩

theorem zok_ok {P : Program} {e : TypeId} (h : zok P e = true) : ∃ i z, P.info? e = some i ∧ i.zero = some z ∧ z.cells.size = i.size := by
  unfold zok zeroOf at h
  cases hi : P.info? e with
  | none => simp [hi] at h
  | some i =>
    simp only [hi] at h
    cases hz : i.zero with
    | none => simp [hz] at h
    | some z =>
      simp only [hz] at h
      refine ⟨i, z, rfl, hz, ?_⟩
      have : z.cells.toList.length = P.cellsOf e := by simpa using h
      simpa [Program.cellsOf, hi] using this

theorem appendEv_ok {P : Program} {M M0 : Mem} {T T' ty : TypeId} {s x : W} {out : Out} {ρ : Env} {w : World} {base : Nat} {y z : Value} (h : appendEv P M0 base T T' s x = some out) (ho : ∀ b ∈ out.obs, b = true)
    (hMs : ∀ id b, M0 id = some b → M id = some b) (hM : MemOk P ρ M w) (hF : Fresh M base) (hs : RW ρ s y) (hx : RW ρ x z) :
    ∃ r w' ρ', (Builtin.append_ #[T, T'] ty #[y, z]).run P w = .ok r w' ∧ Good P ρ ρ' M base out w w' r := by
  unfold appendEv at h
  split at h
  · rename_i s x e he
    split at h
    · rename_i oid n k id' off' m hto hsl
      split at h
      · rename_i blk' hblk'
        split at h
        · rename_i k' o hdr
          split at h
          · rename_i k'' hcat
            cases hb : (Nat.beq T T' && Nat.blt 0 (P.cellsOf e) && zok P e && k'.ones) with
            | false => simp [hb] at h
            | true =>
              simp only [hb, cond_true, Option.some.injEq] at h
              subst h
              simp only [Bool.and_eq_true, Nat.blt_eq] at hb
              obtain ⟨⟨⟨hT, hpos⟩, hzk⟩, hones⟩ := hb
              have hT : T = T' := by simpa using hT
              subst hT
              obtain ⟨i, zv, hi, hz, hzs⟩ := zok_ok hzk
              have hcell : P.cellsOf e = i.size := by simp [Program.cellsOf, hi]
              have hby : P.bytesOf e = i.bytes := by simp [Program.bytesOf, hi]
              have o1 : (n + m) * i.bytes ≤ 1099511627776 := by have := ho _ (List.mem_cons_self ..); rw [hby] at this; simpa using this
              have o2 : n + m ≤ 1099511627776 := by have := ho _ (List.mem_cons_of_mem _ (List.mem_cons_self ..)); simpa using this
              have o3 : ∀ b ∈ o, b = true := fun b hb => ho b (List.mem_cons_of_mem _ (List.mem_cons_of_mem _ hb))
              obtain ⟨ad, cap, rfl, hnc, had⟩ := C.slice_ok hsl hMs hM hx
              have hrel' := hM.rel id' blk' (hMs _ _ hblk')
              obtain ⟨hk'len, hk'is, hk'ids⟩ := K.drops_ok hrel'.cells hdr o3
              obtain ⟨news, hnl, hnr, hnis⟩ := hk'is.list
              have honews := K.ones_ok hnis hnl hones
              -- the old slice
              have hold : ∃ xs, w.ownsRow 0 e i.size y n xs ∧ xs.length = k.len ∧ k.Is ρ (fun i => xs[i]?) ∧ (∀ id, oid = some id → M id = some ⟨e, .own n, k⟩ ∧ y = ρ.val id) ∧ (oid = none → y = .slice none 0 0 ∧ k.ids = []) := by
                unfold appTo at hto
                split at hto
                · rename_i id
                  split at hto
                  · rename_i e' n' k0 hid
                    cases hee : Nat.beq e e' with
                    | false => simp [hee] at hto
                    | true =>
                      simp only [hee, cond_true, Option.some.injEq, Prod.mk.injEq] at hto
                      obtain ⟨rfl, rfl, rfl⟩ := hto
                      have hee : e = e' := by simpa using hee
                      subst hee
                      have hr := hM.rel id _ (hMs _ _ hid)
                      simp only [BlkRel] at hr
                      obtain ⟨_, _, xs, hxs, hxl, hxi⟩ := hr
                      have hyv : y = ρ.val id := hs.1
                      refine ⟨xs, by rw [hyv, ← hcell]; exact hxs, hxl, hxi, ?_, by simp⟩
                      rintro _ ⟨⟩
                      exact ⟨hMs _ _ hid, hyv⟩
                  · cases hto
                · simp only [Option.some.injEq, Prod.mk.injEq] at hto
                  obtain ⟨rfl, rfl, rfl⟩ := hto
                  simp only [RW, RC] at hs
                  subst hs
                  obtain ⟨h1, h2, h3⟩ := startK_ok P e ρ
                  exact ⟨[], World.ownsRow_nil w 0 e i.size, h1.symm, h2, by simp, fun _ => ⟨rfl, h3⟩⟩
                · cases hto
              obtain ⟨xs, hown, hxl, hxi, hoidM, hnone⟩ := hold
              obtain ⟨v', w', hrun, hown', hone, hsz, hkeep, hos, htp, hout, hg⟩ := run_append (ty := ty) (c := cap) (ad := ad) (m := m) (elemOfSlice_ok he) hi hz hzs (by omega) hown
                (news := news) (by rw [hnl, hk'len, hcell]) (fun hm => by
                  refine ⟨_, had hm, fun j u hju => ?_⟩
                  have := hnr j u hju
                  rw [add_at, Nat.add_assoc]
                  exact this) honews o2 o1
              obtain ⟨hcis, hclen, hcids⟩ := K.cat_ok hcat hxi hnis hxl hnl
              have hbR : inR base base := ⟨Nat.le_refl _, by omega⟩
              refine ⟨v', w', ρ.set base ((v'.ownBlock).getD 0) v', hrun, Good.own (n := n + m) hM hF rfl ?_ hsz ?_ hos htp hout hone ?_ ?_⟩
              · intro id hid
                exact ⟨_, (hoidM id hid).1, n, rfl⟩
              · intro k0 hk0 hno
                refine hkeep k0 hk0 ?_
                cases oid with
                | none => rw [(hnone rfl).1]; simp [Value.ownBlock]
                | some id => rw [(hoidM id rfl).2]; exact hno id rfl
              · unfold BlkRel
                simp only
                refine ⟨by simp [Env.set], fun g hg' => by simp [Env.set] at hg' ⊢; rw [hg']; rfl, xs ++ news, by simp [Env.set, hcell]; exact hown', by simp; omega, hcis.env fun id hid => ?_⟩
                refine Env.set_same fun e' => ?_
                subst e'
                rcases hcids id hid with h' | h'
                · cases oid with
                  | none => rw [(hnone rfl).2] at h'; cases h'
                  | some j => exact hF.ids j _ (hoidM j rfl).1 id h' hbR
                · exact hF.ids id' blk' (hMs _ _ hblk') id (hk'ids id h') hbR
              · intro hne
                cases hob : v'.ownBlock with
                | none => exact absurd hob hne
                | some g =>
                  simp only [Option.getD_some]
                  rcases hg g hob with h' | h'
                  · cases oid with
                    | none => rw [(hnone rfl).1] at h'; simp [Value.ownBlock] at h'
                    | some id => exact .inr ⟨id, rfl, by rw [← (hoidM id rfl).2]; exact h'⟩
                  · exact .inl h'
          · cases h
        · cases h
      · cases h
    · cases h
  · cases h

end Sx
