/- The law BlockWrites: for any size and any texts the law answers true. -/
import Derived.Test.YtmjejlbmcefaoaaBlkF
import Derived.Test.YtmjejlbmcefaoaaHead
namespace Go.Proofs.Ytmjejlbmcefaoaa
open Go Sx Go.ChangeShapes Go.WideShapes Go.ChangeAt Go.RowKit

theorem s6 (s : Int) (l : List ByteArray) : Sx.Spec Try.prog 6 [W.int .i64 s, .c (.sl 0 0 l.length)] [⟨0, .ro, .strs l⟩] ⟨V.bool true, [], []⟩ := by
  by_cases c1 : (l.length : Int) > 20
  · exact spec_of_whole (tab_ok libw_ok) mixed Try.func6 [(42, true), (46, true)] 1000000 [(0, none)] (o := [decide ((↑(List.length l) : Int) > 20), decide ((↑(List.length l) : Int) > 20)]) (by kernel_rfl) (by kernel_rfl) (by kernel_rfl) (by kernel_rfl) (by kernel_rfl) (by kernel_rfl) (ocons (by simpa using c1) (ocons (by simpa using c1) onil))
  by_cases c2 : s < 1
  · exact spec_of_whole (tab_ok libx_ok) mixed Try.func6 [(42, false), (53, true)] 1000000 [(0, none)] (o := [!decide ((↑(List.length l) : Int) > 20), decide (s < 1 ∨ s > 256), decide (s < 1)]) (by kernel_rfl) (by kernel_rfl) (by kernel_rfl) (by kernel_rfl) (by kernel_rfl) (by kernel_rfl) (ocons (by simpa using c1) (ocons (by simp; omega) (ocons (by simpa using c2) onil)))
  by_cases c3 : s > 256
  · exact spec_of_whole (tab_ok libx_ok) mixed Try.func6 [(42, false), (53, false), (56, true)] 1000000 [(0, none)] (o := [!decide ((↑(List.length l) : Int) > 20), decide (s < 1 ∨ s > 256), !decide (s < 1), decide (s > 256)]) (by kernel_rfl) (by kernel_rfl) (by kernel_rfl) (by kernel_rfl) (by kernel_rfl) (by kernel_rfl) (ocons (by simpa using c1) (ocons (by simp; omega) (ocons (by simpa using c2) (ocons (by simpa using c3) onil))))
  obtain ⟨n, rfl⟩ := Int.eq_ofNat_of_zero_le (show 0 ≤ s by omega)
  refine spec_body (tab := tab libw) Try.func6 (by kernel_rfl) (by kernel_rfl) (by kernel_rfl) fun ρ w => ?_
  refine G.seg ⟨tab_ok libw_ok, mixed⟩ [(42, false), (53, false), (56, false)] 1000000 0 [0, 6, 7, 8, 62, 63, 64] [(0, none), (113, none), (114, none)] (k := k6a)
    (vs := [V.int IntKind.i64 n, V.w (W.c (C.ptr 1 0)), V.str (ByteArray.mk (Array.mk [])), V.int IntKind.i64 0, V.w (W.c (C.sl 0 0 (List.length l))), V.int IntKind.i64 (↑(List.length l) : Int), V.int IntKind.i64 0])
    (bs := [Blk.mk 0 Mode.ro (K.strs l), Blk.mk 183 Mode.rw (K.cs [C.own 2, C.v (Value.int IntKind.i64 0), C.v (Value.int IntKind.i64 0)]), Blk.mk 5 (Mode.own n) (K.ints IntKind.u8 (List.replicate n 0))])
    (o := [!decide ((↑(List.length l) : Int) > 20), decide (1 ≤ (n : Int)), decide ((n : Int) ≤ 256), !decide ((n : Int) < 1), !decide ((n : Int) > 256)])
    (by kernel_rfl) (by kernel_rfl) (ocons (by simpa using c1) (ocons (by simp; omega) (ocons (by simp; omega) (ocons (by simp; omega) (ocons (by simp; omega) onil))))) ?_
  refine G.loop (fun j => st6a (row6 n l j).2 (len6 l j) (len6 l j) (strOf ((row6 n l j).1.take (row6 n l j).2)) 0 l n (row6 n l j).1 (j : Int)) l.length (fun j hj hgo => ?_) ?_
  · by_cases hb : (l.getD j .empty).size ≤ 600
    · exact step6 0 l n (by omega) (by omega) (by omega) j hj hb hgo
    · exact G.ends (tab_ok libw_ok) mixed [(65, true), (70, true)] 1000000 [(0, none)] (o := [decide ((j : Int) < (↑(List.length l) : Int)), decide (0 ≤ (j : Int)), decide ((j : Int) < (↑(List.length l) : Int)), Nat.blt j (List.length l), decide ((↑(ByteArray.size (List.getD l j ByteArray.empty)) : Int) > 600)])
        (by kernel_rfl) (by kernel_rfl) (by kernel_rfl) (by kernel_rfl) (ocons (by simpa using hj) (ocons (by simp) (ocons (by simpa using hj) (ocons (by simpa using hj) (ocons (by rw [decide_eq_true_eq]; omega) onil)))))
  · exact G.ends (tab_ok libw_ok) mixed [(65, false)] 1000000 [(0, none)] (o := [!decide ((l.length : Int) < (↑(List.length l) : Int))])
      (by kernel_rfl) (by kernel_rfl) (by kernel_rfl) (by kernel_rfl) (ocons (by simp) onil)

def ks6 : List Kind := [.int .i64, .strs]
theorem open6 : ∀ l, AllIs ks6 l → Sx.Spec Try.prog 6 (allW l 0) (allB l) ⟨V.bool true, [], []⟩ := by
  intro l h
  match l, h with
  | [.int .i64 s, .strs l], _ => exact s6 s l

set_option maxRecDepth 100000 in
theorem lifted6 (os : Os) (started : os.Started) (H : Type) (enc : TypeId × Value → H) :
    ReturnsInHanded {} Try.checked os 6 .any (Rows.blockWritesSpec.pre6 enc Try.prog Try.f6 Rows.blockWritesRow.domain false) (Rows.blockWritesSpec.post enc Try.prog Try.f6 false true false false) := by
  refine returnsInHanded_of_change (C := Try.checked) (by kernel_rfl) started (by kernel_rfl) Try.func6
    (ChangeSpec.witness6 (enc := enc) (C := Try.checked) false ⟨#[], #[.int .i64 0, .slice none 0 0], []⟩ 8 (by kernel_rfl) (by kernel_rfl) (by kernel_rfl) (by kernel_rfl)) ?_
  intro W base args ds gs before hval0 hW hcnd _
  exact law_step (ks := ks6) (tb := 4) laid (by kernel_rfl) (by kernel_rfl) rfl (by kernel_rfl) Try.underlying4 (fun ds hds => by
    match ds, hds with
    | [_, _], _ => rfl) open6 hval0 hW
theorem closed6 : joinedFacts Try.prog 6 Try.f6 Rows.blockWritesSpec Rows.blockWritesRow = true :=
  joined rfl rfl rfl rfl (by kernel_rfl) (by kernel_rfl) (by kernel_rfl) (by kernel_rfl) (by kernel_rfl) (by kernel_rfl) (by kernel_rfl) (by kernel_rfl) (by kernel_rfl) (by kernel_rfl) rfl (by kernel_rfl) (by kernel_rfl)
theorem named6 : Try.prog.funcNamed Rows.blockWritesRow.func = some 6 := by kernel_rfl
theorem over6 : Rows.blockWritesRow.holds Try.pinned (OpenSpec.ofChange Rows.blockWritesSpec) :=
  OpenClaim.holds_of_wide 6 Try.f6 rfl rfl rfl rfl rfl rfl rfl ⟨rfl, rfl, rfl, rfl, rfl⟩ rfl rfl rfl rfl rfl named6 Try.func6 closed6
    (of_decide_eq_true (by kernel_rfl)) (by unfold Func.isWrapper; first | (rw [if_pos (by decide +kernel)]; kernel_rfl) | (rw [if_neg (by decide +kernel)]; exact ⟨rfl, rfl⟩))
    (fun os started H enc _ => lifted6 os started H enc)
theorem blockWrites_proved : Rows.BlockWritesSaid :=
  over6
#print axioms blockWrites_proved
end Go.Proofs.Ytmjejlbmcefaoaa
