/- A symbolic executor, checked once, and what it shows of the functions: part 7. -/
import Derived.Test.YtmjejlbmcefaoaaPkF
import Derived.OpenShut
import Derived.ProofKit
import Derived.Test.YtmjejlbmcefaoaaRows
import Derived.WalkKit
namespace Go.Proofs.Ytmjejlbmcefaoaa
open Go

def headOk (L : List Char) : Bool :=
  match behindMainWord (wordsSigns L) with
  | c :: r => !(c == "gc".toList) && (!(c == "spec".toList) && (!(c == "carried".toList) && ((c == "cut".toList) && (((stripLifts liftWords (c :: r)).2.head? == some "cut".toList) && (stripLifts liftWords (c :: r)).1.isEmpty))))
  | [] => false

set_option maxRecDepth 100000 in
theorem head_ex : ∃ L, Try.prog.initOrder = String.ofList L ∧ headOk L = true := ⟨_, rfl, by kernel_rfl⟩

theorem head_of {L : List Char} (h : headOk L = true) : ∃ c r, behindMainWord (wordsSigns L) = c :: r ∧ (c == "gc".toList) = false ∧ (c == "spec".toList) = false ∧ (c == "carried".toList) = false ∧ (c == "cut".toList) = true ∧ ((stripLifts liftWords (c :: r)).2.head? == some "cut".toList) = true ∧ (stripLifts liftWords (c :: r)).1 = [] := by
  unfold headOk at h
  split at h
  · rename_i c r e
    simp only [Bool.and_eq_true, Bool.not_eq_true', List.isEmpty_iff] at h
    exact ⟨c, r, e, h.1, h.2.1, h.2.2.1, h.2.2.2.1, h.2.2.2.2.1, h.2.2.2.2.2⟩
  · cases h

theorem make_of (P : Program) {L : List Char} (h : P.initOrder.toList = L) (hL : headOk L = true) : P.make = some Make.cut := by
  obtain ⟨c, r, e1, e2, e3, e4, e5, e6, e7⟩ := head_of hL
  unfold Program.make
  rw [h, e1]
  simp only [e2, e3, e5, Bool.or_false, Bool.true_or, Bool.false_eq_true, if_false, if_true]
theorem lifts_of (P : Program) {L : List Char} (h : P.initOrder.toList = L) (hL : headOk L = true) : P.liftsFinal = false := by
  obtain ⟨c, r, e1, e2, e3, e4, e5, e6, e7⟩ := head_of hL
  unfold Program.liftsFinal Program.headLifts
  rw [h, e1]
  have e4' : (some c == some "carried".toList) = false := e4
  simp only [List.head?_cons, e4', e6, e7, Bool.false_and, if_true]
  rfl
theorem enter_of (P : Program) {L : List Char} (h : P.initOrder.toList = L) (hL : headOk L = true) (h1 : P.laysLater = false) (h2 : P.bearsReflect = false) (h3 : P.doorFits [] = true) : P.mayEnter = true := by
  obtain ⟨c, r, e1, e2, e3, e4, e5, e6, e7⟩ := head_of hL
  unfold Program.mayEnter
  rw [h, h1, h2, e1]
  simp only [e2, e3, e4, e6, e7, h3]
  rfl

theorem makeIs : Try.prog.make = some Make.cut := by
  obtain ⟨L, h, ok⟩ := head_ex
  exact make_of _ (by rw [h, String.toList_ofList]) ok
theorem liftsIs : Try.prog.liftsFinal = false := by
  obtain ⟨L, h, ok⟩ := head_ex
  exact lifts_of _ (by rw [h, String.toList_ofList]) ok
theorem enterIs : Try.prog.mayEnter = true := by
  obtain ⟨L, h, ok⟩ := head_ex
  exact enter_of _ (by rw [h, String.toList_ofList]) ok (by kernel_rfl) (by kernel_rfl) (by kernel_rfl)
theorem mapsIs : mapsRowed Try.prog = true := by kernel_rfl
theorem keysIs : Try.prog.plainKeys = true := by kernel_rfl
theorem heardIs : Try.prog.stopsHeard = true := by kernel_rfl

/-- The facts of a law's row: those about the program, those about the law. -/
theorem joined {f : FuncId} {fn : Func} {s : ChangeSpec} {c : OpenClaim} (hl : c.lifted = false) (hm : c.make = Make.cut) (hk : c.plainKeys = true) (hs : c.shortTexts.isNone = true)
    (h1 : c.wf (OpenSpec.ofChange s) = true) (h2 : (fn.params.all fun x => Try.prog.readableRec x) = true) (h3 : namedTie Try.prog c.named s.vars = true) (h4 : ((c.stops == []) && (Try.prog.stops == []) && (c.knobs == []) && (Try.prog.stopKnobs == [])) = true)
    (h5 : ((c.inPlace == Try.prog.inPlace f) && (c.unfollowed == Try.prog.unfollowed f) && (c.recurses == Try.prog.recurses f) && (c.named == Try.prog.varsNamed f)) = true)
    (h6 : ((c.maps == (fn.params.toList ++ s.plain.varTypes Try.prog).any fun x => Try.prog.mapsRec x) && (c.ifaces == (fn.params.toList ++ s.plain.varTypes Try.prog).any fun x => Try.prog.ifacesRec x) && (c.mapsOut == Try.prog.mapsAmong fn.resultTypes.toList)) = true)
    (h7 : ((c.loops == (fn.params.toList ++ s.plain.varTypes Try.prog).any fun x => Try.prog.loopsFrom x) && (c.wideKeys == (fn.params.toList ++ s.plain.varTypes Try.prog ++ fn.resultTypes.toList).any fun x => Try.prog.wideKeysFrom x)) = true)
    (h8 : ((s.vars.all fun x => Try.prog.varReadable x) && (fn.resultTypes.all fun t => Try.prog.readableRec t && decide (t < Try.prog.types.size)) && (c.ifacesOut == fn.resultTypes.toList.any fun x => Try.prog.ifacesRec x) && (c.loopsOut == fn.resultTypes.toList.any fun x => Try.prog.loopsFrom x)) = true)
    (h9 : (c.pinned == c.pinnedBy) = true) (h10 : c.domain.isEmpty = true) (h11 : c.kinds = [])
    (h12 : (c.veiled == (fn.params.toList ++ s.plain.varTypes Try.prog ++ fn.resultTypes.toList).any fun x => Try.prog.veiledRec x) = true) (h13 : c.veiledFits Try.prog fn.params.toList (fn.params.toList ++ s.plain.varTypes Try.prog ++ fn.resultTypes.toList) = true) :
    joinedFacts Try.prog f fn s c = true := by
  simp only [Bool.and_eq_true] at h4 h5 h6 h7 h8
  unfold joinedFacts
  simp only [Bool.and_eq_true]
  simp only [h1, h2, h3, h4, h5, h6, h7, h8, h9, h12, h13, laid, mapsIs, makeIs, liftsIs, enterIs, keysIs, heardIs, hl, hm, hk, hs, h10, h11, if_true]
  simp
end Go.Proofs.Ytmjejlbmcefaoaa
namespace Go.Proofs.Ytmjejlbmcefaoaa
open Go Sx Go.ChangeShapes Go.WideShapes Go.ChangeAt Go.RowKit

/-- the lowest bytes of a number, the highest one first. -/
def beL : Nat → Int → List Int
  | 0, _ => []
  | f + 1, x => beL f (x / 256) ++ [x % 256]
theorem beL_zero : ∀ f, beL f 0 = List.replicate f 0
  | 0 => rfl
  | f + 1 => by simp only [beL]; rw [Int.zero_ediv, beL_zero f, List.replicate_succ']; rfl

theorem pX_succ {x : Int} (h0 : 0 ≤ x) (h1 : x < 18446744073709551616) : ∀ j, 0 ≤ pX x j ∧ pX x j < 18446744073709551616 ∧ pX x (j + 1) = pX x j / 256
  | 0 => ⟨h0, h1, by simp only [pX]; rw [Int.tdiv_eq_ediv_of_nonneg h0, wrap_u64]; omega⟩
  | j + 1 => by
    obtain ⟨a, b, c⟩ := pX_succ h0 h1 j
    have a' : 0 ≤ pX x (j + 1) := by rw [c]; omega
    have b' : pX x (j + 1) < 18446744073709551616 := by rw [c]; omega
    refine ⟨a', b', ?_⟩
    simp only [pX] at a' b' ⊢
    rw [Int.tdiv_eq_ediv_of_nonneg a', wrap_u64, wrap_u64]
    rw [wrap_u64] at a' b'
    omega
theorem pB_eq {x : Int} (h0 : 0 ≤ x) (h1 : x < 18446744073709551616) (j : Nat) : pB x j = pX x j % 256 := by
  obtain ⟨a, b, _⟩ := pX_succ h0 h1 j
  unfold pB
  rw [wrap_u8, Int.tmod_eq_emod_of_nonneg a]
  omega
theorem put8_eq {x : Int} (h0 : 0 ≤ x) (h1 : x < 18446744073709551616) : put8 x = beL 8 x := by
  have hs := fun j => (pX_succ h0 h1 j).2.2
  simp only [put8, pB_eq h0 h1, beL, hs]
  simp [pX]
end Go.Proofs.Ytmjejlbmcefaoaa
