/-
  No cell of these rows narrows 'for every input' (looked for: loops, veiled, ifaces, maps, wideKeys, modest, calm, conditions, laid).
  DERIVED. THE GIVEN ROWS OF THIS SEAT. 32 by the template 'for every input the law returns true; each argument reads behind the call as it read before'; 0 by the template 'total and deterministic' (their statements: YtmjejlbmcefaoaaTotals.lean).
  GIVEN WITH THE SEED: the statements are not yours to turn. If you find one false, say at which input.
  Laid BY PROGRAM, IN A SANDBOX (cutbox-rows.mjs): the forced cells as the released guide's own fill.sh prints them over the translation 41fed48430b9780e… (all of the seat's roots in one cut). By AI agents, Wed Nov 11 2026. No macro, syntax, notation, axiom, sorry.
-/
import Derived.Test.YtmjejlbmcefaoaaChecked
import GoSem.Claim
import GoSem.ClaimJoined
import GoSem.ClaimMapViews
import Derived.JoinedTies
import Derived.KernelRfl
namespace Go.Proofs.Ytmjejlbmcefaoaa
/- THE CELL 'sum', in the pinned program and in every row, IS THE sha256 OF THE DUMP (.gsa) THAT YtmjejlbmcefaoaaProg.lean LOADS. Nothing in Lean hashes anything: it is a label: what it is worth is what the hold of that sum in a sandbox is worth. -/
noncomputable def Try.pinned : Pinned := { name := "ytmjejlbmcefaoaa", sum := "41fed48430b9780e68ad4e16eab9a09b7171f3c82c3c8b72b5fb493945b2a357", checked := Try.checked }
namespace Rows
def none {H : Type} : Left H := { results := [], args := [] }

/-- 'sealringlaw15.MixTurns': WHATEVER THE INPUT: true; the input reads as it did. -/
def mixTurnsSpec : ChangeSpec := { name := "mixTurns", fn := fun _ => fun
  | [d1, d2] => { results := [.lit (.bool true)], args := [d1, d2] }
  | _ => none }
def mixTurnsRow : OpenClaim := { program := "ytmjejlbmcefaoaa", sum := "41fed48430b9780e68ad4e16eab9a09b7171f3c82c3c8b72b5fb493945b2a357", func := "sealring/sealringlaw15.MixTurns", spec := "mixTurns", apart := false }
def MixTurnsSaid : Prop := mixTurnsRow.holds Try.pinned (OpenSpec.ofChange mixTurnsSpec)

/-- ITS FALSE NEIGHBOUR: 'it returns false'. Refute it at one input. -/
def mixTurnsWrong : ChangeSpec := { name := "mixTurns", fn := fun _ => fun
  | [d1, d2] => { results := [.lit (.bool false)], args := [d1, d2] }
  | _ => none }
def MixTurnsWrongFalsely : Prop := mixTurnsRow.holds Try.pinned (OpenSpec.ofChange mixTurnsWrong)

/-- 'sealringlaw15.MixJoins': WHATEVER THE INPUT: true; the input reads as it did. -/
def mixJoinsSpec : ChangeSpec := { name := "mixJoins", fn := fun _ => fun
  | [d1, d2, d3] => { results := [.lit (.bool true)], args := [d1, d2, d3] }
  | _ => none }
def mixJoinsRow : OpenClaim := { program := "ytmjejlbmcefaoaa", sum := "41fed48430b9780e68ad4e16eab9a09b7171f3c82c3c8b72b5fb493945b2a357", func := "sealring/sealringlaw15.MixJoins", spec := "mixJoins", apart := false }
def MixJoinsSaid : Prop := mixJoinsRow.holds Try.pinned (OpenSpec.ofChange mixJoinsSpec)

/-- ITS FALSE NEIGHBOUR: 'it returns false'. Refute it at one input. -/
def mixJoinsWrong : ChangeSpec := { name := "mixJoins", fn := fun _ => fun
  | [d1, d2, d3] => { results := [.lit (.bool false)], args := [d1, d2, d3] }
  | _ => none }
def MixJoinsWrongFalsely : Prop := mixJoinsRow.holds Try.pinned (OpenSpec.ofChange mixJoinsWrong)

/-- 'sealringlaw16.BlockPads': WHATEVER THE INPUT: true; the input reads as it did. -/
def blockPadsSpec : ChangeSpec := { name := "blockPads", fn := fun _ => fun
  | [d1, d2, d3] => { results := [.lit (.bool true)], args := [d1, d2, d3] }
  | _ => none }
def blockPadsRow : OpenClaim := { program := "ytmjejlbmcefaoaa", sum := "41fed48430b9780e68ad4e16eab9a09b7171f3c82c3c8b72b5fb493945b2a357", func := "sealring/sealringlaw16.BlockPads", spec := "blockPads", apart := false }
def BlockPadsSaid : Prop := blockPadsRow.holds Try.pinned (OpenSpec.ofChange blockPadsSpec)

/-- ITS FALSE NEIGHBOUR: 'it returns false'. Refute it at one input. -/
def blockPadsWrong : ChangeSpec := { name := "blockPads", fn := fun _ => fun
  | [d1, d2, d3] => { results := [.lit (.bool false)], args := [d1, d2, d3] }
  | _ => none }
def BlockPadsWrongFalsely : Prop := blockPadsRow.holds Try.pinned (OpenSpec.ofChange blockPadsWrong)

/-- 'sealringlaw16.BlockWrites': WHATEVER THE INPUT: true; the input reads as it did. -/
def blockWritesSpec : ChangeSpec := { name := "blockWrites", fn := fun _ => fun
  | [d1, d2] => { results := [.lit (.bool true)], args := [d1, d2] }
  | _ => none }
def blockWritesRow : OpenClaim := { program := "ytmjejlbmcefaoaa", sum := "41fed48430b9780e68ad4e16eab9a09b7171f3c82c3c8b72b5fb493945b2a357", func := "sealring/sealringlaw16.BlockWrites", spec := "blockWrites", apart := false }
def BlockWritesSaid : Prop := blockWritesRow.holds Try.pinned (OpenSpec.ofChange blockWritesSpec)

/-- ITS FALSE NEIGHBOUR: 'it returns false'. Refute it at one input. -/
def blockWritesWrong : ChangeSpec := { name := "blockWrites", fn := fun _ => fun
  | [d1, d2] => { results := [.lit (.bool false)], args := [d1, d2] }
  | _ => none }
def BlockWritesWrongFalsely : Prop := blockWritesRow.holds Try.pinned (OpenSpec.ofChange blockWritesWrong)

/-- 'sealringlaw01.OctetHex': WHATEVER THE INPUT: true; the input reads as it did. -/
def octetHexSpec : ChangeSpec := { name := "octetHex", fn := fun _ => fun
  | [d1, d2] => { results := [.lit (.bool true)], args := [d1, d2] }
  | _ => none }
def octetHexRow : OpenClaim := { program := "ytmjejlbmcefaoaa", sum := "41fed48430b9780e68ad4e16eab9a09b7171f3c82c3c8b72b5fb493945b2a357", func := "sealring/sealringlaw01.OctetHex", spec := "octetHex", inPlace := ["internal/abi.NoEscape"], unfollowed := true, recurses := true, apart := false }
def OctetHexSaid : Prop := octetHexRow.holds Try.pinned (OpenSpec.ofChange octetHexSpec)

/-- ITS FALSE NEIGHBOUR: 'it returns false'. Refute it at one input. -/
def octetHexWrong : ChangeSpec := { name := "octetHex", fn := fun _ => fun
  | [d1, d2] => { results := [.lit (.bool false)], args := [d1, d2] }
  | _ => none }
def OctetHexWrongFalsely : Prop := octetHexRow.holds Try.pinned (OpenSpec.ofChange octetHexWrong)

/-- 'sealringlaw01.OctetPuts': WHATEVER THE INPUT: true; the input reads as it did. -/
def octetPutsSpec : ChangeSpec := { name := "octetPuts", fn := fun _ => fun
  | [d] => { results := [.lit (.bool true)], args := [d] }
  | _ => none }
def octetPutsRow : OpenClaim := { program := "ytmjejlbmcefaoaa", sum := "41fed48430b9780e68ad4e16eab9a09b7171f3c82c3c8b72b5fb493945b2a357", func := "sealring/sealringlaw01.OctetPuts", spec := "octetPuts", inPlace := ["internal/abi.NoEscape"], unfollowed := true, recurses := true, apart := false }
def OctetPutsSaid : Prop := octetPutsRow.holds Try.pinned (OpenSpec.ofChange octetPutsSpec)

/-- ITS FALSE NEIGHBOUR: 'it returns false'. Refute it at one input. -/
def octetPutsWrong : ChangeSpec := { name := "octetPuts", fn := fun _ => fun
  | [d] => { results := [.lit (.bool false)], args := [d] }
  | _ => none }
def OctetPutsWrongFalsely : Prop := octetPutsRow.holds Try.pinned (OpenSpec.ofChange octetPutsWrong)

/-- 'sealringlaw02.B64Writes': WHATEVER THE INPUT: true; the input reads as it did. -/
def b64WritesSpec : ChangeSpec := { name := "b64Writes", fn := fun _ => fun
  | [d1, d2, d3] => { results := [.lit (.bool true)], args := [d1, d2, d3] }
  | _ => none }
def b64WritesRow : OpenClaim := { program := "ytmjejlbmcefaoaa", sum := "41fed48430b9780e68ad4e16eab9a09b7171f3c82c3c8b72b5fb493945b2a357", func := "sealring/sealringlaw02.B64Writes", spec := "b64Writes", unfollowed := true, recurses := true, apart := false }
def B64WritesSaid : Prop := b64WritesRow.holds Try.pinned (OpenSpec.ofChange b64WritesSpec)

/-- ITS FALSE NEIGHBOUR: 'it returns false'. Refute it at one input. -/
def b64WritesWrong : ChangeSpec := { name := "b64Writes", fn := fun _ => fun
  | [d1, d2, d3] => { results := [.lit (.bool false)], args := [d1, d2, d3] }
  | _ => none }
def B64WritesWrongFalsely : Prop := b64WritesRow.holds Try.pinned (OpenSpec.ofChange b64WritesWrong)

/-- 'sealringlaw02.B64Reads': WHATEVER THE INPUT: true; the input reads as it did. -/
def b64ReadsSpec : ChangeSpec := { name := "b64Reads", fn := fun _ => fun
  | [d1, d2] => { results := [.lit (.bool true)], args := [d1, d2] }
  | _ => none }
def b64ReadsRow : OpenClaim := { program := "ytmjejlbmcefaoaa", sum := "41fed48430b9780e68ad4e16eab9a09b7171f3c82c3c8b72b5fb493945b2a357", func := "sealring/sealringlaw02.B64Reads", spec := "b64Reads", unfollowed := true, recurses := true, apart := false }
def B64ReadsSaid : Prop := b64ReadsRow.holds Try.pinned (OpenSpec.ofChange b64ReadsSpec)

/-- ITS FALSE NEIGHBOUR: 'it returns false'. Refute it at one input. -/
def b64ReadsWrong : ChangeSpec := { name := "b64Reads", fn := fun _ => fun
  | [d1, d2] => { results := [.lit (.bool false)], args := [d1, d2] }
  | _ => none }
def B64ReadsWrongFalsely : Prop := b64ReadsRow.holds Try.pinned (OpenSpec.ofChange b64ReadsWrong)

/-- 'sealringlaw02.B64Back': WHATEVER THE INPUT: true; the input reads as it did. -/
def b64BackSpec : ChangeSpec := { name := "b64Back", fn := fun _ => fun
  | [d1, d2, d3] => { results := [.lit (.bool true)], args := [d1, d2, d3] }
  | _ => none }
def b64BackRow : OpenClaim := { program := "ytmjejlbmcefaoaa", sum := "41fed48430b9780e68ad4e16eab9a09b7171f3c82c3c8b72b5fb493945b2a357", func := "sealring/sealringlaw02.B64Back", spec := "b64Back", unfollowed := true, recurses := true, apart := false }
def B64BackSaid : Prop := b64BackRow.holds Try.pinned (OpenSpec.ofChange b64BackSpec)

/-- ITS FALSE NEIGHBOUR: 'it returns false'. Refute it at one input. -/
def b64BackWrong : ChangeSpec := { name := "b64Back", fn := fun _ => fun
  | [d1, d2, d3] => { results := [.lit (.bool false)], args := [d1, d2, d3] }
  | _ => none }
def B64BackWrongFalsely : Prop := b64BackRow.holds Try.pinned (OpenSpec.ofChange b64BackWrong)

/-- 'sealringlaw01.OctetGets': WHATEVER THE INPUT: true; the input reads as it did. -/
def octetGetsSpec : ChangeSpec := { name := "octetGets", fn := fun _ => fun
  | [d] => { results := [.lit (.bool true)], args := [d] }
  | _ => none }
def octetGetsRow : OpenClaim := { program := "ytmjejlbmcefaoaa", sum := "41fed48430b9780e68ad4e16eab9a09b7171f3c82c3c8b72b5fb493945b2a357", func := "sealring/sealringlaw01.OctetGets", spec := "octetGets", inPlace := ["internal/abi.NoEscape"], unfollowed := true, recurses := true, apart := false }
def OctetGetsSaid : Prop := octetGetsRow.holds Try.pinned (OpenSpec.ofChange octetGetsSpec)

/-- ITS FALSE NEIGHBOUR: 'it returns false'. Refute it at one input. -/
def octetGetsWrong : ChangeSpec := { name := "octetGets", fn := fun _ => fun
  | [d] => { results := [.lit (.bool false)], args := [d] }
  | _ => none }
def OctetGetsWrongFalsely : Prop := octetGetsRow.holds Try.pinned (OpenSpec.ofChange octetGetsWrong)

/-- 'sealringlaw14.RootsPrimes': WHATEVER THE INPUT: true; the input reads as it did. -/
def rootsPrimesSpec : ChangeSpec := { name := "rootsPrimes", fn := fun _ => fun
  | [d] => { results := [.lit (.bool true)], args := [d] }
  | _ => none }
def rootsPrimesRow : OpenClaim := { program := "ytmjejlbmcefaoaa", sum := "41fed48430b9780e68ad4e16eab9a09b7171f3c82c3c8b72b5fb493945b2a357", func := "sealring/sealringlaw14.RootsPrimes", spec := "rootsPrimes", inPlace := ["math/bits.Add64"], unfollowed := true, recurses := true, apart := false }
def RootsPrimesSaid : Prop := rootsPrimesRow.holds Try.pinned (OpenSpec.ofChange rootsPrimesSpec)

/-- ITS FALSE NEIGHBOUR: 'it returns false'. Refute it at one input. -/
def rootsPrimesWrong : ChangeSpec := { name := "rootsPrimes", fn := fun _ => fun
  | [d] => { results := [.lit (.bool false)], args := [d] }
  | _ => none }
def RootsPrimesWrongFalsely : Prop := rootsPrimesRow.holds Try.pinned (OpenSpec.ofChange rootsPrimesWrong)

/-- 'sealringlaw14.RootsTell': WHATEVER THE INPUT: true; the input reads as it did. -/
def rootsTellSpec : ChangeSpec := { name := "rootsTell", fn := fun _ => fun
  | [d] => { results := [.lit (.bool true)], args := [d] }
  | _ => none }
def rootsTellRow : OpenClaim := { program := "ytmjejlbmcefaoaa", sum := "41fed48430b9780e68ad4e16eab9a09b7171f3c82c3c8b72b5fb493945b2a357", func := "sealring/sealringlaw14.RootsTell", spec := "rootsTell", inPlace := ["math/bits.Add64"], unfollowed := true, recurses := true, apart := false }
def RootsTellSaid : Prop := rootsTellRow.holds Try.pinned (OpenSpec.ofChange rootsTellSpec)

/-- ITS FALSE NEIGHBOUR: 'it returns false'. Refute it at one input. -/
def rootsTellWrong : ChangeSpec := { name := "rootsTell", fn := fun _ => fun
  | [d] => { results := [.lit (.bool false)], args := [d] }
  | _ => none }
def RootsTellWrongFalsely : Prop := rootsTellRow.holds Try.pinned (OpenSpec.ofChange rootsTellWrong)

/-- 'sealringlaw14.RootsWhole': WHATEVER THE INPUT: true; the input reads as it did. -/
def rootsWholeSpec : ChangeSpec := { name := "rootsWhole", fn := fun _ => fun
  | [d] => { results := [.lit (.bool true)], args := [d] }
  | _ => none }
def rootsWholeRow : OpenClaim := { program := "ytmjejlbmcefaoaa", sum := "41fed48430b9780e68ad4e16eab9a09b7171f3c82c3c8b72b5fb493945b2a357", func := "sealring/sealringlaw14.RootsWhole", spec := "rootsWhole", inPlace := ["math/bits.Add64"], unfollowed := true, recurses := true, apart := false }
def RootsWholeSaid : Prop := rootsWholeRow.holds Try.pinned (OpenSpec.ofChange rootsWholeSpec)

/-- ITS FALSE NEIGHBOUR: 'it returns false'. Refute it at one input. -/
def rootsWholeWrong : ChangeSpec := { name := "rootsWhole", fn := fun _ => fun
  | [d] => { results := [.lit (.bool false)], args := [d] }
  | _ => none }
def RootsWholeWrongFalsely : Prop := rootsWholeRow.holds Try.pinned (OpenSpec.ofChange rootsWholeWrong)

/-- 'sealringlaw13.WideReckons': WHATEVER THE INPUT: true; the input reads as it did. -/
def wideReckonsSpec : ChangeSpec := { name := "wideReckons", fn := fun _ => fun
  | [d1, d2] => { results := [.lit (.bool true)], args := [d1, d2] }
  | _ => none }
def wideReckonsRow : OpenClaim := { program := "ytmjejlbmcefaoaa", sum := "41fed48430b9780e68ad4e16eab9a09b7171f3c82c3c8b72b5fb493945b2a357", func := "sealring/sealringlaw13.WideReckons", spec := "wideReckons", inPlace := ["math/bits.Add64", "math/bits.Sub64"], unfollowed := true, recurses := true, apart := false }
def WideReckonsSaid : Prop := wideReckonsRow.holds Try.pinned (OpenSpec.ofChange wideReckonsSpec)

/-- ITS FALSE NEIGHBOUR: 'it returns false'. Refute it at one input. -/
def wideReckonsWrong : ChangeSpec := { name := "wideReckons", fn := fun _ => fun
  | [d1, d2] => { results := [.lit (.bool false)], args := [d1, d2] }
  | _ => none }
def WideReckonsWrongFalsely : Prop := wideReckonsRow.holds Try.pinned (OpenSpec.ofChange wideReckonsWrong)

/-- 'sealringlaw13.WideRests': WHATEVER THE INPUT: true; the input reads as it did. -/
def wideRestsSpec : ChangeSpec := { name := "wideRests", fn := fun _ => fun
  | [d1, d2, d3] => { results := [.lit (.bool true)], args := [d1, d2, d3] }
  | _ => none }
def wideRestsRow : OpenClaim := { program := "ytmjejlbmcefaoaa", sum := "41fed48430b9780e68ad4e16eab9a09b7171f3c82c3c8b72b5fb493945b2a357", func := "sealring/sealringlaw13.WideRests", spec := "wideRests", inPlace := ["math/bits.Add64", "math/bits.Sub64"], unfollowed := true, recurses := true, apart := false }
def WideRestsSaid : Prop := wideRestsRow.holds Try.pinned (OpenSpec.ofChange wideRestsSpec)

/-- ITS FALSE NEIGHBOUR: 'it returns false'. Refute it at one input. -/
def wideRestsWrong : ChangeSpec := { name := "wideRests", fn := fun _ => fun
  | [d1, d2, d3] => { results := [.lit (.bool false)], args := [d1, d2, d3] }
  | _ => none }
def WideRestsWrongFalsely : Prop := wideRestsRow.holds Try.pinned (OpenSpec.ofChange wideRestsWrong)

/-- 'sealringlaw13.WideBytes': WHATEVER THE INPUT: true; the input reads as it did. -/
def wideBytesSpec : ChangeSpec := { name := "wideBytes", fn := fun _ => fun
  | [d1, d2, d3] => { results := [.lit (.bool true)], args := [d1, d2, d3] }
  | _ => none }
def wideBytesRow : OpenClaim := { program := "ytmjejlbmcefaoaa", sum := "41fed48430b9780e68ad4e16eab9a09b7171f3c82c3c8b72b5fb493945b2a357", func := "sealring/sealringlaw13.WideBytes", spec := "wideBytes", inPlace := ["math/bits.Add64", "math/bits.Sub64"], unfollowed := true, recurses := true, apart := false }
def WideBytesSaid : Prop := wideBytesRow.holds Try.pinned (OpenSpec.ofChange wideBytesSpec)

/-- ITS FALSE NEIGHBOUR: 'it returns false'. Refute it at one input. -/
def wideBytesWrong : ChangeSpec := { name := "wideBytes", fn := fun _ => fun
  | [d1, d2, d3] => { results := [.lit (.bool false)], args := [d1, d2, d3] }
  | _ => none }
def WideBytesWrongFalsely : Prop := wideBytesRow.holds Try.pinned (OpenSpec.ofChange wideBytesWrong)

/-- 'sealringlaw19.PrimeReckons': WHATEVER THE INPUT: true; the input reads as it did. -/
def primeReckonsSpec : ChangeSpec := { name := "primeReckons", fn := fun _ => fun
  | [d] => { results := [.lit (.bool true)], args := [d] }
  | _ => none }
def primeReckonsRow : OpenClaim := { program := "ytmjejlbmcefaoaa", sum := "41fed48430b9780e68ad4e16eab9a09b7171f3c82c3c8b72b5fb493945b2a357", func := "sealring/sealringlaw19.PrimeReckons", spec := "primeReckons", inPlace := ["math/bits.Add64", "math/bits.Sub64"], unfollowed := true, recurses := true, apart := false }
def PrimeReckonsSaid : Prop := primeReckonsRow.holds Try.pinned (OpenSpec.ofChange primeReckonsSpec)

/-- ITS FALSE NEIGHBOUR: 'it returns false'. Refute it at one input. -/
def primeReckonsWrong : ChangeSpec := { name := "primeReckons", fn := fun _ => fun
  | [d] => { results := [.lit (.bool false)], args := [d] }
  | _ => none }
def PrimeReckonsWrongFalsely : Prop := primeReckonsRow.holds Try.pinned (OpenSpec.ofChange primeReckonsWrong)

/-- 'sealringlaw19.PrimePowers': WHATEVER THE INPUT: true; the input reads as it did. -/
def primePowersSpec : ChangeSpec := { name := "primePowers", fn := fun _ => fun
  | [d1, d2] => { results := [.lit (.bool true)], args := [d1, d2] }
  | _ => none }
def primePowersRow : OpenClaim := { program := "ytmjejlbmcefaoaa", sum := "41fed48430b9780e68ad4e16eab9a09b7171f3c82c3c8b72b5fb493945b2a357", func := "sealring/sealringlaw19.PrimePowers", spec := "primePowers", inPlace := ["math/bits.Sub64", "math/bits.Add64"], unfollowed := true, recurses := true, apart := false }
def PrimePowersSaid : Prop := primePowersRow.holds Try.pinned (OpenSpec.ofChange primePowersSpec)

/-- ITS FALSE NEIGHBOUR: 'it returns false'. Refute it at one input. -/
def primePowersWrong : ChangeSpec := { name := "primePowers", fn := fun _ => fun
  | [d1, d2] => { results := [.lit (.bool false)], args := [d1, d2] }
  | _ => none }
def PrimePowersWrongFalsely : Prop := primePowersRow.holds Try.pinned (OpenSpec.ofChange primePowersWrong)

/-- 'sealringlaw19.PrimeBytes': WHATEVER THE INPUT: true; the input reads as it did. -/
def primeBytesSpec : ChangeSpec := { name := "primeBytes", fn := fun _ => fun
  | [d1, d2] => { results := [.lit (.bool true)], args := [d1, d2] }
  | _ => none }
def primeBytesRow : OpenClaim := { program := "ytmjejlbmcefaoaa", sum := "41fed48430b9780e68ad4e16eab9a09b7171f3c82c3c8b72b5fb493945b2a357", func := "sealring/sealringlaw19.PrimeBytes", spec := "primeBytes", inPlace := ["math/bits.Sub64", "math/bits.Add64"], unfollowed := true, recurses := true, apart := false }
def PrimeBytesSaid : Prop := primeBytesRow.holds Try.pinned (OpenSpec.ofChange primeBytesSpec)

/-- ITS FALSE NEIGHBOUR: 'it returns false'. Refute it at one input. -/
def primeBytesWrong : ChangeSpec := { name := "primeBytes", fn := fun _ => fun
  | [d1, d2] => { results := [.lit (.bool false)], args := [d1, d2] }
  | _ => none }
def PrimeBytesWrongFalsely : Prop := primeBytesRow.holds Try.pinned (OpenSpec.ofChange primeBytesWrong)

/-- 'sealringlaw20.CurveMakes': WHATEVER THE INPUT: true; the input reads as it did. -/
def curveMakesSpec : ChangeSpec := { name := "curveMakes", fn := fun _ => fun
  | [d1, d2, d3] => { results := [.lit (.bool true)], args := [d1, d2, d3] }
  | _ => none }
def curveMakesRow : OpenClaim := { program := "ytmjejlbmcefaoaa", sum := "41fed48430b9780e68ad4e16eab9a09b7171f3c82c3c8b72b5fb493945b2a357", func := "sealring/sealringlaw20.CurveMakes", spec := "curveMakes", inPlace := ["math/bits.Sub64", "math/bits.Add64"], unfollowed := true, recurses := true, apart := false }
def CurveMakesSaid : Prop := curveMakesRow.holds Try.pinned (OpenSpec.ofChange curveMakesSpec)

/-- ITS FALSE NEIGHBOUR: 'it returns false'. Refute it at one input. -/
def curveMakesWrong : ChangeSpec := { name := "curveMakes", fn := fun _ => fun
  | [d1, d2, d3] => { results := [.lit (.bool false)], args := [d1, d2, d3] }
  | _ => none }
def CurveMakesWrongFalsely : Prop := curveMakesRow.holds Try.pinned (OpenSpec.ofChange curveMakesWrong)

/-- 'sealringlaw20.CurveRules': WHATEVER THE INPUT: true; the input reads as it did. -/
def curveRulesSpec : ChangeSpec := { name := "curveRules", fn := fun _ => fun
  | [d1, d2, d3] => { results := [.lit (.bool true)], args := [d1, d2, d3] }
  | _ => none }
def curveRulesRow : OpenClaim := { program := "ytmjejlbmcefaoaa", sum := "41fed48430b9780e68ad4e16eab9a09b7171f3c82c3c8b72b5fb493945b2a357", func := "sealring/sealringlaw20.CurveRules", spec := "curveRules", inPlace := ["math/bits.Sub64", "math/bits.Add64"], unfollowed := true, recurses := true, apart := false }
def CurveRulesSaid : Prop := curveRulesRow.holds Try.pinned (OpenSpec.ofChange curveRulesSpec)

/-- ITS FALSE NEIGHBOUR: 'it returns false'. Refute it at one input. -/
def curveRulesWrong : ChangeSpec := { name := "curveRules", fn := fun _ => fun
  | [d1, d2, d3] => { results := [.lit (.bool false)], args := [d1, d2, d3] }
  | _ => none }
def CurveRulesWrongFalsely : Prop := curveRulesRow.holds Try.pinned (OpenSpec.ofChange curveRulesWrong)

/-- 'sealringlaw20.CurveAdds': WHATEVER THE INPUT: true; the input reads as it did. -/
def curveAddsSpec : ChangeSpec := { name := "curveAdds", fn := fun _ => fun
  | [d1, d2, d3] => { results := [.lit (.bool true)], args := [d1, d2, d3] }
  | _ => none }
def curveAddsRow : OpenClaim := { program := "ytmjejlbmcefaoaa", sum := "41fed48430b9780e68ad4e16eab9a09b7171f3c82c3c8b72b5fb493945b2a357", func := "sealring/sealringlaw20.CurveAdds", spec := "curveAdds", inPlace := ["math/bits.Sub64", "math/bits.Add64"], unfollowed := true, recurses := true, apart := false }
def CurveAddsSaid : Prop := curveAddsRow.holds Try.pinned (OpenSpec.ofChange curveAddsSpec)

/-- ITS FALSE NEIGHBOUR: 'it returns false'. Refute it at one input. -/
def curveAddsWrong : ChangeSpec := { name := "curveAdds", fn := fun _ => fun
  | [d1, d2, d3] => { results := [.lit (.bool false)], args := [d1, d2, d3] }
  | _ => none }
def CurveAddsWrongFalsely : Prop := curveAddsRow.holds Try.pinned (OpenSpec.ofChange curveAddsWrong)

/-- 'sealringlaw22.ScalarReads': WHATEVER THE INPUT: true; the input reads as it did. -/
def scalarReadsSpec : ChangeSpec := { name := "scalarReads", fn := fun _ => fun
  | [d] => { results := [.lit (.bool true)], args := [d] }
  | _ => none }
def scalarReadsRow : OpenClaim := { program := "ytmjejlbmcefaoaa", sum := "41fed48430b9780e68ad4e16eab9a09b7171f3c82c3c8b72b5fb493945b2a357", func := "sealring/sealringlaw22.ScalarReads", spec := "scalarReads", inPlace := ["internal/abi.NoEscape", "internal/bytealg.MakeNoZero", "math/bits.Add64", "math/bits.Sub64"], unfollowed := true, recurses := true, apart := false }
def ScalarReadsSaid : Prop := scalarReadsRow.holds Try.pinned (OpenSpec.ofChange scalarReadsSpec)

/-- ITS FALSE NEIGHBOUR: 'it returns false'. Refute it at one input. -/
def scalarReadsWrong : ChangeSpec := { name := "scalarReads", fn := fun _ => fun
  | [d] => { results := [.lit (.bool false)], args := [d] }
  | _ => none }
def ScalarReadsWrongFalsely : Prop := scalarReadsRow.holds Try.pinned (OpenSpec.ofChange scalarReadsWrong)

/-- 'sealringlaw23.MultTells': WHATEVER THE INPUT: true; the input reads as it did. -/
def multTellsSpec : ChangeSpec := { name := "multTells", fn := fun _ => fun
  | [d1, d2, d3] => { results := [.lit (.bool true)], args := [d1, d2, d3] }
  | _ => none }
def multTellsRow : OpenClaim := { program := "ytmjejlbmcefaoaa", sum := "41fed48430b9780e68ad4e16eab9a09b7171f3c82c3c8b72b5fb493945b2a357", func := "sealring/sealringlaw23.MultTells", spec := "multTells", inPlace := ["math/bits.Sub64", "math/bits.Add64"], unfollowed := true, recurses := true, apart := false }
def MultTellsSaid : Prop := multTellsRow.holds Try.pinned (OpenSpec.ofChange multTellsSpec)

/-- ITS FALSE NEIGHBOUR: 'it returns false'. Refute it at one input. -/
def multTellsWrong : ChangeSpec := { name := "multTells", fn := fun _ => fun
  | [d1, d2, d3] => { results := [.lit (.bool false)], args := [d1, d2, d3] }
  | _ => none }
def MultTellsWrongFalsely : Prop := multTellsRow.holds Try.pinned (OpenSpec.ofChange multTellsWrong)

/-- 'sealringlaw21.PcodeReads': WHATEVER THE INPUT: true; the input reads as it did. -/
def pcodeReadsSpec : ChangeSpec := { name := "pcodeReads", fn := fun _ => fun
  | [d] => { results := [.lit (.bool true)], args := [d] }
  | _ => none }
def pcodeReadsRow : OpenClaim := { program := "ytmjejlbmcefaoaa", sum := "41fed48430b9780e68ad4e16eab9a09b7171f3c82c3c8b72b5fb493945b2a357", func := "sealring/sealringlaw21.PcodeReads", spec := "pcodeReads", inPlace := ["math/bits.Add64", "math/bits.Sub64"], unfollowed := true, recurses := true, apart := false }
def PcodeReadsSaid : Prop := pcodeReadsRow.holds Try.pinned (OpenSpec.ofChange pcodeReadsSpec)

/-- ITS FALSE NEIGHBOUR: 'it returns false'. Refute it at one input. -/
def pcodeReadsWrong : ChangeSpec := { name := "pcodeReads", fn := fun _ => fun
  | [d] => { results := [.lit (.bool false)], args := [d] }
  | _ => none }
def PcodeReadsWrongFalsely : Prop := pcodeReadsRow.holds Try.pinned (OpenSpec.ofChange pcodeReadsWrong)

/-- 'sealringlaw22.ScalarReckons': WHATEVER THE INPUT: true; the input reads as it did. -/
def scalarReckonsSpec : ChangeSpec := { name := "scalarReckons", fn := fun _ => fun
  | [d] => { results := [.lit (.bool true)], args := [d] }
  | _ => none }
def scalarReckonsRow : OpenClaim := { program := "ytmjejlbmcefaoaa", sum := "41fed48430b9780e68ad4e16eab9a09b7171f3c82c3c8b72b5fb493945b2a357", func := "sealring/sealringlaw22.ScalarReckons", spec := "scalarReckons", inPlace := ["internal/abi.NoEscape", "internal/bytealg.MakeNoZero", "math/bits.Add64", "math/bits.Sub64"], unfollowed := true, recurses := true, apart := false }
def ScalarReckonsSaid : Prop := scalarReckonsRow.holds Try.pinned (OpenSpec.ofChange scalarReckonsSpec)

/-- ITS FALSE NEIGHBOUR: 'it returns false'. Refute it at one input. -/
def scalarReckonsWrong : ChangeSpec := { name := "scalarReckons", fn := fun _ => fun
  | [d] => { results := [.lit (.bool false)], args := [d] }
  | _ => none }
def ScalarReckonsWrongFalsely : Prop := scalarReckonsRow.holds Try.pinned (OpenSpec.ofChange scalarReckonsWrong)

/-- 'sealringlaw23.MultRules': WHATEVER THE INPUT: true; the input reads as it did. -/
def multRulesSpec : ChangeSpec := { name := "multRules", fn := fun _ => fun
  | [d1, d2, d3] => { results := [.lit (.bool true)], args := [d1, d2, d3] }
  | _ => none }
def multRulesRow : OpenClaim := { program := "ytmjejlbmcefaoaa", sum := "41fed48430b9780e68ad4e16eab9a09b7171f3c82c3c8b72b5fb493945b2a357", func := "sealring/sealringlaw23.MultRules", spec := "multRules", inPlace := ["math/bits.Add64", "math/bits.Sub64"], unfollowed := true, recurses := true, apart := false }
def MultRulesSaid : Prop := multRulesRow.holds Try.pinned (OpenSpec.ofChange multRulesSpec)

/-- ITS FALSE NEIGHBOUR: 'it returns false'. Refute it at one input. -/
def multRulesWrong : ChangeSpec := { name := "multRules", fn := fun _ => fun
  | [d1, d2, d3] => { results := [.lit (.bool false)], args := [d1, d2, d3] }
  | _ => none }
def MultRulesWrongFalsely : Prop := multRulesRow.holds Try.pinned (OpenSpec.ofChange multRulesWrong)

/-- 'sealringlaw21.PcodeWrites': WHATEVER THE INPUT: true; the input reads as it did. -/
def pcodeWritesSpec : ChangeSpec := { name := "pcodeWrites", fn := fun _ => fun
  | [d1, d2] => { results := [.lit (.bool true)], args := [d1, d2] }
  | _ => none }
def pcodeWritesRow : OpenClaim := { program := "ytmjejlbmcefaoaa", sum := "41fed48430b9780e68ad4e16eab9a09b7171f3c82c3c8b72b5fb493945b2a357", func := "sealring/sealringlaw21.PcodeWrites", spec := "pcodeWrites", inPlace := ["math/bits.Sub64", "math/bits.Add64"], unfollowed := true, recurses := true, apart := false }
def PcodeWritesSaid : Prop := pcodeWritesRow.holds Try.pinned (OpenSpec.ofChange pcodeWritesSpec)

/-- ITS FALSE NEIGHBOUR: 'it returns false'. Refute it at one input. -/
def pcodeWritesWrong : ChangeSpec := { name := "pcodeWrites", fn := fun _ => fun
  | [d1, d2] => { results := [.lit (.bool false)], args := [d1, d2] }
  | _ => none }
def PcodeWritesWrongFalsely : Prop := pcodeWritesRow.holds Try.pinned (OpenSpec.ofChange pcodeWritesWrong)

/-- 'sealringlaw17.Sha2Of': WHATEVER THE INPUT: true; the input reads as it did. -/
def sha2OfSpec : ChangeSpec := { name := "sha2Of", fn := fun _ => fun
  | [d] => { results := [.lit (.bool true)], args := [d] }
  | _ => none }
def sha2OfRow : OpenClaim := { program := "ytmjejlbmcefaoaa", sum := "41fed48430b9780e68ad4e16eab9a09b7171f3c82c3c8b72b5fb493945b2a357", func := "sealring/sealringlaw17.Sha2Of", spec := "sha2Of", inPlace := ["math/bits.Add64", "internal/abi.NoEscape"], unfollowed := true, recurses := true, apart := false }
def Sha2OfSaid : Prop := sha2OfRow.holds Try.pinned (OpenSpec.ofChange sha2OfSpec)

/-- ITS FALSE NEIGHBOUR: 'it returns false'. Refute it at one input. -/
def sha2OfWrong : ChangeSpec := { name := "sha2Of", fn := fun _ => fun
  | [d] => { results := [.lit (.bool false)], args := [d] }
  | _ => none }
def Sha2OfWrongFalsely : Prop := sha2OfRow.holds Try.pinned (OpenSpec.ofChange sha2OfWrong)

/-- 'sealringlaw17.Sha2Goes': WHATEVER THE INPUT: true; the input reads as it did. -/
def sha2GoesSpec : ChangeSpec := { name := "sha2Goes", fn := fun _ => fun
  | [d] => { results := [.lit (.bool true)], args := [d] }
  | _ => none }
def sha2GoesRow : OpenClaim := { program := "ytmjejlbmcefaoaa", sum := "41fed48430b9780e68ad4e16eab9a09b7171f3c82c3c8b72b5fb493945b2a357", func := "sealring/sealringlaw17.Sha2Goes", spec := "sha2Goes", inPlace := ["math/bits.Add64", "internal/abi.NoEscape"], unfollowed := true, recurses := true, apart := false }
def Sha2GoesSaid : Prop := sha2GoesRow.holds Try.pinned (OpenSpec.ofChange sha2GoesSpec)

/-- ITS FALSE NEIGHBOUR: 'it returns false'. Refute it at one input. -/
def sha2GoesWrong : ChangeSpec := { name := "sha2Goes", fn := fun _ => fun
  | [d] => { results := [.lit (.bool false)], args := [d] }
  | _ => none }
def Sha2GoesWrongFalsely : Prop := sha2GoesRow.holds Try.pinned (OpenSpec.ofChange sha2GoesWrong)

/-- 'sealringlaw18.Sha5Of': WHATEVER THE INPUT: true; the input reads as it did. -/
def sha5OfSpec : ChangeSpec := { name := "sha5Of", fn := fun _ => fun
  | [d] => { results := [.lit (.bool true)], args := [d] }
  | _ => none }
def sha5OfRow : OpenClaim := { program := "ytmjejlbmcefaoaa", sum := "41fed48430b9780e68ad4e16eab9a09b7171f3c82c3c8b72b5fb493945b2a357", func := "sealring/sealringlaw18.Sha5Of", spec := "sha5Of", inPlace := ["math/bits.Add64", "internal/abi.NoEscape"], unfollowed := true, recurses := true, apart := false }
def Sha5OfSaid : Prop := sha5OfRow.holds Try.pinned (OpenSpec.ofChange sha5OfSpec)

/-- ITS FALSE NEIGHBOUR: 'it returns false'. Refute it at one input. -/
def sha5OfWrong : ChangeSpec := { name := "sha5Of", fn := fun _ => fun
  | [d] => { results := [.lit (.bool false)], args := [d] }
  | _ => none }
def Sha5OfWrongFalsely : Prop := sha5OfRow.holds Try.pinned (OpenSpec.ofChange sha5OfWrong)

/-- 'sealringlaw18.Sha5Goes': WHATEVER THE INPUT: true; the input reads as it did. -/
def sha5GoesSpec : ChangeSpec := { name := "sha5Goes", fn := fun _ => fun
  | [d] => { results := [.lit (.bool true)], args := [d] }
  | _ => none }
def sha5GoesRow : OpenClaim := { program := "ytmjejlbmcefaoaa", sum := "41fed48430b9780e68ad4e16eab9a09b7171f3c82c3c8b72b5fb493945b2a357", func := "sealring/sealringlaw18.Sha5Goes", spec := "sha5Goes", inPlace := ["math/bits.Add64", "internal/abi.NoEscape"], unfollowed := true, recurses := true, apart := false }
def Sha5GoesSaid : Prop := sha5GoesRow.holds Try.pinned (OpenSpec.ofChange sha5GoesSpec)

/-- ITS FALSE NEIGHBOUR: 'it returns false'. Refute it at one input. -/
def sha5GoesWrong : ChangeSpec := { name := "sha5Goes", fn := fun _ => fun
  | [d] => { results := [.lit (.bool false)], args := [d] }
  | _ => none }
def Sha5GoesWrongFalsely : Prop := sha5GoesRow.holds Try.pinned (OpenSpec.ofChange sha5GoesWrong)

/- THE SECOND FORM. 'bulk': how many values and letters a reading holds, each counted each time it is reached (what is shared counts as often as it is met; a slice's spare places count too). A statement '..UptoSaid' is the law's where the arguments, and the package variables that the reading takes, are together of bulk at most 1048576: NARROWER than '..Said'. Prove '..Said' where nothing that the law and all that it calls make is longer than what came in: it says more and counts as full. Else prove '..UptoSaid'. A law counts once. -/
mutual
def uptoBulk {H : Type} : DataW H → Nat
  | .lit (.string bytes) => bytes.length + 1
  | .lit _ => 1
  | .nil => 1
  | .ptr d => uptoBulk d + 1
  | .slice elems spare => uptoBulkAll elems + uptoBulkAll spare + 1
  | .agg parts => uptoBulkAll parts + 1
  | .iface _ d => uptoBulk d + 1
  | .map entries => uptoBulkEntries entries + 1
  | .held _ => 1
def uptoBulkAll {H : Type} : List (DataW H) → Nat
  | [] => 0
  | d :: r => uptoBulk d + uptoBulkAll r
def uptoBulkEntries {H : Type} : List (Lit × DataW H) → Nat
  | [] => 0
  | x :: r => uptoBulkEntry x + uptoBulkEntries r
def uptoBulkEntry {H : Type} : Lit × DataW H → Nat
  | (.string bytes, d) => bytes.length + uptoBulk d + 1
  | (_, d) => uptoBulk d + 1
 end
def uptoSmall : (H : Type) → List (DataW H) → Bool := fun _ ds => decide (uptoBulkAll ds ≤ 1048576)
def OpenSpec.upto (s : _root_.Go.ChangeSpec) : _root_.Go.OpenSpec := { _root_.Go.OpenSpec.ofChange s with cond := some uptoSmall }

/-- 'sealringlaw15.MixTurns', WHERE WHAT IT READS IS OF BULK AT MOST 1048576: true; the input reads as it did. -/
def mixTurnsUptoRow : OpenClaim := { program := "ytmjejlbmcefaoaa", sum := "41fed48430b9780e68ad4e16eab9a09b7171f3c82c3c8b72b5fb493945b2a357", func := "sealring/sealringlaw15.MixTurns", spec := "mixTurns", apart := false, narrowed := true }
def MixTurnsUptoSaid : Prop := mixTurnsUptoRow.holds Try.pinned (OpenSpec.upto mixTurnsSpec)

/-- 'sealringlaw15.MixJoins', WHERE WHAT IT READS IS OF BULK AT MOST 1048576: true; the input reads as it did. -/
def mixJoinsUptoRow : OpenClaim := { program := "ytmjejlbmcefaoaa", sum := "41fed48430b9780e68ad4e16eab9a09b7171f3c82c3c8b72b5fb493945b2a357", func := "sealring/sealringlaw15.MixJoins", spec := "mixJoins", apart := false, narrowed := true }
def MixJoinsUptoSaid : Prop := mixJoinsUptoRow.holds Try.pinned (OpenSpec.upto mixJoinsSpec)

/-- 'sealringlaw16.BlockPads', WHERE WHAT IT READS IS OF BULK AT MOST 1048576: true; the input reads as it did. -/
def blockPadsUptoRow : OpenClaim := { program := "ytmjejlbmcefaoaa", sum := "41fed48430b9780e68ad4e16eab9a09b7171f3c82c3c8b72b5fb493945b2a357", func := "sealring/sealringlaw16.BlockPads", spec := "blockPads", apart := false, narrowed := true }
def BlockPadsUptoSaid : Prop := blockPadsUptoRow.holds Try.pinned (OpenSpec.upto blockPadsSpec)

/-- 'sealringlaw16.BlockWrites', WHERE WHAT IT READS IS OF BULK AT MOST 1048576: true; the input reads as it did. -/
def blockWritesUptoRow : OpenClaim := { program := "ytmjejlbmcefaoaa", sum := "41fed48430b9780e68ad4e16eab9a09b7171f3c82c3c8b72b5fb493945b2a357", func := "sealring/sealringlaw16.BlockWrites", spec := "blockWrites", apart := false, narrowed := true }
def BlockWritesUptoSaid : Prop := blockWritesUptoRow.holds Try.pinned (OpenSpec.upto blockWritesSpec)

/-- 'sealringlaw01.OctetHex', WHERE WHAT IT READS IS OF BULK AT MOST 1048576: true; the input reads as it did. -/
def octetHexUptoRow : OpenClaim := { program := "ytmjejlbmcefaoaa", sum := "41fed48430b9780e68ad4e16eab9a09b7171f3c82c3c8b72b5fb493945b2a357", func := "sealring/sealringlaw01.OctetHex", spec := "octetHex", inPlace := ["internal/abi.NoEscape"], unfollowed := true, recurses := true, apart := false, narrowed := true }
def OctetHexUptoSaid : Prop := octetHexUptoRow.holds Try.pinned (OpenSpec.upto octetHexSpec)

/-- 'sealringlaw01.OctetPuts', WHERE WHAT IT READS IS OF BULK AT MOST 1048576: true; the input reads as it did. -/
def octetPutsUptoRow : OpenClaim := { program := "ytmjejlbmcefaoaa", sum := "41fed48430b9780e68ad4e16eab9a09b7171f3c82c3c8b72b5fb493945b2a357", func := "sealring/sealringlaw01.OctetPuts", spec := "octetPuts", inPlace := ["internal/abi.NoEscape"], unfollowed := true, recurses := true, apart := false, narrowed := true }
def OctetPutsUptoSaid : Prop := octetPutsUptoRow.holds Try.pinned (OpenSpec.upto octetPutsSpec)

/-- 'sealringlaw02.B64Writes', WHERE WHAT IT READS IS OF BULK AT MOST 1048576: true; the input reads as it did. -/
def b64WritesUptoRow : OpenClaim := { program := "ytmjejlbmcefaoaa", sum := "41fed48430b9780e68ad4e16eab9a09b7171f3c82c3c8b72b5fb493945b2a357", func := "sealring/sealringlaw02.B64Writes", spec := "b64Writes", unfollowed := true, recurses := true, apart := false, narrowed := true }
def B64WritesUptoSaid : Prop := b64WritesUptoRow.holds Try.pinned (OpenSpec.upto b64WritesSpec)

/-- 'sealringlaw02.B64Reads', WHERE WHAT IT READS IS OF BULK AT MOST 1048576: true; the input reads as it did. -/
def b64ReadsUptoRow : OpenClaim := { program := "ytmjejlbmcefaoaa", sum := "41fed48430b9780e68ad4e16eab9a09b7171f3c82c3c8b72b5fb493945b2a357", func := "sealring/sealringlaw02.B64Reads", spec := "b64Reads", unfollowed := true, recurses := true, apart := false, narrowed := true }
def B64ReadsUptoSaid : Prop := b64ReadsUptoRow.holds Try.pinned (OpenSpec.upto b64ReadsSpec)

/-- 'sealringlaw02.B64Back', WHERE WHAT IT READS IS OF BULK AT MOST 1048576: true; the input reads as it did. -/
def b64BackUptoRow : OpenClaim := { program := "ytmjejlbmcefaoaa", sum := "41fed48430b9780e68ad4e16eab9a09b7171f3c82c3c8b72b5fb493945b2a357", func := "sealring/sealringlaw02.B64Back", spec := "b64Back", unfollowed := true, recurses := true, apart := false, narrowed := true }
def B64BackUptoSaid : Prop := b64BackUptoRow.holds Try.pinned (OpenSpec.upto b64BackSpec)

/-- 'sealringlaw01.OctetGets', WHERE WHAT IT READS IS OF BULK AT MOST 1048576: true; the input reads as it did. -/
def octetGetsUptoRow : OpenClaim := { program := "ytmjejlbmcefaoaa", sum := "41fed48430b9780e68ad4e16eab9a09b7171f3c82c3c8b72b5fb493945b2a357", func := "sealring/sealringlaw01.OctetGets", spec := "octetGets", inPlace := ["internal/abi.NoEscape"], unfollowed := true, recurses := true, apart := false, narrowed := true }
def OctetGetsUptoSaid : Prop := octetGetsUptoRow.holds Try.pinned (OpenSpec.upto octetGetsSpec)

/-- 'sealringlaw14.RootsPrimes', WHERE WHAT IT READS IS OF BULK AT MOST 1048576: true; the input reads as it did. -/
def rootsPrimesUptoRow : OpenClaim := { program := "ytmjejlbmcefaoaa", sum := "41fed48430b9780e68ad4e16eab9a09b7171f3c82c3c8b72b5fb493945b2a357", func := "sealring/sealringlaw14.RootsPrimes", spec := "rootsPrimes", inPlace := ["math/bits.Add64"], unfollowed := true, recurses := true, apart := false, narrowed := true }
def RootsPrimesUptoSaid : Prop := rootsPrimesUptoRow.holds Try.pinned (OpenSpec.upto rootsPrimesSpec)

/-- 'sealringlaw14.RootsTell', WHERE WHAT IT READS IS OF BULK AT MOST 1048576: true; the input reads as it did. -/
def rootsTellUptoRow : OpenClaim := { program := "ytmjejlbmcefaoaa", sum := "41fed48430b9780e68ad4e16eab9a09b7171f3c82c3c8b72b5fb493945b2a357", func := "sealring/sealringlaw14.RootsTell", spec := "rootsTell", inPlace := ["math/bits.Add64"], unfollowed := true, recurses := true, apart := false, narrowed := true }
def RootsTellUptoSaid : Prop := rootsTellUptoRow.holds Try.pinned (OpenSpec.upto rootsTellSpec)

/-- 'sealringlaw14.RootsWhole', WHERE WHAT IT READS IS OF BULK AT MOST 1048576: true; the input reads as it did. -/
def rootsWholeUptoRow : OpenClaim := { program := "ytmjejlbmcefaoaa", sum := "41fed48430b9780e68ad4e16eab9a09b7171f3c82c3c8b72b5fb493945b2a357", func := "sealring/sealringlaw14.RootsWhole", spec := "rootsWhole", inPlace := ["math/bits.Add64"], unfollowed := true, recurses := true, apart := false, narrowed := true }
def RootsWholeUptoSaid : Prop := rootsWholeUptoRow.holds Try.pinned (OpenSpec.upto rootsWholeSpec)

/-- 'sealringlaw13.WideReckons', WHERE WHAT IT READS IS OF BULK AT MOST 1048576: true; the input reads as it did. -/
def wideReckonsUptoRow : OpenClaim := { program := "ytmjejlbmcefaoaa", sum := "41fed48430b9780e68ad4e16eab9a09b7171f3c82c3c8b72b5fb493945b2a357", func := "sealring/sealringlaw13.WideReckons", spec := "wideReckons", inPlace := ["math/bits.Add64", "math/bits.Sub64"], unfollowed := true, recurses := true, apart := false, narrowed := true }
def WideReckonsUptoSaid : Prop := wideReckonsUptoRow.holds Try.pinned (OpenSpec.upto wideReckonsSpec)

/-- 'sealringlaw13.WideRests', WHERE WHAT IT READS IS OF BULK AT MOST 1048576: true; the input reads as it did. -/
def wideRestsUptoRow : OpenClaim := { program := "ytmjejlbmcefaoaa", sum := "41fed48430b9780e68ad4e16eab9a09b7171f3c82c3c8b72b5fb493945b2a357", func := "sealring/sealringlaw13.WideRests", spec := "wideRests", inPlace := ["math/bits.Add64", "math/bits.Sub64"], unfollowed := true, recurses := true, apart := false, narrowed := true }
def WideRestsUptoSaid : Prop := wideRestsUptoRow.holds Try.pinned (OpenSpec.upto wideRestsSpec)

/-- 'sealringlaw13.WideBytes', WHERE WHAT IT READS IS OF BULK AT MOST 1048576: true; the input reads as it did. -/
def wideBytesUptoRow : OpenClaim := { program := "ytmjejlbmcefaoaa", sum := "41fed48430b9780e68ad4e16eab9a09b7171f3c82c3c8b72b5fb493945b2a357", func := "sealring/sealringlaw13.WideBytes", spec := "wideBytes", inPlace := ["math/bits.Add64", "math/bits.Sub64"], unfollowed := true, recurses := true, apart := false, narrowed := true }
def WideBytesUptoSaid : Prop := wideBytesUptoRow.holds Try.pinned (OpenSpec.upto wideBytesSpec)

/-- 'sealringlaw19.PrimeReckons', WHERE WHAT IT READS IS OF BULK AT MOST 1048576: true; the input reads as it did. -/
def primeReckonsUptoRow : OpenClaim := { program := "ytmjejlbmcefaoaa", sum := "41fed48430b9780e68ad4e16eab9a09b7171f3c82c3c8b72b5fb493945b2a357", func := "sealring/sealringlaw19.PrimeReckons", spec := "primeReckons", inPlace := ["math/bits.Add64", "math/bits.Sub64"], unfollowed := true, recurses := true, apart := false, narrowed := true }
def PrimeReckonsUptoSaid : Prop := primeReckonsUptoRow.holds Try.pinned (OpenSpec.upto primeReckonsSpec)

/-- 'sealringlaw19.PrimePowers', WHERE WHAT IT READS IS OF BULK AT MOST 1048576: true; the input reads as it did. -/
def primePowersUptoRow : OpenClaim := { program := "ytmjejlbmcefaoaa", sum := "41fed48430b9780e68ad4e16eab9a09b7171f3c82c3c8b72b5fb493945b2a357", func := "sealring/sealringlaw19.PrimePowers", spec := "primePowers", inPlace := ["math/bits.Sub64", "math/bits.Add64"], unfollowed := true, recurses := true, apart := false, narrowed := true }
def PrimePowersUptoSaid : Prop := primePowersUptoRow.holds Try.pinned (OpenSpec.upto primePowersSpec)

/-- 'sealringlaw19.PrimeBytes', WHERE WHAT IT READS IS OF BULK AT MOST 1048576: true; the input reads as it did. -/
def primeBytesUptoRow : OpenClaim := { program := "ytmjejlbmcefaoaa", sum := "41fed48430b9780e68ad4e16eab9a09b7171f3c82c3c8b72b5fb493945b2a357", func := "sealring/sealringlaw19.PrimeBytes", spec := "primeBytes", inPlace := ["math/bits.Sub64", "math/bits.Add64"], unfollowed := true, recurses := true, apart := false, narrowed := true }
def PrimeBytesUptoSaid : Prop := primeBytesUptoRow.holds Try.pinned (OpenSpec.upto primeBytesSpec)

/-- 'sealringlaw20.CurveMakes', WHERE WHAT IT READS IS OF BULK AT MOST 1048576: true; the input reads as it did. -/
def curveMakesUptoRow : OpenClaim := { program := "ytmjejlbmcefaoaa", sum := "41fed48430b9780e68ad4e16eab9a09b7171f3c82c3c8b72b5fb493945b2a357", func := "sealring/sealringlaw20.CurveMakes", spec := "curveMakes", inPlace := ["math/bits.Sub64", "math/bits.Add64"], unfollowed := true, recurses := true, apart := false, narrowed := true }
def CurveMakesUptoSaid : Prop := curveMakesUptoRow.holds Try.pinned (OpenSpec.upto curveMakesSpec)

/-- 'sealringlaw20.CurveRules', WHERE WHAT IT READS IS OF BULK AT MOST 1048576: true; the input reads as it did. -/
def curveRulesUptoRow : OpenClaim := { program := "ytmjejlbmcefaoaa", sum := "41fed48430b9780e68ad4e16eab9a09b7171f3c82c3c8b72b5fb493945b2a357", func := "sealring/sealringlaw20.CurveRules", spec := "curveRules", inPlace := ["math/bits.Sub64", "math/bits.Add64"], unfollowed := true, recurses := true, apart := false, narrowed := true }
def CurveRulesUptoSaid : Prop := curveRulesUptoRow.holds Try.pinned (OpenSpec.upto curveRulesSpec)

/-- 'sealringlaw20.CurveAdds', WHERE WHAT IT READS IS OF BULK AT MOST 1048576: true; the input reads as it did. -/
def curveAddsUptoRow : OpenClaim := { program := "ytmjejlbmcefaoaa", sum := "41fed48430b9780e68ad4e16eab9a09b7171f3c82c3c8b72b5fb493945b2a357", func := "sealring/sealringlaw20.CurveAdds", spec := "curveAdds", inPlace := ["math/bits.Sub64", "math/bits.Add64"], unfollowed := true, recurses := true, apart := false, narrowed := true }
def CurveAddsUptoSaid : Prop := curveAddsUptoRow.holds Try.pinned (OpenSpec.upto curveAddsSpec)

/-- 'sealringlaw22.ScalarReads', WHERE WHAT IT READS IS OF BULK AT MOST 1048576: true; the input reads as it did. -/
def scalarReadsUptoRow : OpenClaim := { program := "ytmjejlbmcefaoaa", sum := "41fed48430b9780e68ad4e16eab9a09b7171f3c82c3c8b72b5fb493945b2a357", func := "sealring/sealringlaw22.ScalarReads", spec := "scalarReads", inPlace := ["internal/abi.NoEscape", "internal/bytealg.MakeNoZero", "math/bits.Add64", "math/bits.Sub64"], unfollowed := true, recurses := true, apart := false, narrowed := true }
def ScalarReadsUptoSaid : Prop := scalarReadsUptoRow.holds Try.pinned (OpenSpec.upto scalarReadsSpec)

/-- 'sealringlaw23.MultTells', WHERE WHAT IT READS IS OF BULK AT MOST 1048576: true; the input reads as it did. -/
def multTellsUptoRow : OpenClaim := { program := "ytmjejlbmcefaoaa", sum := "41fed48430b9780e68ad4e16eab9a09b7171f3c82c3c8b72b5fb493945b2a357", func := "sealring/sealringlaw23.MultTells", spec := "multTells", inPlace := ["math/bits.Sub64", "math/bits.Add64"], unfollowed := true, recurses := true, apart := false, narrowed := true }
def MultTellsUptoSaid : Prop := multTellsUptoRow.holds Try.pinned (OpenSpec.upto multTellsSpec)

/-- 'sealringlaw21.PcodeReads', WHERE WHAT IT READS IS OF BULK AT MOST 1048576: true; the input reads as it did. -/
def pcodeReadsUptoRow : OpenClaim := { program := "ytmjejlbmcefaoaa", sum := "41fed48430b9780e68ad4e16eab9a09b7171f3c82c3c8b72b5fb493945b2a357", func := "sealring/sealringlaw21.PcodeReads", spec := "pcodeReads", inPlace := ["math/bits.Add64", "math/bits.Sub64"], unfollowed := true, recurses := true, apart := false, narrowed := true }
def PcodeReadsUptoSaid : Prop := pcodeReadsUptoRow.holds Try.pinned (OpenSpec.upto pcodeReadsSpec)

/-- 'sealringlaw22.ScalarReckons', WHERE WHAT IT READS IS OF BULK AT MOST 1048576: true; the input reads as it did. -/
def scalarReckonsUptoRow : OpenClaim := { program := "ytmjejlbmcefaoaa", sum := "41fed48430b9780e68ad4e16eab9a09b7171f3c82c3c8b72b5fb493945b2a357", func := "sealring/sealringlaw22.ScalarReckons", spec := "scalarReckons", inPlace := ["internal/abi.NoEscape", "internal/bytealg.MakeNoZero", "math/bits.Add64", "math/bits.Sub64"], unfollowed := true, recurses := true, apart := false, narrowed := true }
def ScalarReckonsUptoSaid : Prop := scalarReckonsUptoRow.holds Try.pinned (OpenSpec.upto scalarReckonsSpec)

/-- 'sealringlaw23.MultRules', WHERE WHAT IT READS IS OF BULK AT MOST 1048576: true; the input reads as it did. -/
def multRulesUptoRow : OpenClaim := { program := "ytmjejlbmcefaoaa", sum := "41fed48430b9780e68ad4e16eab9a09b7171f3c82c3c8b72b5fb493945b2a357", func := "sealring/sealringlaw23.MultRules", spec := "multRules", inPlace := ["math/bits.Add64", "math/bits.Sub64"], unfollowed := true, recurses := true, apart := false, narrowed := true }
def MultRulesUptoSaid : Prop := multRulesUptoRow.holds Try.pinned (OpenSpec.upto multRulesSpec)

/-- 'sealringlaw21.PcodeWrites', WHERE WHAT IT READS IS OF BULK AT MOST 1048576: true; the input reads as it did. -/
def pcodeWritesUptoRow : OpenClaim := { program := "ytmjejlbmcefaoaa", sum := "41fed48430b9780e68ad4e16eab9a09b7171f3c82c3c8b72b5fb493945b2a357", func := "sealring/sealringlaw21.PcodeWrites", spec := "pcodeWrites", inPlace := ["math/bits.Sub64", "math/bits.Add64"], unfollowed := true, recurses := true, apart := false, narrowed := true }
def PcodeWritesUptoSaid : Prop := pcodeWritesUptoRow.holds Try.pinned (OpenSpec.upto pcodeWritesSpec)

/-- 'sealringlaw17.Sha2Of', WHERE WHAT IT READS IS OF BULK AT MOST 1048576: true; the input reads as it did. -/
def sha2OfUptoRow : OpenClaim := { program := "ytmjejlbmcefaoaa", sum := "41fed48430b9780e68ad4e16eab9a09b7171f3c82c3c8b72b5fb493945b2a357", func := "sealring/sealringlaw17.Sha2Of", spec := "sha2Of", inPlace := ["math/bits.Add64", "internal/abi.NoEscape"], unfollowed := true, recurses := true, apart := false, narrowed := true }
def Sha2OfUptoSaid : Prop := sha2OfUptoRow.holds Try.pinned (OpenSpec.upto sha2OfSpec)

/-- 'sealringlaw17.Sha2Goes', WHERE WHAT IT READS IS OF BULK AT MOST 1048576: true; the input reads as it did. -/
def sha2GoesUptoRow : OpenClaim := { program := "ytmjejlbmcefaoaa", sum := "41fed48430b9780e68ad4e16eab9a09b7171f3c82c3c8b72b5fb493945b2a357", func := "sealring/sealringlaw17.Sha2Goes", spec := "sha2Goes", inPlace := ["math/bits.Add64", "internal/abi.NoEscape"], unfollowed := true, recurses := true, apart := false, narrowed := true }
def Sha2GoesUptoSaid : Prop := sha2GoesUptoRow.holds Try.pinned (OpenSpec.upto sha2GoesSpec)

/-- 'sealringlaw18.Sha5Of', WHERE WHAT IT READS IS OF BULK AT MOST 1048576: true; the input reads as it did. -/
def sha5OfUptoRow : OpenClaim := { program := "ytmjejlbmcefaoaa", sum := "41fed48430b9780e68ad4e16eab9a09b7171f3c82c3c8b72b5fb493945b2a357", func := "sealring/sealringlaw18.Sha5Of", spec := "sha5Of", inPlace := ["math/bits.Add64", "internal/abi.NoEscape"], unfollowed := true, recurses := true, apart := false, narrowed := true }
def Sha5OfUptoSaid : Prop := sha5OfUptoRow.holds Try.pinned (OpenSpec.upto sha5OfSpec)

/-- 'sealringlaw18.Sha5Goes', WHERE WHAT IT READS IS OF BULK AT MOST 1048576: true; the input reads as it did. -/
def sha5GoesUptoRow : OpenClaim := { program := "ytmjejlbmcefaoaa", sum := "41fed48430b9780e68ad4e16eab9a09b7171f3c82c3c8b72b5fb493945b2a357", func := "sealring/sealringlaw18.Sha5Goes", spec := "sha5Goes", inPlace := ["math/bits.Add64", "internal/abi.NoEscape"], unfollowed := true, recurses := true, apart := false, narrowed := true }
def Sha5GoesUptoSaid : Prop := sha5GoesUptoRow.holds Try.pinned (OpenSpec.upto sha5GoesSpec)

end Rows
end Go.Proofs.Ytmjejlbmcefaoaa
