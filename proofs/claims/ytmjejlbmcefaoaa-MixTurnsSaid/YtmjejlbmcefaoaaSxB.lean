/- The symbolic executor, part B: what one operation does to the symbolic state. -/
import Derived.Test.YtmjejlbmcefaoaaSxA
namespace Sx
open Go Go.RowKit

def W.cells : W → List C
  | .c x => [x]
  | .agg l => l
  | .ints k l => l.map (C.int k)

def W.k : W → K
  | .c x => .cs [x]
  | .agg l => .cs l
  | .ints k l => .ints k l

def litV (v : Value) : V :=
  match v with
  | .agg cs => .w (.agg (cs.toList.map C.v))
  | v => .w (.c (.v v))

def ev (t : Tms) : Operand → Option V
  | .tmp x => t x
  | .const v => some (litV v)
  | .global _ => none
  | .func f => some (.w (.c (.v (.func (.func f) #[] #[]))))

def evw (t : Tms) (x : Operand) : Option W :=
  match ev t x with
  | some (.w x) => some x
  | _ => none

def evws (t : Tms) : List Operand → Option (List W)
  | [] => some []
  | x :: r =>
    match evw t x with
    | some v => match evws t r with
      | some l => some (v :: l)
      | none => none
    | none => none

structure Out where
  v : Option V
  upd : List (Nat × Option Blk)
  obs : List Bool

def out1 (v : V) : Option Out := some ⟨some v, [], []⟩
def outo (v : V) (obs : List Bool) : Option Out := some ⟨some v, [], obs⟩

def putM (M : Mem) : List (Nat × Option Blk) → Mem
  | [] => M
  | (id, b) :: r => putM (fun x => bif Nat.beq x id then b else M x) r

def putT (t : Tms) (dst : Option Nat) (v : Option V) : Tms :=
  match dst with
  | some d => fun x => bif Nat.beq x d then v else t x
  | none => t

def isAggT (P : Program) (T : TypeId) : Bool :=
  match P.underlying T with
  | some (.struct _) => true
  | some (.array _ _) => true
  | _ => false

def hasT (P : Program) (T : TypeId) : Bool :=
  match P.underlying T with
  | some _ => true
  | none => false

def K.at (k : K) (i : Nat) : Option (C × List Bool) :=
  match k with
  | .cs l => match l[i]? with
    | some c => some (c, [])
    | none => none
  | .ints k l => some (.v (.int k (l.getD i 0)), [Nat.blt i l.length])
  | .strs l => some (.v (.string (l.getD i .empty)), [Nat.blt i l.length])

def K.take (k : K) (off j : Nat) : Nat → Option (List C × List Bool)
  | 0 => some ([], [])
  | n + 1 =>
    match k.at (off + j) with
    | some (c, o) => match K.take k off (j + 1) n with
      | some (l, o') => some (c :: l, o ++ o')
      | none => none
    | none => none

def kEq (a b : IntKind) : Bool := decide (a = b)

def C.one : C → Bool
  | .v (.agg _) => false
  | .v (.tuple _) => false
  | _ => true

def K.set (k : K) (i : Nat) (c : C) : Option (K × List Bool) :=
  match k with
  | .cs l => bif Nat.blt i l.length && c.one then some (.cs (l.set i c), []) else none
  | .ints k l =>
    match c with
    | .v (.int k' n) => bif kEq k k' then some (.ints k (l.set i n), [Nat.blt i l.length]) else none
    | _ => none
  | .strs l =>
    match c with
    | .v (.string s) => some (.strs (l.set i s), [Nat.blt i l.length])
    | _ => none

def K.sets (k : K) (off j : Nat) : List C → Option (K × List Bool)
  | [] => some (k, [])
  | c :: r =>
    match k.set (off + j) c with
    | some (k', o) => match K.sets k' off (j + 1) r with
      | some (k'', o') => some (k'', o ++ o')
      | none => none
    | none => none

/-- integer operations, as the model has them, what they ask beside. -/
def intOp (op : BinOp) (k : IntKind) (a b : Int) : Option (V × List Bool) :=
  match op with
  | .add => some (V.int k (k.wrap (a + b)), [])
  | .sub => some (V.int k (k.wrap (a - b)), [])
  | .mul => some (V.int k (k.wrap (a * b)), [])
  | .quo => some (V.int k (k.wrap (a.tdiv b)), [!(decide (b = 0))])
  | .rem => some (V.int k (a.tmod b), [!(decide (b = 0))])
  | .and => some (V.int k (k.wrap (BitVec.ofInt k.bits a &&& BitVec.ofInt k.bits b).toNat), [])
  | .or => some (V.int k (k.wrap (BitVec.ofInt k.bits a ||| BitVec.ofInt k.bits b).toNat), [])
  | .xor => some (V.int k (k.wrap (BitVec.ofInt k.bits a ^^^ BitVec.ofInt k.bits b).toNat), [])
  | .andNot => some (V.int k (k.wrap (BitVec.ofInt k.bits a &&& ~~~(BitVec.ofInt k.bits b)).toNat), [])
  | .eql => some (V.bool (a == b), [])
  | .neq => some (V.bool (a != b), [])
  | .lss => some (V.bool (decide (a < b)), [])
  | .leq => some (V.bool (decide (a ≤ b)), [])
  | .gtr => some (V.bool (decide (a > b)), [])
  | .geq => some (V.bool (decide (a ≥ b)), [])
  | _ => none

def shOp (op : BinOp) (k : IntKind) (a b : Int) : Option (V × List Bool) :=
  match op with
  | .shl => some (V.int k (k.wrap (a * 2 ^ (min b.toNat k.bits))), [decide (0 ≤ b)])
  | .shr => some (V.int k (a.fdiv (2 ^ (min b.toNat k.bits))), [decide (0 ≤ b)])
  | _ => none

def isSh (op : BinOp) : Bool := match op with | .shl => true | .shr => true | _ => false
def isEq (op : BinOp) : Bool := match op with | .eql => true | _ => false
def isNe (op : BinOp) : Bool := match op with | .neq => true | _ => false

def strOp (op : BinOp) (a b : ByteArray) : Option (V × List Bool) :=
  match op with
  | .add => some (V.str (a ++ b), [Nat.ble (a.size + b.size) 9223372036854775807])
  | .eql => some (V.bool (a.toList == b.toList), [])
  | .neq => some (V.bool (!(a.toList == b.toList)), [])
  | _ => none

/-- cells of numbers, bools and strings held against one another. -/
def eqCells : List C → List C → Option Bool
  | [], [] => some true
  | .v (.int k a) :: r, .v (.int k' b) :: s =>
    bif kEq k k' then (match eqCells r s with | some x => some ((a == b) && x) | none => none) else none
  | .v (.string a) :: r, .v (.string b) :: s => match eqCells r s with | some x => some ((a == b) && x) | none => none
  | .v (.bool a) :: r, .v (.bool b) :: s => match eqCells r s with | some x => some ((a == b) && x) | none => none
  | _, _ => none

/-- a cell's kind: 0 a number, 1 a bool, 2 a string. -/
def C.code : C → Nat
  | .v (.int _ _) => 0
  | .v (.bool _) => 1
  | .v (.string _) => 2
  | _ => 3

def codesOk : Option (List Nat) → List C → Bool
  | some [], [] => true
  | some (k :: r), c :: l => Nat.beq c.code k && codesOk (some r) l
  | _, _ => false

/-- tables: contracts of functions, results of functions without a body, types whose values '==' holds cell by cell. -/
structure Tab where
  ctr : FuncId → List W → Mem → Nat → Option Out
  ext : FuncId → List W → Option Out
  eqs : TypeId → Option (List Nat)

def isBoolT (P : Program) (T : TypeId) : Bool := match P.underlying T with | some .bool => true | _ => false
def isPtrT (P : Program) (T : TypeId) : Bool := match P.underlying T with | some (.pointer _) => true | _ => false

def binEv (P : Program) (tab : Tab) (op : BinOp) (T : TypeId) (x y : W) : Option Out :=
  match x, y with
  | .c (.v (.int k a)), .c (.v (.int k' b)) =>
    bif isSh op then (match shOp op k a b with | some (v, o) => outo v o | none => none)
    else bif kEq k k' then (match intOp op k a b with | some (v, o) => outo v o | none => none) else none
  | .c (.v (.string a)), .c (.v (.string b)) => match strOp op a b with | some (v, o) => outo v o | none => none
  | .c (.v (.bool a)), .c (.v (.bool b)) => bif isBoolT P T then (bif isEq op then out1 (V.bool (a == b)) else bif isNe op then out1 (V.bool (!(a == b))) else none) else none
  | .c (.ptr _ _), .c (.v (.pointer none)) => bif isPtrT P T then (bif isEq op then out1 (V.bool false) else bif isNe op then out1 (V.bool true) else none) else none
  | .c (.v (.pointer none)), .c (.v (.pointer none)) => bif isPtrT P T then (bif isEq op then out1 (V.bool true) else bif isNe op then out1 (V.bool false) else none) else none
  | .agg l, .agg m =>
    bif codesOk (tab.eqs T) l then
      match eqCells l m with
      | some r => bif isEq op then out1 (V.bool r) else bif isNe op then out1 (V.bool (!r)) else none
      | none => none
    else none
  | _, _ => none

def notC : C → Option C
  | .v (.bool b) => some (.v (.bool (!b)))
  | _ => none

def unEv (op : UnOp) (x : W) : Option Out :=
  match op, x with
  | .not, .c (.v (.bool b)) => out1 (V.bool (!b))
  | .neg, .c (.v (.int k n)) => out1 (V.int k (k.wrap (0 - n)))
  | .xor, .c (.v (.int k n)) => out1 (V.int k (k.wrap (BitVec.ofInt k.bits (if k.signed then -1 else k.max) ^^^ BitVec.ofInt k.bits n).toNat))
  | _, _ => none

def rw (T : TypeId) (k : K) : Option Blk := some ⟨T, .rw, k⟩

/-- a pointer's place. -/
def C.place : C → Option (Nat × Nat)
  | .ptr id off => some (id, off)
  | _ => none

/-- no literal aggregate in a cell's place. -/
def W.flat : W → Bool
  | .c x => x.one
  | _ => true

def wPlace : W → Option (Nat × Nat)
  | .c (.ptr id off) => some (id, off)
  | _ => none

def Mode.writes : Mode → Bool
  | .ro => false
  | .rw => true
  | .own _ => true

def loadEv (P : Program) (M : Mem) (T : TypeId) (x : W) : Option Out :=
  match wPlace x with
  | some (id, off) =>
    match M id with
    | some blk =>
      bif isAggT P T then
        match blk.k, off with
        | .ints k l, 0 =>
          bif Nat.blt 16 (P.cellsOf T) then outo (.w (.ints k l)) [Nat.beq l.length (P.cellsOf T)]
          else match blk.k.take off 0 (P.cellsOf T) with
            | some (l, o) => outo (.w (.agg l)) o
            | none => none
        | _, _ =>
          match blk.k.take off 0 (P.cellsOf T) with
          | some (l, o) => outo (.w (.agg l)) o
          | none => none
      else bif hasT P T then
        match blk.k.at off with
        | some (c, o) => outo (.w (.c c)) o
        | none => none
      else none
    | none => none
  | none => none

def storeEv (P : Program) (M : Mem) (T : TypeId) (x : W) (v : W) : Option Out :=
  match wPlace x with
  | some (id, off) =>
    match M id with
    | some blk =>
      bif blk.mode.writes && hasT P T && Nat.blt 0 (P.cellsOf T) then
        match v, off with
        | .ints k l, 0 =>
          some ⟨none, [(id, some { blk with k := .ints k l })], [Nat.beq l.length (P.cellsOf T), Nat.beq l.length blk.k.len]⟩
        | _, _ =>
          match (bif v.flat then blk.k.sets off 0 v.cells else none) with
          | some (k', o) => some ⟨none, [(id, some { blk with k := k' })], Nat.beq v.cells.length (P.cellsOf T) :: o⟩
          | none => none
      else none
    | none => none
  | none => none

def toInts (k : IntKind) : List Value → Option (List Int)
  | [] => some []
  | .int k' n :: r => bif kEq k k' then (match toInts k r with | some l => some (n :: l) | none => none) else none
  | _ => none

def kOfZero (cs : List Value) : K :=
  bif Nat.blt 16 cs.length then
    match cs with
    | .int k n :: r => match toInts k (.int k n :: r) with
      | some l => .ints k l
      | none => .cs (cs.map C.v)
    | _ => .cs (cs.map C.v)
  else .cs (cs.map C.v)

def zeroOf (P : Program) (T : TypeId) : Option (List Value) :=
  match P.info? T with
  | some i => match i.zero with
    | some v => some v.cells.toList
    | none => none
  | none => none

def allocEv (P : Program) (base : Nat) (T : TypeId) : Option Out :=
  match zeroOf P T with
  | some cs => some ⟨some (.w (.c (.ptr base 0))), [(base, rw T (kOfZero cs))], []⟩
  | none => none

def boxEv (base : Nat) (T : TypeId) (x : W) : Option Out :=
  bif x.flat then some ⟨some (.w (.c (.ptr base 0))), [(base, rw T x.k)], []⟩ else none

def fillC (place : Nat → Option (Nat × Nat)) (cells : List C) : List (Nat × W) → Option (List C)
  | [] => some cells
  | (i, v) :: rest =>
    match place i with
    | none => none
    | some (off, size) =>
      bif Nat.beq v.cells.length size && Nat.ble (off + size) cells.length && v.flat then
        fillC place (cells.take off ++ v.cells ++ cells.drop (off + size)) rest
      else none

def evParts (t : Tms) : List (Nat × Operand) → Option (List (Nat × W))
  | [] => some []
  | (i, x) :: r =>
    match evw t x with
    | some v => match evParts t r with
      | some l => some ((i, v) :: l)
      | none => none
    | none => none

def buildEv (P : Program) (T : TypeId) (parts : List (Nat × W)) : Option Out :=
  match P.info? T, P.underlying T with
  | some it, some (.array _ e) =>
    match it.zero, P.info? e with
    | some z, some ie =>
      match fillC (fun i => some (i * ie.size, ie.size)) (z.cells.toList.map C.v) parts with
      | some l => out1 (.w (.agg l))
      | none => none
    | _, _ => none
  | some it, some (.struct fields) =>
    match it.zero, fields.toList.mapM (fun f => (P.info? f.type).map fun i => (f.offset, i.size)) with
    | some z, some places =>
      match fillC (places.toArray[·]?) (z.cells.toList.map C.v) parts with
      | some l => out1 (.w (.agg l))
      | none => none
    | _, _ => none
  | _, _ => none

def elemOfSlice (P : Program) (T : TypeId) : Option TypeId :=
  match P.underlying T with
  | some (.slice e) => some e
  | _ => none

def zeros (z : Array Value) (n : Nat) : List C := (List.range n).map fun i => C.v (z[i % z.size]!)

def buildSliceEv (P : Program) (base : Nat) (T : TypeId) (len : Nat) (parts : List (Nat × W)) : Option Out :=
  match elemOfSlice P T with
  | some e =>
    match P.info? e with
    | some ie =>
      match ie.zero with
      | some z =>
        bif Nat.ble (len * ie.size) 16777216 && Nat.blt 0 (len * ie.size) then
          match fillC (fun i => some (i * ie.size, ie.size)) (zeros z.cells (len * ie.size)) parts with
          | some l => some ⟨some (.w (.c (.sl base 0 len))), [(base, rw e (.cs l))], []⟩
          | none => none
        else none
      | none => none
    | none => none
  | none => none

def fieldOf (P : Program) (T : TypeId) (f : Nat) : Option (Nat × TypeId) :=
  match P.underlying T with
  | some (.struct fields) => match fields[f]? with
    | some x => some (x.offset, x.type)
    | none => none
  | _ => none

def fieldAddrEv (P : Program) (T : TypeId) (x : W) (f : Nat) : Option Out :=
  match wPlace x, fieldOf P T f with
  | some (id, off), some (fo, ft) =>
    bif Nat.beq (P.cellsOf ft) 0 || !(hasT P ft) then none else out1 (.w (.c (.ptr id (off + fo))))
  | _, _ => none

def partOf (P : Program) (T : TypeId) (l : List C) (off : Nat) : Option W :=
  bif isAggT P T then some (.agg ((l.drop off).take (P.cellsOf T)))
  else bif hasT P T then (match l[off]? with | some c => some (.c c) | none => none)
  else none

def fieldEv (P : Program) (T : TypeId) (x : W) (f : Nat) : Option Out :=
  match x, fieldOf P T f with
  | .agg l, some (fo, ft) => match partOf P ft l fo with
    | some w => out1 (.w w)
    | none => none
  | _, _ => none

def arrOf (P : Program) (T : TypeId) : Option (Nat × TypeId) :=
  match P.underlying T with
  | some (.array n e) => some (n, e)
  | _ => none

/-- which element of a slice: block, place of its first cell, length. -/
def C.slice (M : Mem) : C → Option (Nat × Nat × Nat)
  | .sl id off len => some (id, off, len)
  | .own id => match M id with
    | some ⟨_, .own n, _⟩ => some (id, 0, n)
    | _ => none
  | _ => none

def inb (i : Int) (n : Nat) : List Bool := [decide (0 ≤ i), decide (i < (n : Int))]

/-- off + n * c, so written that it reckons itself out where off is 0, c is 1. -/
def spot (off n c : Nat) : Nat :=
  match off with
  | 0 => match c with
    | 1 => n
    | c => n * c
  | o + 1 => match c with
    | 1 => o + 1 + n
    | c => o + 1 + n * c

theorem spot_eq (off n c : Nat) : spot off n c = off + n * c := by
  unfold spot
  split <;> split <;> simp

def indexAddrEv (P : Program) (M : Mem) (T : TypeId) (x i : W) : Option Out :=
  match i with
  | .c (.v (.int _ i)) =>
    match P.underlying T with
    | some (.array n e) =>
      match wPlace x with
      | some (id, off) => bif hasT P e then outo (.w (.c (.ptr id (spot off i.toNat (P.cellsOf e))))) (inb i n) else none
      | none => none
    | some (.slice e) =>
      match x with
      | .c c => match c.slice M with
        | some (id, off, n) => bif hasT P e then outo (.w (.c (.ptr id (spot off i.toNat (P.cellsOf e))))) (inb i n) else none
        | none => none
      | _ => none
    | _ => none
  | _ => none

/-- a string's byte. -/
def bt (s : ByteArray) (i : Int) : Int := ((s[i.toNat]?.getD 0).toNat : Int)

def indexEv (P : Program) (T : TypeId) (x i : W) : Option Out :=
  match i with
  | .c (.v (.int _ i)) =>
    match P.underlying T with
    | some .string =>
      match x with
      | .c (.v (.string s)) => outo (V.int .u8 (bt s i)) (inb i s.size)
      | _ => none
    | some (.array n e) =>
      match x with
      | .agg l => match partOf P e l (i.toNat * P.cellsOf e) with
        | some w => outo (.w w) (inb i n)
        | none => none
      | .ints k l => bif Nat.beq (P.cellsOf e) 1 && !(isAggT P e) && hasT P e then outo (V.int k (l.getD i.toNat 0)) (Nat.blt i.toNat l.length :: inb i n) else none
      | _ => none
    | _ => none
  | _ => none

def intOf' : Option W → Option Int
  | some (.c (.v (.int _ n))) => some n
  | _ => none

/-- an expression's bounds: what is not there is 0 and the length. -/
def lowOf : Option (Option W) → Option Int
  | none => some 0
  | some w => intOf' w

def highOf (n : Nat) : Option (Option W) → Option Int
  | none => some n
  | some w => intOf' w

def cut (s : ByteArray) (l h : Int) : ByteArray := s.extract l.toNat h.toNat

def sliceEv (P : Program) (M : Mem) (T : TypeId) (x : W) (lo hi mx : Option (Option W)) : Option Out :=
  match P.underlying T with
  | some .string =>
    match x, mx with
    | .c (.v (.string s)), none =>
      match lowOf lo, highOf s.size hi with
      | some l, some h => outo (V.str (cut s l h)) [decide (0 ≤ l), decide (l ≤ h), decide (0 ≤ h), decide (h ≤ (s.size : Int))]
      | _, _ => none
    | _, _ => none
  | some (.array n e) =>
    match wPlace x, mx with
    | some (id, off), none =>
      match lowOf lo, highOf n hi with
      | some l, some h => bif hasT P e then outo (.w (.c (.sl id (spot off l.toNat (P.cellsOf e)) (h.toNat - l.toNat)))) [decide (0 ≤ l), decide (l ≤ h), decide (0 ≤ h), decide (h ≤ (n : Int))] else none
      | _, _ => none
    | _, _ => none
  | some (.slice e) =>
    match x with
    | .c c => match c.slice M with
      | some (id, off, n) =>
        match mx with
        | none =>
          match lowOf lo, highOf n hi with
          | some l, some h => bif hasT P e then outo (.w (.c (.sl id (spot off l.toNat (P.cellsOf e)) (h.toNat - l.toNat)))) [decide (0 ≤ l), decide (l ≤ h), decide (0 ≤ h), decide (h ≤ (n : Int))] else none
          | _, _ => none
        | some m =>
          match hi with
          | none => none
          | some hw =>
            match lowOf lo, lowOf (some hw), lowOf (some m) with
            | some l, some h, some m => bif hasT P e then outo (.w (.c (.sl id (spot off l.toNat (P.cellsOf e)) (h.toNat - l.toNat)))) [decide (0 ≤ l), decide (l ≤ h), decide (h ≤ m), decide (m ≤ (n : Int))] else none
            | _, _, _ => none
      | none => none
    | _ => none
  | _ => none

def intKindOf (P : Program) (T : TypeId) : Option IntKind :=
  match P.underlying T with
  | some (.int k) => some k
  | _ => none

def isStrT (P : Program) (T : TypeId) : Bool := match P.underlying T with | some .string => true | _ => false

/-- bytes that a block holds, as a list of numbers. -/
def K.bytes (k : K) (off n : Nat) : Option (List Int × List Bool) :=
  match k with
  | .ints .u8 l => some ((l.drop off).take n, [Nat.ble (off + n) l.length])
  | .cs l => match toInts .u8 (((l.drop off).take n).map fun | .v x => x | _ => .nilFunc) with
    | some r => some (r, [Nat.ble (off + n) l.length])
    | none => none
  | _ => none

def strOf (l : List Int) : ByteArray := ⟨(l.map fun n => UInt8.ofNat n.toNat).toArray⟩
def bytesOf (s : ByteArray) : List Int := s.data.toList.map fun b => (b.toNat : Int)

def convEv (P : Program) (M : Mem) (base : Nat) (src dst : TypeId) (x : W) : Option Out :=
  match x with
  | .c (.v (.int _ n)) =>
    match intKindOf P dst with
    | some k => bif hasT P src then outo (V.int k (k.wrap n)) [] else none
    | none => none
  | .c (.v (.string s)) =>
    bif isStrT P dst && hasT P src then out1 (V.str s)
    else match elemOfSlice P dst with
      | some e => match intKindOf P e with
        | some .u8 => bif hasT P src then some ⟨some (.w (.c (.sl base 0 s.size))), [(base, rw e (.ints .u8 (bytesOf s)))], []⟩ else none
        | _ => none
      | none => none
  | .c c =>
    bif isStrT P dst then
      match elemOfSlice P src with
      | some e => match intKindOf P e with
        | some .u8 =>
          match c.slice M with
          | some (id, off, n) => match M id with
            | some blk => match blk.k.bytes off n with
              | some (l, o) => outo (V.str (strOf l)) o
              | none => none
            | none => none
          | none => bif (match c with | .v (.slice none 0 0) => true | _ => false) then out1 (V.str .empty) else none
        | _ => none
      | none => none
    else none
  | _ => none

def makeSliceEv (P : Program) (base : Nat) (T : TypeId) (l c : W) : Option Out :=
  match l, c with
  | .c (.v (.int _ l)), .c (.v (.int _ c)) =>
    match elemOfSlice P T with
    | some e =>
      match zeroOf P e with
      | some [.int k z] =>
        bif Nat.beq (P.cellsOf e) 1 && Nat.ble (P.bytesOf e) 16 then
          some ⟨some (.w (.c (.own base))), [(base, some ⟨e, .own l.toNat, .ints k (List.replicate l.toNat z)⟩)],
            [decide (0 ≤ l), decide (l ≤ c), decide (c ≤ 1099511627776)]⟩
        else none
      | _ => none
    | none => none
  | _, _ => none

def K.drops (k : K) (off n : Nat) : Option (K × List Bool) :=
  match k with
  | .cs l => some (.cs ((l.drop off).take n), [Nat.ble (off + n) l.length])
  | .ints k l => some (.ints k ((l.drop off).take n), [Nat.ble (off + n) l.length])
  | .strs l => some (.strs ((l.drop off).take n), [Nat.ble (off + n) l.length])

def K.cat (a b : K) : Option K :=
  match a, b with
  | .cs l, .cs m => some (.cs (l ++ m))
  | .ints k l, .ints k' m => bif kEq k k' then some (.ints k (l ++ m)) else none
  | .ints k l, .cs m => match toInts k (m.map fun | .v x => x | _ => .nilFunc) with
    | some r => some (.ints k (l ++ r))
    | none => none
  | .strs l, .strs m => some (.strs (l ++ m))
  | .strs l, .cs [.v (.string s)] => some (.strs (l ++ [s]))
  | .cs [], .ints k m => some (.ints k m)
  | .cs [], .strs m => some (.strs m)
  | _, _ => none

def startK (P : Program) (e : TypeId) : K :=
  match P.underlying e with
  | some (.int k) => .ints k []
  | some .string => .strs []
  | some (.array _ e') => match P.underlying e' with
    | some (.int k) => .ints k []
    | _ => .cs []
  | _ => .cs []

/-- the slice that is appended to: its block's number, its cells. -/
def appTo (P : Program) (M : Mem) (e : TypeId) : C → Option (Option Nat × Nat × K)
  | .own id => match M id with
    | some ⟨e', .own n, k⟩ => bif Nat.beq e e' then some (some id, n, k) else none
    | _ => none
  | .v (.slice none 0 0) => some (none, 0, startK P e)
  | _ => none

def K.ones : K → Bool
  | .cs l => l.all C.one
  | _ => true

def zok (P : Program) (e : TypeId) : Bool :=
  match zeroOf P e with
  | some z => Nat.beq z.length (P.cellsOf e)
  | none => false

def appendEv (P : Program) (M : Mem) (base : Nat) (T T' : TypeId) (s x : W) : Option Out :=
  match s, x, elemOfSlice P T with
  | .c s, .c x, some e =>
    match appTo P M e s, x.slice M with
    | some (oid, n, k), some (id', off', m) =>
      match M id' with
      | some blk' =>
        match blk'.k.drops off' (m * P.cellsOf e) with
        | some (k', o) =>
          match k.cat k' with
          | some k'' =>
            bif Nat.beq T T' && Nat.blt 0 (P.cellsOf e) && zok P e && k'.ones then
              some ⟨some (.w (.c (.own base))), (match oid with | some id => [(id, none)] | none => []) ++ [(base, some ⟨e, .own (n + m), k''⟩)],
                Nat.ble ((n + m) * P.bytesOf e) 1099511627776 :: Nat.ble (n + m) 1099511627776 :: o⟩
            else none
          | none => none
        | none => none
      | none => none
    | _, _ => none
  | _, _, _ => none

def lenEv (P : Program) (M : Mem) (T : TypeId) (x : W) : Option Out :=
  match P.underlying T with
  | some .string => match x with
    | .c (.v (.string s)) => out1 (V.int .i64 s.size)
    | _ => none
  | some (.array n _) => out1 (V.int .i64 n)
  | some (.slice _) => match x with
    | .c (.v (.slice none 0 0)) => out1 (V.int .i64 0)
    | .c c => match c.slice M with
      | some (_, _, n) => out1 (V.int .i64 n)
      | none => none
    | _ => none
  | _ => none

def min2Ev (x y : W) : Option Out :=
  match x, y with
  | .c (.v (.int k a)), .c (.v (.int k' b)) => bif kEq k k' then out1 (V.int k (if b < a then b else a)) else none
  | _, _ => none
def max2Ev (x y : W) : Option Out :=
  match x, y with
  | .c (.v (.int k a)), .c (.v (.int k' b)) => bif kEq k k' then out1 (V.int k (if b > a then b else a)) else none
  | _, _ => none

def builtinEv (P : Program) (M : Mem) (base : Nat) (b : Builtin) (ts : Array TypeId) (args : List W) : Option Out :=
  match b, args with
  | .len, [x] => match ts[0]? with
    | some T => lenEv P M T x
    | none => none
  | .append, [s, x] => match ts[0]?, ts[1]? with
    | some T, some T' => appendEv P M base T T' s x
    | _, _ => none
  | .min, [x, y] => min2Ev x y
  | .max, [x, y] => max2Ev x y
  | _, _ => none

def fnOf : C → Option (FuncId × List W × List W)
  | .v (.func (.func f) fs cs) => some (f, fs.toList.map (fun v => match litV v with | .w x => x | _ => .c (.v v)), cs.toList.map (fun v => match litV v with | .w x => x | _ => .c (.v v)))
  | .fn f caps => some (f, [], caps.map fun p => .c (.ptr p.1 p.2))
  | _ => none

def callEv (P : Program) (tab : Tab) (M : Mem) (base : Nat) (f : W) (args : List W) : Option Out :=
  match f with
  | .c c => match fnOf c with
    | some (f, fs, cs) =>
      match P.funcs[f]? with
      | some fn => bif fn.body.isSome then tab.ctr f (fs ++ args ++ cs) M base else tab.ext f (fs ++ args ++ cs)
      | none => none
    | none => none
  | _ => none

def caps? : List W → Option (List (Nat × Nat))
  | [] => some []
  | .c (.ptr id off) :: r => match caps? r with | some l => some ((id, off) :: l) | none => none
  | _ => none

def lits? : List W → Option (List Value)
  | [] => some []
  | .c (.v x) :: r => match lits? r with | some l => some (x :: l) | none => none
  | _ => none

def makeFuncEv (f : Fn) (first caps : List W) : Option Out :=
  match f, first with
  | .func f, [] =>
    match caps with
    | [] => out1 (.w (.c (.v (.func (.func f) #[] #[]))))
    | _ => match caps? caps with
      | some l => out1 (.w (.c (.fn f l)))
      | none => none
  | _, _ => none

def oev (t : Tms) : Option Operand → Option (Option W)
  | none => none
  | some x => some (evw t x)

/-- one operation. -/
def core (P : Program) (tab : Tab) (base : Nat) (o : Oper) (t : Tms) (M : Mem) : Option Out :=
  match o.op with
  | .move x => match ev t x with | some v => out1 v | none => none
  | .assign x => match ev t x with | some v => out1 v | none => none
  | .pick c a b =>
    match ev t c with
    | some (.w (.c (.v (.bool c)))) => match (bif c then ev t a else ev t b) with | some v => out1 v | none => none
    | _ => none
  | .alloc T => allocEv P base T
  | .box T x => match evw t x with | some x => boxEv base T x | none => none
  | .build T ps => match evParts t ps.toList with | some l => buildEv P T l | none => none
  | .buildSlice T n ps => match evParts t ps.toList with | some l => buildSliceEv P base T n l | none => none
  | .load T x => match evw t x with | some x => loadEv P M T x | none => none
  | .store T x v => match evw t x, evw t v with | some x, some v => storeEv P M T x v | _, _ => none
  | .nilCheck x => match ev t x with
    | some (.w (.c (.ptr id off))) => out1 (.w (.c (.ptr id off)))
    | some (.w (.c (.fn f c))) => out1 (.w (.c (.fn f c)))
    | some (.w (.c (.v (.func (.func f) a b)))) => out1 (.w (.c (.v (.func (.func f) a b))))
    | _ => none
  | .binOp op T x y _ => match evw t x, evw t y with | some x, some y => binEv P tab op T x y | _, _ => none
  | .unOp op _ x => match evw t x with | some x => unEv op x | none => none
  | .convert s d x => match evw t x with | some x => convEv P M base s d x | none => none
  | .makeFunc f first caps => match evws t first.toList, evws t caps.toList with | some a, some b => makeFuncEv f a b | _, _ => none
  | .makeSlice T l c => match evw t l, evw t c with | some l, some c => makeSliceEv P base T l c | _, _ => none
  | .slice T x lo hi mx => match evw t x with | some x => sliceEv P M T x (oev t lo) (oev t hi) (oev t mx) | none => none
  | .fieldAddr T x f => match evw t x with | some x => fieldAddrEv P T x f | none => none
  | .field T x f => match evw t x with | some x => fieldEv P T x f | none => none
  | .indexAddr T x i => match evw t x, evw t i with | some x, some i => indexAddrEv P M T x i | _, _ => none
  | .index T x i => match evw t x, evw t i with | some x, some i => indexEv P T x i | _, _ => none
  | .extract x i => match ev t x with
    | some (.tup l) => match l[i]? with | some w => out1 (.w w) | none => none
    | _ => none
  | .call ⟨.builtin b, args, ts⟩ => match evws t args.toList with | some l => builtinEv P M base b ts l | none => none
  | .call ⟨.value f, args, _⟩ => match evw t f, evws t args.toList with | some f, some l => callEv P tab M base f l | _, _ => none
  | _ => none

end Sx
