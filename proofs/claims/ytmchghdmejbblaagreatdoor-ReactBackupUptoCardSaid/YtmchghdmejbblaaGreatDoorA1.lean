/- A plain evaluator of the model's code over a store of its own, without addresses, capacities, and draws. Definitions alone. -/
import Derived.RangeFuncLeaves
import Derived.OrdersIn
import Derived.Below
set_option linter.unusedSimpArgs false
set_option linter.unusedVariables false
noncomputable section
namespace Go.Ab

/-- Abstract values: what a temporary or a cell holds. -/
inductive AV where
  | bool (b : Bool)
  | int (k : IntKind) (n : Int)
  | str (s : ByteArray)
  | nilp
  | ptr (id ver off : Nat)
  | nils
  | sl (id ver off len lo sz : Nat) (ex : Bool)
  | nilm
  | mp (id : Nat)
  | nilf
  | fn (f : FuncId) (first cap : List AV)
  | yld (l : Nat)
  | agg (cs : List AV)
  | tup (vs : List AV)
  | rsl (id off len : Nat)
  | rptr (id off : Nat)
  | esl
  deriving Inhabited

/-- A tree over the numbers. -/
inductive Tr (α : Type) where
  | leaf
  | node (l : Tr α) (v : Option α) (r : Tr α)

def Tr.get {α : Type} (t : Tr α) : Nat → Option α :=
  Tr.rec (fun _ => none) (fun _ v _ gl gr n => Bool.rec (Bool.rec (gr (n / 2 - 1)) (gl (n / 2)) (Nat.beq (n % 2) 1)) v (Nat.beq n 0)) t

def Tr.set {α : Type} (k : Nat) : Tr α → Nat → α → Tr α :=
  Nat.rec (fun t _ _ => t)
    (fun _ ih t n x =>
      Tr.rec
        (Bool.rec (Bool.rec (.node .leaf none (ih .leaf (n / 2 - 1) x)) (.node (ih .leaf (n / 2) x) none .leaf) (Nat.beq (n % 2) 1)) (.node .leaf (some x) .leaf) (Nat.beq n 0))
        (fun l v r _ _ => Bool.rec (Bool.rec (.node l v (ih r (n / 2 - 1) x)) (.node (ih l (n / 2) x) v r) (Nat.beq (n % 2) 1)) (.node l (some x) r) (Nat.beq n 0)) t) k

inductive AObj where
  | arr (ver : Nat) (cells : List AV)
  | mp (es : List (AV × AV))
  | loop (state : LoopState) (pending : Option Code) (n : Nat) (tmps : Tr AV) (params : Array Tmp) (assign body : Code)
  | defs
  | defd
  | iter (s : ByteArray) (pos : Nat)
  | ro (cells : List AV)

structure St where
  objs : Tr AObj
  next : Nat

structure Fr where
  tmps : Tr AV
  dfs : List Nat
  n : Nat
  ro : Option Nat

inductive Xt where
  | normal
  | exit (id : Nat)
  | ret

inductive AN where
  | val (v : AV)
  | enter (f : FuncId) (args : List AV)
  | round (l : Nat) (args : List AV)

/-- The number itself: a reckoning is done before it is handed on. -/
def force {α : Type} (m : Nat) (f : Nat → α) : α := match m + 1 with
  | 0 => f m
  | p + 1 => f p
def forceL {α β : Type} (l : List α) : (List α → β) → β :=
  List.rec (motive := fun _ => (List α → β) → β) (fun f => f []) (fun a _ ih f => ih fun l => f (a :: l)) l
def mkInt (k : IntKind) (n : Int) : AV := match n with
  | .ofNat m => force m fun m => .int k (.ofNat m)
  | .negSucc m => force m fun m => .int k (.negSucc m)
def mkPtr (id ver off : Nat) : AV := force off fun off => .ptr id ver off
def mkSl (id ver off len lo sz : Nat) (ex : Bool) : AV := force off fun off => force len fun len => force lo fun lo => .sl id ver off len lo sz ex

def bad {α : Type} (_ : String) : Option α := none

def getT (t : Tr AV) (n : Nat) : AV := (t.get n).getD (.tup [])
def lim : Nat := 1000000000
def St.get (σ : St) (id : Nat) : Option AObj := σ.objs.get id
def St.put (σ : St) (id : Nat) (o : AObj) : St :=
  match σ with
  | ⟨objs, next⟩ => ⟨objs.set (id + 1) id o, next⟩
def St.new (σ : St) (o : AObj) : Option (Nat × St) :=
  match σ with
  | ⟨objs, next⟩ => force (next + 1) fun n => some (next, ⟨objs.set n next o, n⟩)

def AV.cells : AV → List AV
  | .agg cs => cs
  | v => [v]
def AV.one : AV → Bool
  | .agg _ | .tup _ => false
  | _ => true
/-- Not a value that lies in several cells: what a cell may hold. -/
def ofV1 : Value → Option AV
  | .bool b => some (.bool b)
  | .int k n => some (.int k n)
  | .string s => some (.str s)
  | .pointer none => some .nilp
  | .slice none 0 0 => some .nils
  | .map none => some .nilm
  | .nilFunc => some .nilf
  | _ => bad "constant"
def ofV : Value → Option AV
  | .agg cs => (cs.toList.mapM ofV1).map .agg
  | v => ofV1 v

/-- What the evaluator asks of a type. -/
structure TI where
  und : Option TypeDesc
  size : Nat
  bytes : Nat
  zero : Option AV
  agg : Bool
  eqg : Bool
  stood : Bool

def mkTI (P : Program) (t : TypeId) : Option TI :=
  (P.info? t).map fun i => { und := P.underlying t, size := i.size, bytes := i.bytes, zero := i.zero.bind ofV, agg := (match P.underlying t with | some (.struct _) | some (.array _ _) => true | _ => false), eqg := P.eqGuardType P.depth t, stood := P.stoodInHeld t }

/-- A function as a tree: at m it has f (a * m + b). -/
def Tr.tab {α : Type} (f : Nat → Option α) : Nat → Nat → Nat → Tr α
  | 0, _, _ => .leaf
  | d + 1, a, b => .node (Tr.tab f d (2 * a) (a + b)) (f b) (Tr.tab f d (2 * a) (2 * a + b))

abbrev Tb := Tr TI
def und (P : Tb) (t : TypeId) : Option TypeDesc := (P.get t).bind (·.und)
def sizeA (P : Tb) (t : TypeId) : Option Nat := (P.get t).map (·.size)
def bytesA (P : Tb) (t : TypeId) : Option Nat := (P.get t).map (·.bytes)
def zeroA (P : Tb) (t : TypeId) : Option AV := (P.get t).bind (·.zero)
def isAggA (P : Tb) (t : TypeId) : Option Bool := (P.get t).bind fun i => i.und.map fun _ => i.agg

def evO (fr : Fr) : Operand → Option AV
  | .tmp t => some (getT fr.tmps t)
  | .const v => ofV v
  | .global _ => bad "global"
  | .func f => some (.fn f [] [])

def evOs (fr : Fr) : List Operand → Option (List AV)
  | [] => some []
  | x :: xs => match evO fr x, evOs fr xs with
    | some v, some vs => some (v :: vs)
    | _, _ => none

/-- The cells of a live array. -/
def liveA (ver : Nat) : Option AObj → Option (List AV)
  | some (.arr v cells) => match Nat.beq v ver with | true => some cells | false => bad "stale"
  | _ => bad "no array"
def cellsAt (σ : St) (id ver : Nat) : Option (List AV) := liveA ver (σ.get id)

/-- The cells of a row that is read only. -/
def roAt : Option AObj → Option (List AV)
  | some (.ro cells) => some cells
  | _ => bad "no row"

def rowAt (cells : List AV) (off n : Nat) : Option (List AV) :=
  match Nat.ble (off + n) cells.length with
  | true => some ((cells.drop off).take n)
  | false => bad "row"

def spliceAt (cells : List AV) (off : Nat) (cs : List AV) : List AV := cells.take off ++ cs ++ cells.drop (off + cs.length)

def aggOf : Option (List AV) → Option AV
  | some cs => some (.agg cs)
  | none => none
def loadCells (cells : List AV) (off : Nat) (n : Option Nat) : Option Bool → Option AV
  | some true => match n with
    | some n => aggOf (rowAt cells off n)
    | none => none
  | some false => cells[off]?
  | none => bad "load"
def loadA (P : Tb) (t : TypeId) (v : AV) (σ : St) : Option AV :=
  match v with
  | .ptr id ver off => match cellsAt σ id ver with
    | some cells => loadCells cells off (sizeA P t) (isAggA P t)
    | none => none
  | .rptr id off => match roAt (σ.get id) with
    | some cells => loadCells cells off (sizeA P t) (isAggA P t)
    | none => none
  | _ => bad "load: no pointer"

def storeCells (id ver off : Nat) (cells xs : List AV) (σ : St) (n : Nat) : Option St :=
  match Nat.beq xs.length n && xs.all AV.one && Nat.ble (off + n) cells.length with
  | true => forceL (spliceAt cells off xs) fun cs => some (σ.put id (.arr ver cs))
  | false => bad "store"
def storeA (P : Tb) (t : TypeId) (v x : AV) (σ : St) : Option St :=
  match v with
  | .ptr id ver off => match cellsAt σ id ver, sizeA P t with
    | some cells, some n => storeCells id ver off cells x.cells σ n
    | _, _ => bad "store"
  | _ => bad "store: no pointer"

def newArr (cells : List AV) (σ : St) : Option (Nat × St) :=
  match cells.all AV.one with
  | true => σ.new (.arr 0 cells)
  | false => bad "cells"

/-- Parts laid into a row of zero cells. -/
def fillA (place : Nat → Option (Nat × Nat)) (cells : List AV) : List (Nat × AV) → Option (List AV)
  | [] => some cells
  | p :: rest => match place p.1 with
    | none => bad "fill"
    | some q => match Nat.beq p.2.cells.length q.2 && Nat.ble (q.1 + q.2) cells.length with
      | true => fillA place (spliceAt cells q.1 p.2.cells) rest
      | false => bad "fill: size"

def placesA (P : Tb) : List Field → Option (List (Nat × Nat))
  | [] => some []
  | f :: fs => match sizeA P f.type with
    | some n => match placesA P fs with
      | some l => some ((f.offset, n) :: l)
      | none => none
    | none => none

def evParts (fr : Fr) : List (Nat × Operand) → Option (List (Nat × AV))
  | [] => some []
  | p :: xs => match evO fr p.2 with
    | some v => match evParts fr xs with
      | some vs => some ((p.1, v) :: vs)
      | none => none
    | none => none

def buildAt (z : List AV) (parts : List (Nat × AV)) : Option (List (Nat × Nat)) → Option AV
  | some pl => aggOf (fillA (pl[·]?) z parts)
  | none => none
def buildArr (z : List AV) (parts : List (Nat × AV)) : Option Nat → Option AV
  | some n => aggOf (fillA (fun i => some (i * n, n)) z parts)
  | none => none
def buildA (P : Tb) (t : TypeId) (parts : List (Nat × AV)) : Option AV :=
  match zeroA P t with
  | some z => match und P t with
    | some (.struct fields) => buildAt z.cells parts (placesA P fields.toList)
    | some (.array _ elem) => buildArr z.cells parts (sizeA P elem)
    | _ => bad "build"
  | none => bad "build"

def repeatA (zero : List AV) : Nat → List AV
  | 0 => []
  | n + 1 => zero ++ repeatA zero n

def slOf (len cap n : Nat) (ex : Bool) : Option (Nat × St) → Option (AV × St)
  | some (id, σ) => some (.sl id 0 0 len cap n ex, σ)
  | none => none
def freshSl (len cap n : Nat) (ex : Bool) (σ : St) : Option (List AV) → Option (AV × St)
  | some cells => slOf len cap n ex (newArr cells σ)
  | none => none
def buildSliceA (P : Tb) (t : TypeId) (len : Nat) (parts : List (Nat × AV)) (σ : St) : Option (AV × St) :=
  match und P t with
  | some (.slice elem) => match sizeA P elem, zeroA P elem with
    | some n, some z => match Nat.beq z.cells.length n && Nat.blt 0 n && Nat.ble (len * n) 1048576 with
      | true => freshSl len len n true σ (fillA (fun i => some (i * n, n)) (repeatA z.cells len) parts)
      | false => bad "buildSlice"
    | _, _ => bad "buildSlice"
  | _ => bad "buildSlice"

def fieldAt (fields : Array Field) (id ver off f : Nat) (P : Tb) : Option AV :=
  match fields[f]? with
  | some fl => match sizeA P fl.type with
    | some n => match Nat.blt 0 n with
      | true => some (mkPtr id ver (off + fl.offset))
      | false => bad "fieldAddr: no size"
    | none => none
  | none => bad "fieldAddr"
def fieldAtR (fields : Array Field) (id off f : Nat) (P : Tb) : Option AV :=
  match fields[f]? with
  | some fl => match sizeA P fl.type with
    | some n => match Nat.blt 0 n with
      | true => some (.rptr id (off + fl.offset))
      | false => bad "fieldAddr: no size"
    | none => none
  | none => bad "fieldAddr"
def fieldAddrA (P : Tb) (s : TypeId) (x : AV) (f : Nat) : Option AV :=
  match x with
  | .ptr id ver off => match und P s with
    | some (.struct fields) => fieldAt fields id ver off f P
    | _ => bad "fieldAddr"
  | .rptr id off => match und P s with
    | some (.struct fields) => fieldAtR fields id off f P
    | _ => bad "fieldAddr"
  | _ => bad "fieldAddr"

def partA (P : Tb) (t : TypeId) (cs : List AV) (off : Nat) : Option AV := loadCells cs off (sizeA P t) (isAggA P t)

def fieldA (P : Tb) (t : TypeId) (x : AV) (f : Nat) : Option AV :=
  match x with
  | .agg cs => match und P t with
    | some (.struct fields) => match fields[f]? with
      | some fl => partA P fl.type cs fl.offset
      | none => bad "field"
    | _ => bad "field"
  | _ => bad "field"

/-- A whole number as an index into so many. -/
def idx (i : Int) (len : Nat) : Option Nat :=
  match i with
  | .ofNat k => match Nat.blt k len with
    | true => some k
    | false => bad "index out of range"
  | .negSucc _ => bad "index below 0"

def indexSl (id ver off len lo sz : Nat) (i : Int) (n : Option Nat) : Option (List AV) → Option AV
  | some _ => match n with
    | some n => match Nat.beq n sz && Nat.ble len lo with
      | true => match idx i len with
        | some k => some (mkPtr id ver (off + k * n))
        | none => none
      | false => bad "indexAddr"
    | none => none
  | none => none
def indexPtr (id ver off len : Nat) (i : Int) : Option Nat → Option AV
  | some n => match idx i len with
    | some k => some (mkPtr id ver (off + k * n))
    | none => none
  | none => none
def indexR (id off len : Nat) (i : Int) : Option Nat → Option AV
  | some n => match idx i len with
    | some k => some (.rptr id (off + k * n))
    | none => none
  | none => none
def indexAddrA (P : Tb) (t : TypeId) (x i : AV) (σ : St) : Option AV :=
  match i with
  | .int _ i => match x with
    | .sl id ver off len lo sz _ => match und P t with
      | some (.slice elem) => indexSl id ver off len lo sz i (sizeA P elem) (cellsAt σ id ver)
      | _ => bad "indexAddr"
    | .ptr id ver off => match und P t with
      | some (.array len elem) => indexPtr id ver off len i (sizeA P elem)
      | _ => bad "indexAddr"
    | .rsl id off len => match und P t with
      | some (.slice elem) => indexR id off len i (sizeA P elem)
      | _ => bad "indexAddr"
    | .rptr id off => match und P t with
      | some (.array len elem) => indexR id off len i (sizeA P elem)
      | _ => bad "indexAddr"
    | _ => bad "indexAddr"
  | _ => bad "indexAddr"

def byteAt (s : ByteArray) : Option Nat → Option AV
  | some k => match s[k]? with
    | some b => some (.int .u8 b.toNat)
    | none => bad "index"
  | none => none
def elemAt (P : Tb) (elem : TypeId) (cs : List AV) (n : Option Nat) : Option Nat → Option AV
  | some k => match n with
    | some n => partA P elem cs (k * n)
    | none => none
  | none => none
def indexA (P : Tb) (t : TypeId) (x i : AV) : Option AV :=
  match i with
  | .int _ i => match x with
    | .agg cs => match und P t with
      | some (.array len elem) => elemAt P elem cs (sizeA P elem) (idx i len)
      | _ => bad "index"
    | .str s => match und P t with
      | some .string => byteAt s (idx i s.size)
      | _ => bad "index"
    | _ => bad "index"
  | _ => bad "index"

def natOf : AV → Option Nat
  | .int _ (.ofNat k) => some k
  | _ => bad "bound"

def boundA (d : Nat) : Option AV → Option Nat
  | none => some d
  | some v => natOf v

def sliceStr (s : ByteArray) : Option Nat → Option Nat → Option AV
  | some l, some h => match Nat.ble l h && Nat.ble h s.size with
    | true => some (.str (s.extract l h))
    | false => bad "slice"
  | _, _ => none
def sliceNil : Option Nat → Option Nat → Option Nat → Option AV
  | some 0, some 0, some 0 => some .nils
  | _, _, _ => bad "slice of nil"
def slice2 (id ver off cap sz : Nat) (ex : Bool) : Option Nat → Option Nat → Option Nat → Option AV
  | some l, some h, some n => match Nat.beq n sz && Nat.ble l h && Nat.ble h cap with
    | true => some (mkSl id ver (off + l * sz) (h - l) (cap - l) sz ex)
    | false => bad "slice"
  | _, _, _ => none
def slice3 (id ver off cap sz : Nat) (m : Nat) : Option Nat → Option Nat → Option Nat → Option AV
  | some l, some h, some n => match Nat.beq n sz && Nat.ble l h && Nat.ble h m && Nat.ble m cap with
    | true => some (mkSl id ver (off + l * sz) (h - l) (m - l) sz true)
    | false => bad "slice"
  | _, _, _ => none
def sliceSl (P : Tb) (elem : TypeId) (id ver off len cap sz : Nat) (ex : Bool) (lo hi : Option AV) : Option AV → Option AV
  | none => slice2 id ver off cap sz ex (boundA 0 lo) (boundA len hi) (sizeA P elem)
  | some m => match hi with
    | some h => match natOf m with
      | some m => slice3 id ver off cap sz m (boundA 0 lo) (natOf h) (sizeA P elem)
      | none => none
    | none => bad "slice"
def sliceR2 (id off len : Nat) : Option Nat → Option Nat → Option Nat → Option AV
  | some l, some h, some n => match Nat.ble l h && Nat.ble h len with
    | true => some (.rsl id (off + l * n) (h - l))
    | false => bad "slice"
  | _, _, _ => none
def sliceR3 (id off len m : Nat) : Option Nat → Option Nat → Option Nat → Option AV
  | some l, some h, some n => match Nat.ble l h && Nat.ble h m && Nat.ble m len with
    | true => match Nat.beq m l with
      | true => some .esl
      | false => some (.rsl id (off + l * n) (h - l))
    | false => bad "slice"
  | _, _, _ => none
def sliceR (P : Tb) (elem : TypeId) (id off len : Nat) (lo hi : Option AV) : Option AV → Option AV
  | none => sliceR2 id off len (boundA 0 lo) (boundA len hi) (sizeA P elem)
  | some m => match hi with
    | some h => match natOf m with
      | some m => sliceR3 id off len m (boundA 0 lo) (natOf h) (sizeA P elem)
      | none => none
    | none => bad "slice"
def sliceA (P : Tb) (t : TypeId) (x : AV) (lo hi mx : Option AV) : Option AV :=
  match x with
  | .str s => match und P t with
    | some .string => match mx with
      | none => sliceStr s (boundA 0 lo) (boundA s.size hi)
      | some _ => bad "slice"
    | _ => bad "slice"
  | .nils => match und P t with
    | some (.slice elem) => match sizeA P elem with
      | some _ => match mx, hi with
        | some _, none => bad "slice"
        | _, _ => sliceNil (boundA 0 lo) (boundA 0 hi) (boundA 0 mx)
      | none => none
    | _ => bad "slice"
  | .sl id ver off len cap sz ex => match und P t with
    | some (.slice elem) => sliceSl P elem id ver off len cap sz ex lo hi mx
    | _ => bad "slice"
  | .rsl id off len => match und P t with
    | some (.slice elem) => sliceR P elem id off len lo hi mx
    | _ => bad "slice"
  | _ => bad "slice"

/-- The elements of a slice that is read: how many, and their cells. -/
def elemsIn (off len lo sz n : Nat) : Option (List AV) → Option (Nat × List AV)
  | some cells => match Nat.beq sz n && Nat.ble len lo with
    | true => match rowAt cells off (len * n) with
      | some r => some (len, r)
      | none => none
    | false => bad "elems"
  | none => none
def elemsR (off len n : Nat) : Option (List AV) → Option (Nat × List AV)
  | some cells => match rowAt cells off (len * n) with
    | some r => some (len, r)
    | none => none
  | none => none
def elemsA (x : AV) (n : Nat) (σ : St) : Option (Nat × List AV) :=
  match x with
  | .nils => some (0, [])
  | .sl id ver off len lo sz _ => elemsIn off len lo sz n (cellsAt σ id ver)
  | .rsl id off len => elemsR off len n (roAt (σ.get id))
  | .esl => some (0, [])
  | _ => bad "elems"

def appendNil (k n : Nat) (new : List AV) (σ : St) : Option (AV × St) :=
  match Nat.beq k 0 with
  | true => some (.nils, σ)
  | false => match Nat.ble k 16777216 with
    | true => slOf k k n false (newArr new σ)
    | false => bad "append: long"
def appendIn (id ver off len lo n : Nat) (ex : Bool) (cells : List AV) (k : Nat) (new : List AV) (σ : St) : Option (AV × St) :=
  match Nat.beq k 0 with
  | true => some (.sl id ver off len lo n ex, σ)
  | false => match Nat.ble (off + (len + k) * n) cells.length with
    | true => some (mkSl id ver off (len + k) lo n ex, σ.put id (.arr ver (spliceAt cells (off + len * n) new)))
    | false => match Nat.beq (off + len * n) cells.length with
      | true => some (mkSl id ver off (len + k) lo n ex, σ.put id (.arr ver (cells ++ new)))
      | false => bad "append: in place"
def appendNew (n len k : Nat) (new : List AV) (σ : St) : Option (List AV) → Option (AV × St)
  | some old => slOf (len + k) (len + k) n false (newArr (old ++ new) σ)
  | none => none
def appendEnd (id ver off len lo n : Nat) (cells : List AV) (k : Nat) (new : List AV) (σ : St) : Option (AV × St) :=
  match Nat.beq off 0 && Nat.beq (len * n) cells.length && Nat.blt 0 lo with
  | true => some (mkSl id (ver + 1) 0 (len + k) (len + k) n false, σ.put id (.arr (ver + 1) (cells ++ new)))
  | false => bad "append: not at the end"
def appendSl (id ver off len lo sz : Nat) (ex : Bool) (n k : Nat) (new : List AV) (σ : St) : Option (List AV) → Option (AV × St)
  | some cells => match Nat.beq sz n && Nat.ble len lo && Nat.ble (len + k) 16777216 with
    | true => match Nat.ble (len + k) lo with
      | true => appendIn id ver off len lo n ex cells k new σ
      | false => match ex with
        | true => appendNew n len k new σ (rowAt cells off (len * n))
        | false => appendEnd id ver off len lo n cells k new σ
    | false => bad "append: size"
  | none => none
def appendE (k n : Nat) (new : List AV) (σ : St) : Option (AV × St) :=
  match Nat.beq k 0 with
  | true => some (.esl, σ)
  | false => appendNil k n new σ
def appendTo (s : AV) (n b zn : Nat) (σ : St) : Option (Nat × List AV) → Option (AV × St)
  | some (k, new) => match Nat.blt 0 n && Nat.ble b 65536 && Nat.blt 0 b && Nat.beq zn n && new.all AV.one with
    | true => match s with
      | .nils => appendNil k n new σ
      | .esl => appendE k n new σ
      | .sl id ver off len lo sz ex => appendSl id ver off len lo sz ex n k new σ (cellsAt σ id ver)
      | _ => bad "append"
    | false => bad "append: width"
  | none => none
def appendA (P : Tb) (argTypes : List TypeId) (args : List AV) (σ : St) : Option (AV × St) :=
  match argTypes, args with
  | [st, xt], [s, x] => match und P st, und P xt with
    | some (.slice elem), some (.slice _) => match sizeA P elem, bytesA P elem, zeroA P elem with
      | some n, some b, some z => appendTo s n b z.cells.length σ (elemsA x n σ)
      | _, _, _ => bad "append"
    | _, _ => bad "append"
  | _, _ => bad "append"

def copyIn (id ver off len lo sz n k : Nat) (new : List AV) (σ : St) : Option (List AV) → Option (AV × St)
  | some cells => match Nat.beq sz n && Nat.ble len lo && Nat.ble (off + len * n) cells.length && new.all AV.one with
    | true => some (.int .i64 (Nat.min k len), σ.put id (.arr ver (spliceAt cells off (new.take (Nat.min k len * n)))))
    | false => bad "copy"
  | none => none
def copyTo (d : AV) (n : Nat) (σ : St) : Option (Nat × List AV) → Option (AV × St)
  | some (k, new) => match d with
    | .nils => some (.int .i64 0, σ)
    | .sl id ver off len lo sz _ => copyIn id ver off len lo sz n k new σ (cellsAt σ id ver)
    | _ => bad "copy"
  | none => none
def copyA (P : Tb) (argTypes : List TypeId) (args : List AV) (σ : St) : Option (AV × St) :=
  match argTypes, args with
  | dt :: _, [d, s] => match und P dt with
    | some (.slice elem) => match sizeA P elem with
      | some n => copyTo d n σ (elemsA s n σ)
      | none => none
    | _ => bad "copy"
  | _, _ => bad "copy"

def clearIn (id ver off len lo sz : Nat) (z : AV) (σ : St) : Option (List AV) → Option St
  | some cells => match Nat.beq z.cells.length sz && z.cells.all AV.one && Nat.ble len lo && Nat.ble (off + len * sz) cells.length with
    | true => some (σ.put id (.arr ver (spliceAt cells off (repeatA z.cells len))))
    | false => bad "clear"
  | none => none
def clearA (P : Tb) (argTypes : List TypeId) (args : List AV) (σ : St) : Option St :=
  match argTypes, args with
  | [t], [x] => match und P t with
    | some (.slice elem) => match x with
      | .nils => some σ
      | .sl id ver off len lo sz _ => match Nat.beq len 0 with
        | true => some σ
        | false => match zeroA P elem with
          | some z => clearIn id ver off len lo sz z σ (cellsAt σ id ver)
          | none => none
      | _ => bad "clear"
    | _ => bad "clear"
  | _, _ => bad "clear"

def mapAt : Option AObj → Option (List (AV × AV))
  | some (.mp es) => some es
  | _ => bad "no map"
def lenA (P : Tb) (argTypes : List TypeId) (args : List AV) (σ : St) : Option AV :=
  match argTypes, args with
  | [t], [x] => match und P t with
    | some .string => match x with
      | .str s => some (mkInt .i64 s.size)
      | _ => bad "len"
    | some (.slice _) => match x with
      | .nils => some (.int .i64 0)
      | .sl _ _ _ len _ _ _ => some (mkInt .i64 len)
      | .rsl _ _ len => some (mkInt .i64 len)
      | .esl => some (.int .i64 0)
      | _ => bad "len"
    | some (.map _ _) => match x with
      | .nilm => some (.int .i64 0)
      | .mp id => match mapAt (σ.get id) with
        | some es => some (mkInt .i64 es.length)
        | none => none
      | _ => bad "len"
    | _ => bad "len"
  | _, _ => bad "len"

/-- Keys that are told apart by sight. -/
def sameKey : AV → AV → Option Bool
  | .int k a, .int k' b => if k = k' then some (a == b) else bad "key"
  | .str a, .str b => some (a == b)
  | .bool a, .bool b => some (a == b)
  | _, _ => bad "key"
def findKey (k : AV) : List (AV × AV) → Nat → Option (Option (Nat × AV))
  | [], _ => some none
  | (a, v) :: es, i => match sameKey k a with
    | some true => some (some (i, v))
    | some false => findKey k es (i + 1)
    | none => none
def plainKey (P : Tb) (t : TypeId) (k : AV) : Bool :=
  match und P t, k with
  | some (.int _), .int _ _ | some .string, .str _ | some .bool, .bool _ => true
  | _, _ => false

def entriesA (x : AV) (σ : St) : Option (List (AV × AV)) :=
  match x with
  | .nilm => some []
  | .mp id => mapAt (σ.get id)
  | _ => bad "entries"
def lookIn (ok : Bool) (z : AV) : Option (Option (Nat × AV)) → Option AV
  | some (some p) => some (match ok with | true => .tup [p.2, .bool true] | false => p.2)
  | some none => some (match ok with | true => .tup [z, .bool false] | false => z)
  | none => none
def lookupA (P : Tb) (t : TypeId) (x k : AV) (ok : Bool) (σ : St) : Option AV :=
  match und P t with
  | some (.map kt et) => match entriesA x σ, plainKey P kt k, zeroA P et with
    | some es, true, some z => lookIn ok z (findKey k es 0)
    | _, _, _ => bad "lookup"
  | _ => bad "lookup"

def updIn (id : Nat) (k v : AV) (es : List (AV × AV)) (σ : St) : Option (Option (Nat × AV)) → Option St
  | some (some p) => some (σ.put id (.mp (es.set p.1 (k, v))))
  | some none => some (σ.put id (.mp (es ++ [(k, v)])))
  | none => none
def updateA (P : Tb) (t : TypeId) (x k v : AV) (σ : St) : Option St :=
  match x with
  | .mp id => match und P t with
    | some (.map kt _) => match mapAt (σ.get id), plainKey P kt k with
      | some es, true => updIn id k v es σ (findKey k es 0)
      | _, _ => bad "update"
    | _ => bad "update"
  | _ => bad "update"

def entIn (id : Nat) (k z : AV) (es : List (AV × AV)) (σ : St) : Option (Option (Nat × AV)) → Option (AV × St)
  | some (some p) => some (.tup [p.2, .int .i64 p.1], σ.put id (.mp (es.set p.1 (k, p.2))))
  | some none => some (.tup [z, .int .i64 es.length], σ.put id (.mp (es ++ [(k, z)])))
  | none => none
def entryA (P : Tb) (t : TypeId) (x k : AV) (σ : St) : Option (AV × St) :=
  match x with
  | .mp id => match und P t with
    | some (.map kt et) => match mapAt (σ.get id), plainKey P kt k, zeroA P et with
      | some es, true, some z => entIn id k z es σ (findKey k es 0)
      | _, _, _ => bad "entry"
    | _ => bad "entry"
  | _ => bad "entry"

def entryStoreA (x s v : AV) (σ : St) : Option St :=
  match x with
  | .mp id => match natOf s, mapAt (σ.get id) with
    | some i, some es => match es[i]? with
      | some p => some (σ.put id (.mp (es.set i (p.1, v))))
      | none => bad "entryStore"
    | _, _ => bad "entryStore"
  | _ => bad "entryStore"

def makeSliceA (P : Tb) (t : TypeId) (l c : AV) (σ : St) : Option (AV × St) :=
  match und P t, natOf l, natOf c with
  | some (.slice elem), some l, some c =>
    match sizeA P elem, bytesA P elem, zeroA P elem with
    | some n, some b, some z =>
      if z.cells.length = n ∧ 0 < n ∧ l ≤ c ∧ c ≤ 16777216 ∧ b ≤ 65536 then
        match newArr (repeatA z.cells c) σ with
        | some (id, σ) => some (.sl id 0 0 l c n true, σ)
        | none => none
      else bad "makeSlice"
    | _, _, _ => bad "makeSlice"
  | _, _, _ => bad "makeSlice"

/-- '==' by the type. -/
def eqLeaf (d : Option TypeDesc) (x y : AV) : Option Bool :=
  match d with
  | some .bool => match x, y with
    | .bool a, .bool b => some (a == b)
    | _, _ => bad "eq"
  | some (.int _) => match x, y with
    | .int k a, .int k' b => match decide (k = k') with
      | true => some (a == b)
      | false => bad "eq"
    | _, _ => bad "eq"
  | some .string => match x, y with
    | .str a, .str b => some (a.toList == b.toList)
    | _, _ => bad "eq"
  | some (.pointer _) => match x, y with
    | .nilp, .nilp => some true
    | .nilp, .ptr _ _ _ => some false
    | .ptr _ _ _, .nilp => some false
    | .nilp, .rptr _ _ => some false
    | .rptr _ _, .nilp => some false
    | _, _ => bad "eq"
  | some (.slice _) => match x, y with
    | .nils, .nils => some true
    | .nils, .sl _ _ _ _ _ _ _ => some false
    | .sl _ _ _ _ _ _ _, .nils => some false
    | .nils, .rsl _ _ _ => some false
    | .rsl _ _ _, .nils => some false
    | .nils, .esl => some false
    | .esl, .nils => some false
    | _, _ => bad "eq"
  | some (.map _ _) => match x, y with
    | .nilm, .nilm => some true
    | .nilm, .mp _ => some false
    | .mp _, .nilm => some false
    | _, _ => bad "eq"
  | some (.func _ _ _) => match x, y with
    | .nilf, .nilf => some true
    | .nilf, .fn _ _ _ => some false
    | .fn _ _ _, .nilf => some false
    | _, _ => bad "eq"
  | _ => bad "eq"
def eqFieldsA (P : Tb) (eq : TypeId → AV → AV → Option Bool) (xs ys : List AV) : List Field → Option Bool
  | [] => some true
  | f :: fs => match decide (f.name ≠ "_") with
    | false => eqFieldsA P eq xs ys fs
    | true => match partA P f.type xs f.offset, partA P f.type ys f.offset with
      | some a, some b => match eq f.type a b with
        | some true => eqFieldsA P eq xs ys fs
        | some false => some false
        | none => none
      | _, _ => none
def eqElemsA (P : Tb) (eq : TypeId → AV → AV → Option Bool) (elem : TypeId) (n : Nat) (xs ys : List AV) : List Nat → Option Bool
  | [] => some true
  | i :: l => match partA P elem xs (i * n), partA P elem ys (i * n) with
    | some a, some b => match eq elem a b with
      | some true => eqElemsA P eq elem n xs ys l
      | some false => some false
      | none => none
    | _, _ => none
def eqStruct (P : Tb) (eq : TypeId → AV → AV → Option Bool) (xs ys : List AV) (stood : Bool) : Option TypeDesc → Option Bool
  | some (.struct fields) => match stood with
    | false => eqFieldsA P eq xs ys fields.toList
    | true => bad "eq: stood in"
  | some (.array len elem) => match sizeA P elem with
    | some n => eqElemsA P eq elem n xs ys (List.range len)
    | none => none
  | _ => bad "eq"
def stoodA (P : Tb) (t : TypeId) : Bool := ((P.get t).map (·.stood)).getD true
def eqgA (P : Tb) (t : TypeId) : Bool := ((P.get t).map (·.eqg)).getD true
def eqA (P : Tb) : Nat → TypeId → AV → AV → Option Bool
  | 0, _, _, _ => bad "eq: deep"
  | d + 1, t, x, y => match x with
    | .agg xs => match y with
      | .agg ys => eqStruct P (eqA P d) xs ys (stoodA P t) (und P t)
      | _ => bad "eq"
    | x => eqLeaf (und P t) x y

abbrev Mb := IntKind → Int → IntKind → Int → Option AV
def sameKind (k k' : IntKind) (v : AV) : Option AV := match decide (k = k') with | true => some v | false => bad "kinds"
def bAdd : Mb := fun k a k' b => sameKind k k' (mkInt k (k.wrap (a + b)))
def bSub : Mb := fun k a k' b => sameKind k k' (mkInt k (k.wrap (a - b)))
def bMul : Mb := fun k a k' b => sameKind k k' (mkInt k (k.wrap (a * b)))
def bQuo : Mb := fun k a k' b => match decide (b = 0) with | false => sameKind k k' (mkInt k (k.wrap (a.tdiv b))) | true => bad "division"
def bRem : Mb := fun k a k' b => match decide (b = 0) with | false => sameKind k k' (mkInt k (a.tmod b)) | true => bad "division"
def bAnd : Mb := fun k a k' b => sameKind k k' (mkInt k (k.wrap (BitVec.ofInt k.bits a &&& BitVec.ofInt k.bits b).toNat))
def bOr : Mb := fun k a k' b => sameKind k k' (mkInt k (k.wrap (BitVec.ofInt k.bits a ||| BitVec.ofInt k.bits b).toNat))
def bShl : Mb := fun k a _ b => match decide (b < 0) with | false => some (mkInt k (k.wrap (a * 2 ^ (min b.toNat k.bits)))) | true => bad "shift"
def bShr : Mb := fun k a _ b => match decide (b < 0) with | false => some (mkInt k (a.fdiv (2 ^ (min b.toNat k.bits)))) | true => bad "shift"
def bEql : Mb := fun k a k' b => sameKind k k' (.bool (a == b))
def bNeq : Mb := fun k a k' b => sameKind k k' (.bool (a != b))
def bLss : Mb := fun k a k' b => sameKind k k' (.bool (decide (a < b)))
def bLeq : Mb := fun k a k' b => sameKind k k' (.bool (decide (a ≤ b)))
def bGtr : Mb := fun k a k' b => sameKind k k' (.bool (decide (a > b)))
def bGeq : Mb := fun k a k' b => sameKind k k' (.bool (decide (a ≥ b)))
def bBad : Mb := fun _ _ _ _ => bad "binary"
def intBin (op : BinOp) : Mb := match op with
  | .add => bAdd | .sub => bSub | .mul => bMul | .quo => bQuo | .rem => bRem | .and => bAnd | .or => bOr | .shl => bShl | .shr => bShr
  | .eql => bEql | .neq => bNeq | .lss => bLss | .leq => bLeq | .gtr => bGtr | .geq => bGeq | _ => bBad
def strBin (op : BinOp) (a b : ByteArray) : Option AV := match op with
  | .add => match Nat.ble (a.size + b.size) 1000000000 with | true => some (.str (a ++ b)) | false => bad "concat"
  | .eql => some (.bool (a.toList == b.toList))
  | .neq => some (.bool !(a.toList == b.toList))
  | _ => bad "strings"
def otherBin (P : Tb) (op : BinOp) (t : TypeId) (x y : AV) : Option AV :=
  match eqgA P t with
  | true => bad "eq guard"
  | false => match op with
    | .eql => (eqA P 5 t x y).map .bool
    | .neq => (eqA P 5 t x y).map fun b => .bool !b
    | _ => bad "binary"
def binA (P : Tb) (op : BinOp) (t : TypeId) (x y : AV) : Option AV :=
  match x with
  | .int k a => match y with
    | .int k' b => intBin op k a k' b
    | _ => bad "binary"
  | .str a => match y with
    | .str b => strBin op a b
    | _ => bad "binary"
  | x => otherBin P op t x y

def convA (P : Tb) (src dst : TypeId) (x : AV) : Option AV :=
  match und P src, und P dst, x with
  | some _, some (.int k), .int _ n => some (.int k (k.wrap n))
  | some _, some .string, .str s => some (.str s)
  | _, _, _ => bad "convert"

def callArgs (f : AV) (args : List AV) : Option AN :=
  match f with
  | .fn f first cap => some (.enter f (first ++ args ++ cap))
  | .yld l => some (.round l args)
  | _ => bad "call"

def one1 (fr : Fr) (x : Operand) (k : AV → Option (AN × St)) : Option (AN × St) :=
  match evO fr x with
  | some v => k v
  | none => none
def val1 (σ : St) : Option AV → Option (AN × St)
  | some v => some (.val v, σ)
  | none => none
def val2 : Option (AV × St) → Option (AN × St)
  | some (v, σ) => some (.val v, σ)
  | none => none
def unit1 : Option St → Option (AN × St)
  | some σ => some (.val (.tup []), σ)
  | none => none
def opPick (a b : AV) (σ : St) : AV → Option (AN × St)
  | .bool true => some (.val a, σ)
  | .bool false => some (.val b, σ)
  | _ => bad "pick"
def opNew (cells : List AV) (σ : St) : Option (AN × St) :=
  match newArr cells σ with
  | some (id, σ) => some (.val (.ptr id 0 0), σ)
  | none => none
def opAlloc (P : Tb) (e : TypeId) (σ : St) : Option (AN × St) :=
  match zeroA P e with
  | some z => opNew z.cells σ
  | none => bad "alloc"
def opBuild (P : Tb) (t : TypeId) (σ : St) : Option (List (Nat × AV)) → Option (AN × St)
  | some l => val1 σ (buildA P t l)
  | none => none
def opBuildSlice (P : Tb) (t : TypeId) (len : Nat) (σ : St) : Option (List (Nat × AV)) → Option (AN × St)
  | some l => val2 (buildSliceA P t len l σ)
  | none => none
def opNil (σ : St) : AV → Option (AN × St)
  | .ptr i v o => some (.val (.ptr i v o), σ)
  | .rptr i o => some (.val (.rptr i o), σ)
  | .fn f a b => some (.val (.fn f a b), σ)
  | .yld l => some (.val (.yld l), σ)
  | _ => bad "nilCheck"
def opNot (σ : St) : AV → Option (AN × St)
  | .bool b => some (.val (.bool !b), σ)
  | _ => bad "not"
def opFunc (f : FuncId) (σ : St) : Option (List AV) → Option (List AV) → Option (AN × St)
  | some a, some b => some (.val (.fn f a b), σ)
  | _, _ => none
def opMakeMap (σ : St) : Option (AN × St) :=
  match σ.new (.mp []) with
  | some (id, σ) => some (.val (.mp id), σ)
  | none => none
def evM (fr : Fr) : Option Operand → Option (Option AV)
  | none => some none
  | some y => match evO fr y with
    | some v => some (some v)
    | none => none
def opSlice (P : Tb) (t : TypeId) (x : AV) (σ : St) : Option (Option AV) → Option (Option AV) → Option (Option AV) → Option (AN × St)
  | some lo, some hi, some mx => val1 σ (sliceA P t x lo hi mx)
  | _, _, _ => none
def opRange (P : Tb) (t : TypeId) (σ : St) : AV → Option (AN × St)
  | .str s => match und P t with
    | some .string => match σ.new (.iter s 0) with
      | some (id, σ) => some (.val (.ptr id 0 0), σ)
      | none => none
    | _ => bad "range"
  | _ => bad "range"
def opNext (σ : St) : AV → Option (AN × St)
  | .ptr id 0 0 => match σ.get id with
    | some (.iter s pos) =>
      match Nat.blt pos s.size with
      | true => some (.val (.tup [.bool true, .int .i64 pos, .int .i32 (Utf8.decode s pos).1]), σ.put id (.iter s (pos + (Utf8.decode s pos).2)))
      | false => some (.val (.tup [.bool false]), σ)
    | _ => bad "next"
  | _ => bad "next"
def opExtract (i : Nat) (σ : St) : AV → Option (AN × St)
  | .tup vs => val1 σ vs[i]?
  | _ => bad "extract"
def opCallee (P : Tb) (fr : Fr) (c : Call) (σ : St) (args : List AV) : Callee → Option (AN × St)
  | .value f => match evO fr f with
    | some f => match callArgs f args with
      | some n => some (n, σ)
      | none => none
    | none => none
  | .builtin .len => val1 σ (lenA P c.argTypes.toList args σ)
  | .builtin .append => val2 (appendA P c.argTypes.toList args σ)
  | .builtin .clear => unit1 (clearA P c.argTypes.toList args σ)
  | .builtin .copy => val2 (copyA P c.argTypes.toList args σ)
  | _ => bad "builtin"
def opCall (P : Tb) (fr : Fr) (c : Call) (σ : St) : Option (AN × St) :=
  match evOs fr c.args.toList with
  | some args => opCallee P fr c σ args c.callee
  | none => none

/-- One operation, handler by handler. -/
abbrev Mop := Tb → Fr → Oper → St → Option (AN × St)
def hMove (x : Operand) : Mop := fun _ fr _ σ => val1 σ (evO fr x)
def hPick (c a b : Operand) : Mop := fun _ fr _ σ => one1 fr c fun c => one1 fr a fun a => one1 fr b fun b => opPick a b σ c
def hAlloc (e : TypeId) : Mop := fun P _ _ σ => opAlloc P e σ
def hBox (_ : TypeId) (x : Operand) : Mop := fun _ fr _ σ => one1 fr x fun v => opNew v.cells σ
def hBuild (t : TypeId) (parts : Array (Nat × Operand)) : Mop := fun P fr _ σ => opBuild P t σ (evParts fr parts.toList)
def hBuildSlice (t : TypeId) (len : Nat) (parts : Array (Nat × Operand)) : Mop := fun P fr _ σ => opBuildSlice P t len σ (evParts fr parts.toList)
def hUpdate (t : TypeId) (m k x : Operand) : Mop := fun P fr _ σ => one1 fr m fun m => one1 fr k fun k => one1 fr x fun x => unit1 (updateA P t m k x σ)
def hLoad (t : TypeId) (a : Operand) : Mop := fun P fr _ σ => one1 fr a fun v => val1 σ (loadA P t v σ)
def hStore (t : TypeId) (a x : Operand) : Mop := fun P fr _ σ => one1 fr a fun v => one1 fr x fun x => unit1 (storeA P t v x σ)
def hNil (x : Operand) : Mop := fun _ fr _ σ => one1 fr x fun v => opNil σ v
def hBin (op : BinOp) (t : TypeId) (x y : Operand) (_ : TypeId) : Mop := fun P fr _ σ => one1 fr x fun x => one1 fr y fun y => val1 σ (binA P op t x y)
def hUn (op : UnOp) (_ : TypeId) (x : Operand) : Mop := fun _ fr _ σ => match op with
  | .not => one1 fr x fun x => opNot σ x
  | _ => bad "unary"
def hConv (s d : TypeId) (x : Operand) : Mop := fun P fr _ σ => one1 fr x fun v => val1 σ (convA P s d v)
def hFunc (fn : Fn) (first cap : Array Operand) : Mop := fun _ fr _ σ => match fn with
  | .func f => opFunc f σ (evOs fr first.toList) (evOs fr cap.toList)
  | _ => bad "function value"
def hMakeMap (_ : TypeId) (r : Option Operand) : Mop := fun _ _ _ σ => match r with
  | none => opMakeMap σ
  | some _ => bad "make map"
def hMakeSlice (t : TypeId) (l c : Operand) : Mop := fun P fr _ σ => one1 fr l fun l => one1 fr c fun c => val2 (makeSliceA P t l c σ)
def hSlice (t : TypeId) (x : Operand) (lo hi mx : Option Operand) : Mop := fun P fr _ σ => one1 fr x fun x => opSlice P t x σ (evM fr lo) (evM fr hi) (evM fr mx)
def hFieldAddr (s : TypeId) (x : Operand) (f : Nat) : Mop := fun P fr _ σ => one1 fr x fun v => val1 σ (fieldAddrA P s v f)
def hField (t : TypeId) (x : Operand) (f : Nat) : Mop := fun P fr _ σ => one1 fr x fun v => val1 σ (fieldA P t v f)
def hIndexAddr (t : TypeId) (x i : Operand) : Mop := fun P fr _ σ => one1 fr x fun x => one1 fr i fun i => val1 σ (indexAddrA P t x i σ)
def hIndex (t : TypeId) (x i : Operand) : Mop := fun P fr _ σ => one1 fr x fun x => one1 fr i fun i => val1 σ (indexA P t x i)
def hLookup (t : TypeId) (x k : Operand) (ok : Bool) : Mop := fun P fr _ σ => one1 fr x fun x => one1 fr k fun k => val1 σ (lookupA P t x k ok σ)
def hEntry (t : TypeId) (m k : Operand) : Mop := fun P fr _ σ => one1 fr m fun m => one1 fr k fun k => val2 (entryA P t m k σ)
def hEntryStore (_ : TypeId) (m s x : Operand) : Mop := fun _ fr _ σ => one1 fr m fun m => one1 fr s fun s => one1 fr x fun x => unit1 (entryStoreA m s x σ)
def hRange (t : TypeId) (x : Operand) : Mop := fun P fr _ σ => one1 fr x fun x => opRange P t σ x
def hNext (it : Operand) (isString : Bool) : Mop := fun _ fr _ σ => match isString with
  | true => one1 fr it fun it => opNext σ it
  | false => bad "next"
def hExtract (t : Operand) (i : Nat) : Mop := fun _ fr _ σ => one1 fr t fun t => opExtract i σ t
def hCall (c : Call) : Mop := fun P fr _ σ => opCall P fr c σ
def hBad : Mop := fun _ _ _ _ => bad "operation"

def hOp (op : Op) : Mop :=
  Op.rec (motive := fun _ => Mop) hMove hMove hPick hAlloc hBox hBuild hBuildSlice hUpdate hLoad hStore (fun _ => hBad) (fun _ => hBad) hNil hBin hUn hConv
    (fun _ _ => hBad) (fun _ _ => hBad) hFunc hMakeMap (fun _ _ => hBad) hMakeSlice hSlice hFieldAddr hField hIndexAddr hIndex hLookup hUpdate hEntry hEntryStore
    hRange hNext (fun _ => hBad) (fun _ _ _ _ => hBad) hExtract hCall (fun _ => hBad) (fun _ => hBad) (fun _ => hBad) (fun _ _ => hBad) (fun _ _ _ => hBad) (fun _ _ => hBad) op
def aop (P : Tb) (fr : Fr) (o : Oper) (σ : St) : Option (AN × St) := hOp o.op P fr o σ

/-- What the evaluator does at one depth. -/
structure Ev where
  code : Code → Fr → St → Option (Xt × Fr × St)
  call : FuncId → List AV → St → Option (AV × St)
  round : Nat → List AV → St → Option (AV × St)

def Fr.put (fr : Fr) (dst : Option Tmp) (v : AV) : Option Fr :=
  match dst with
  | none => some fr
  | some d => match fr with
    | ⟨t, ds, n, ro⟩ => match Nat.blt d n, Nat.blt d lim with
      | true, true => some ⟨t.set 40 d v, ds, n, ro⟩
      | _, _ => bad "temporary"

def yieldedA (ops : Array Oper) (t : Tr AV) (j : Nat) : Option Bool :=
  match (ops[j]?).bind (·.dst) with
  | some d => match getT t d with | .bool b => some b | _ => none
  | none => none

/-- One operation of a region, and what it leads to: its value. -/
def follow (e : Ev) : Option (AN × St) → Option (AV × St)
  | some (.val v, σ) => some (v, σ)
  | some (.enter f args, σ) => e.call f args σ
  | some (.round l args, σ) => e.round l args σ
  | none => none
def exec1 (P : Tb) (e : Ev) (ops : Array Oper) (o : Oper) (fr : Fr) (σ : St) : Option (AV × St) :=
  match Region.wanted o (yieldedA ops fr.tmps) with
  | true => follow e (aop P fr o σ)
  | false => some (.tup [], σ)

def evList (P : Tb) (e : Ev) (ops : Array Oper) : List Oper → Fr → St → Option (Fr × St)
  | [], fr, σ => some (fr, σ)
  | o :: l, fr, σ => match exec1 P e ops o fr σ with
    | some (v, σ) => match fr.put o.dst v with
      | some fr => evList P e ops l fr σ
      | none => none
    | none => none

/-! ### A region that draws its order -/
/-- 0: writes nothing; 1: a new variable of the zero value; 2: all else. -/
def kindOf (o : Oper) : Nat :=
  match o.op with
  | .move _ | .assign _ | .pick .. | .build .. | .load .. | .nilCheck _ | .binOp .. | .unOp .. | .convert .. | .makeFunc .. | .slice .. | .fieldAddr .. | .field .. | .indexAddr .. | .index .. | .lookup .. | .extract .. => 0
  | .alloc _ => 1
  | .call c => match c.callee with
    | .builtin .len => 0
    | _ => 2
  | _ => 2

mutual
def AV.same : AV → AV → Bool
  | .bool a, .bool b => a == b
  | .int k a, .int k' b => k == k' && a == b
  | .str a, .str b => a.data.toList == b.data.toList
  | .nilp, .nilp => true
  | .ptr a b c, .ptr a' b' c' => a == a' && b == b' && c == c'
  | .nils, .nils => true
  | .sl a b c d e f g, .sl a' b' c' d' e' f' g' => a == a' && b == b' && c == c' && d == d' && e == e' && f == f' && g == g'
  | .nilm, .nilm => true
  | .mp a, .mp b => a == b
  | .nilf, .nilf => true
  | .fn f a b, .fn f' a' b' => f == f' && AV.sameL a a' && AV.sameL b b'
  | .yld a, .yld b => a == b
  | .agg a, .agg b => AV.sameL a b
  | .tup a, .tup b => AV.sameL a b
  | .rsl a b c, .rsl a' b' c' => a == a' && b == b' && c == c'
  | .rptr a b, .rptr a' b' => a == a' && b == b'
  | .esl, .esl => true
  | _, _ => false
def AV.sameL : List AV → List AV → Bool
  | [], [] => true
  | a :: as, b :: bs => AV.same a b && AV.sameL as bs
  | _, _ => false
end

def direct (o : Oper) (j : Nat) : Bool := o.after.toList.any fun e => e.on == j && Region.binds .any e

/-- The plan: new variables first; then each other operation of kind 2 behind what it needs; then the rest. -/
def segs (masks : Array Nat) (l : List (Nat × Oper)) : List (Nat × Oper) → List Nat → List (Nat × Oper)
  | [], done => l.filter fun p => kindOf p.2 == 0 && !done.contains p.1
  | q :: Ls, done =>
    let seg := l.filter fun p => kindOf p.2 == 0 && !done.contains p.1 && (masks.getD q.1 0).testBit p.1
    seg ++ q :: segs masks l Ls (done ++ seg.map (·.1))

def number {α : Type} : Nat → List α → List (Nat × α)
  | _, [] => []
  | i, x :: xs => (i, x) :: number (i + 1) xs

def loud (o : Oper) : Bool := Nat.beq (kindOf o) 2
def allocsOf (ops : Array Oper) : List (Nat × Oper) := (number 0 ops.toList).filter fun p => Nat.beq (kindOf p.2) 1
def restOf (ops : Array Oper) : List (Nat × Oper) := segs (Region.before ops) (number 0 ops.toList) ((number 0 ops.toList).filter fun p => loud p.2) []

/-- Is it wanted, by an edge, by one of those that follow, up to the next of kind 2? -/
def asked (i : Nat) : List (Nat × Oper) → Bool
  | [] => false
  | p :: rest => direct p.2 i || (!loud p.2 && asked i rest)

/-- Each operation is asked for by a later one up to the next of kind 2, if one follows. -/
def heldTo : List (Nat × Oper) → Bool
  | [] => true
  | p :: rest => (!(rest.any fun p => loud p.2) || asked p.1 rest) && heldTo rest

/-- Two operations, the second later in the plan: they do not write one temporary; what one writes and the other reads is ordered by an edge. -/
def pairOk (ops : Array Oper) (p q : Nat × Oper) : Bool :=
  p.1 != q.1 && (p.2.dst.isNone || p.2.dst != q.2.dst) &&
  (direct q.2 p.1 ||
    ((match p.2.dst with | some d => !(q.2.looksAt ops).contains d | none => true) && (match q.2.dst with | some d => !(p.2.looksAt ops).contains d | none => true)))

def pairsOk (ops : Array Oper) : List (Nat × Oper) → Bool
  | [] => true
  | p :: rest => rest.all (pairOk ops p) && pairsOk ops rest

def drawOk (ops : Array Oper) (al rs : List (Nat × Oper)) : Bool :=
  heldTo rs && pairsOk ops (al ++ rs) && al.all (fun p => p.2.guard.isNone) && (List.range ops.size).all (fun i => (al ++ rs).any fun p => Nat.beq p.1 i) &&
  (number 0 ops.toList).all fun p => p.2.after.toList.all fun e => !Region.binds .any e || Nat.blt e.on p.1

def levelOf (lv : List (Nat × Nat)) (j : Nat) : Nat :=
  match lv with
  | [] => 0
  | (i, k) :: rest => if i = j then k else levelOf rest j

def needed (lv : List (Nat × Nat)) (o : Oper) : Nat :=
  o.after.toList.foldl (fun m e => if Region.binds .any e then max m (levelOf lv e.on) else m) 0

/-- The new variables, made first. -/
def evAllocs (P : Tb) (e : Ev) (ops : Array Oper) : List (Nat × Oper) → Fr → St → Option (Fr × St)
  | [], fr, σ => some (fr, σ)
  | p :: rest, fr, σ => match exec1 P e ops p.2 fr σ with
    | some (v, σ) => match fr.put p.2.dst v with
      | some fr => evAllocs P e ops rest fr σ
      | none => none
    | none => none

/-- The same value from each of these stores. -/
def again (P : Tb) (e : Ev) (ops : Array Oper) (o : Oper) (fr : Fr) (v : AV) (l : List St) : Bool :=
  l.all fun τ => match exec1 P e ops o fr τ with | some (u, _) => AV.same v u | none => false

/-- The plan, done: the frame, the stores behind the operations of kind 2, the last first; from which store on an operation may run. -/
def evPlan (P : Tb) (e : Ev) (ops : Array Oper) : List (Nat × Oper) → Fr → List St → List (Nat × Nat) → Option (Fr × List St)
  | [], fr, hist, _ => some (fr, hist)
  | p :: rest, fr, hist, lv =>
    match hist with
    | [] => none
    | σ :: past =>
      match exec1 P e ops p.2 fr σ with
      | none => none
      | some (v, σ') =>
        match fr.put p.2.dst v with
        | none => none
        | some fr' =>
          match Nat.beq (kindOf p.2) 0 with
          | true => match again P e ops p.2 fr v (past.take (past.length - needed lv p.2)) with
            | true => evPlan P e ops rest fr' (σ :: past) ((p.1, needed lv p.2) :: lv)
            | false => bad "draw: a value that an order may turn"
          | false => match loud p.2 with
            | true => evPlan P e ops rest fr' (σ' :: σ :: past) ((p.1, past.length + 1) :: lv)
            | false => bad "draw: a late variable"

def lastOf : Option (Fr × List St) → Option (Fr × St)
  | some (fr, σ :: _) => some (fr, σ)
  | _ => none
def evRest (P : Tb) (e : Ev) (ops : Array Oper) (rs : List (Nat × Oper)) : Option (Fr × St) → Option (Fr × St)
  | some (fr, σ) => lastOf (evPlan P e ops rs fr [σ] [])
  | none => none
def evDraw (P : Tb) (e : Ev) (ops : Array Oper) (fr : Fr) (σ : St) : Option (Fr × St) :=
  match drawOk ops (allocsOf ops) (restOf ops) with
  | true => evRest P e ops (restOf ops) (evAllocs P e ops (allocsOf ops) fr σ)
  | false => bad "draw: the plan"

def resultA (P : Tb) (fr : Fr) (σ : St) : ResultVar → Option AV
  | .tmp t => some (getT fr.tmps t)
  | .cell a t => loadA P t (getT fr.tmps a) σ

def resultsA (P : Tb) (fr : Fr) (σ : St) : List ResultVar → Option (List AV)
  | [] => some []
  | r :: rs => match resultA P fr σ r, resultsA P fr σ rs with
    | some v, some vs => some (v :: vs)
    | _, _ => none

/-- The marks of ranges over functions, taken. -/
def takeDefs : List Nat → St → Option St
  | [], σ => some σ
  | r :: rs, σ => match σ.get r with
    | some .defs => takeDefs rs (σ.put r .defd)
    | _ => bad "defs"

def argTmps : Nat → List AV → Tr AV → Tr AV
  | _, [], t => t
  | i, v :: vs, t => argTmps (i + 1) vs (t.set 40 i v)

def setParams (n : Nat) : List (Tmp × AV) → Tr AV → Option (Tr AV)
  | [], t => some t
  | p :: l, t => match Nat.blt p.1 n, Nat.blt p.1 lim with
    | true, true => setParams n l (t.set 40 p.1 p.2)
    | _, _ => bad "parameters"

abbrev CR := Option (Xt × Fr × St)
def thenC (k : Fr → St → CR) : CR → CR
  | some (.normal, fr, σ) => k fr σ
  | r => r
def blockC (id : Nat) : CR → CR
  | some (.exit j, fr, σ) => match Nat.beq j id with
    | true => some (.normal, fr, σ)
    | false => some (.exit j, fr, σ)
  | r => r
def normalC : Option (Fr × St) → CR
  | some (fr, σ) => some (.normal, fr, σ)
  | none => none
def condC (k : Bool → CR) : Option AV → CR
  | some (.bool t) => k t
  | _ => bad "cond"
def branch (a b : Code) : Bool → Code
  | true => a
  | false => b
def regionC (P : Tb) (e : Ev) (ops : Array Oper) (fr : Fr) (σ : St) : Bool → CR
  | true => normalC (evDraw P e ops fr σ)
  | false => normalC (evList P e ops ops.toList fr σ)
def pendC (fr : Fr) (σ : St) : Option Code → CR
  | none => some (.normal, fr, σ)
  | some .ret => some (.ret, fr, σ)
  | some (.exit id) => some (.exit id, fr, σ)
  | _ => bad "pending"
/-- Behind the call of the function that is ranged over. -/
def endRange (r l : Nat) (fr : Fr) : Option (AV × St) → CR
  | some (_, σ) => match σ.get l with
    | some (.loop .ready pend n t ps a b) => pendC { fr with dfs := r :: fr.dfs } (σ.put l (.loop .exhausted pend n t ps a b)) pend
    | some (.loop .done pend n t ps a b) => pendC { fr with dfs := r :: fr.dfs } (σ.put l (.loop .exhausted pend n t ps a b)) pend
    | _ => bad "loop"
  | none => none
def rangeC (e : Ev) (ps : Array Tmp) (asg body : Code) (fr : Fr) (σ : St) : Option Nat → Option AV → CR
  | none, some (.fn g first cap) =>
    match σ.new .defs with
    | some (r, σ) => match σ.new (.loop .ready none fr.n fr.tmps ps asg body) with
      | some (l, σ) => endRange r l fr (e.call g (first ++ [.yld l] ++ cap) σ)
      | none => none
    | none => none
  | _, _ => bad "rangeFunc"
def resOf : List AV → AV
  | [v] => v
  | vs => .tup vs
def leave (P : Tb) (fn : Func) (fr : Fr) : Option St → Option (AV × St)
  | some σ => match resultsA P fr σ fn.results.toList with
    | some vs => some (resOf vs, σ)
    | none => none
  | none => none
def endCall (P : Tb) (fn : Func) : CR → Option (AV × St)
  | some (.normal, fr, σ) => leave P fn fr (takeDefs fr.dfs σ)
  | some (.ret, fr, σ) => leave P fn fr (takeDefs fr.dfs σ)
  | _ => bad "exit"
def extC (args : List AV) (σ : St) : Option (List AV → Option AV) → Option (AV × St)
  | some g => match g args with
    | some v => some (v, σ)
    | none => none
  | none => bad "extern"
def bodyC (P : Tb) (e : Ev) (fn : Func) (args : List AV) (σ : St) (c : Code) : Option (AV × St) :=
  match fn.name == "runtime.NumGoroutine", Nat.ble args.length 1000 with
  | false, true => endCall P fn (e.code c { tmps := argTmps 0 args .leaf, dfs := [], n := args.length + (fn.ntmps - args.length), ro := none } σ)
  | _, _ => bad "call"
def funcC (P : Tb) (ext : FuncId → Option (List AV → Option AV)) (e : Ev) (f : FuncId) (args : List AV) (σ : St) (fn : Func) : Option Code → Option (AV × St)
  | none => extC args σ (ext f)
  | some c => bodyC P e fn args σ c
def callC (P : Tb) (ext : FuncId → Option (List AV → Option AV)) (e : Ev) (f : FuncId) (args : List AV) (σ : St) : Option Func → Option (AV × St)
  | none => bad "function"
  | some fn => funcC P ext e f args σ fn fn.body
def endRound (l : Nat) (x : Xt) (σ : St) : List Nat → Option AObj → Option (AV × St)
  | [], some (.loop .busy _ n t ps asg body) =>
    match x with
    | .normal => some (.bool true, σ.put l (.loop .ready none n t ps asg body))
    | .ret => some (.bool false, σ.put l (.loop .done (some .ret) n t ps asg body))
    | .exit id => some (.bool false, σ.put l (.loop .done (some (.exit id)) n t ps asg body))
  | _, _ => bad "round: loop"
def endBody (l : Nat) : CR → Option (AV × St)
  | some (x, fr, σ) => endRound l x σ fr.dfs (σ.get l)
  | none => none
def beginBody (e : Ev) (l : Nat) (fr : Fr) (σ : St) (body : Code) : Option AObj → Option (AV × St)
  | some (.loop .ready p n t ps asg body') => endBody l (e.code body fr (σ.put l (.loop .busy p n t ps asg body')))
  | _ => bad "round: begin"
def roundC (e : Ev) (l : Nat) (args : List AV) (σ : St) : Option AObj → Option (AV × St)
  | some (.loop .ready none n t ps asg body) =>
    match Nat.beq args.length ps.size, setParams n (ps.toList.zip args) t with
    | true, some t => match e.code asg { tmps := t, dfs := [], n, ro := some l } σ with
      | some (.normal, fr, σ) => match fr.dfs with
        | [] => beginBody e l fr σ body (σ.get l)
        | _ => bad "round: defers"
      | _ => bad "round: assign"
    | _, _ => bad "round: args"
  | _ => bad "round: not ready"

abbrev Mc := Tb → Ev → Fr → St → CR
def cSkip : Mc := fun _ _ fr σ => some (.normal, fr, σ)
def cRegion (_ : Nat) (ops : Array Oper) (d : Bool) : Mc := fun P e fr σ => regionC P e ops fr σ d
def cSeq (a b : Code) (_ _ : Mc) : Mc := fun _ e fr σ => thenC (fun fr σ => e.code b fr σ) (e.code a fr σ)
def cCond (c : Operand) (a b : Code) (_ _ : Mc) : Mc := fun _ e fr σ => condC (fun t => e.code (branch a b t) fr σ) (evO fr c)
def cBlock (id : Nat) (b : Code) (_ : Mc) : Mc := fun _ e fr σ => blockC id (e.code b fr σ)
def cLoop (b : Code) (_ : Mc) : Mc := fun _ e fr σ => thenC (fun fr σ => e.code (.loop b) fr σ) (e.code b fr σ)
def cRangeFunc (f : Operand) (ps : Array Tmp) (asg body : Code) (_ _ : Mc) : Mc := fun _ e fr σ => rangeC e ps asg body fr σ fr.ro (evO fr f)
def cExit (id : Nat) : Mc := fun _ _ fr σ => some (.exit id, fr, σ)
def cRet : Mc := fun _ _ fr σ => some (.ret, fr, σ)
def cBad : Mc := fun _ _ _ _ => bad "code"
def codeC (P : Tb) (e : Ev) (fr : Fr) (σ : St) (c : Code) : CR :=
  Code.rec (motive := fun _ => Mc) cSkip cRegion cSeq cCond cBlock cLoop cRangeFunc cExit (fun _ _ => cBad) (fun _ => cBad) (fun _ => cBad) cRet (fun _ => cBad) c P e fr σ

def step (P : Tb) (G : Tr Func) (ext : FuncId → Option (List AV → Option AV)) (e : Ev) : Ev where
  code c fr σ := codeC P e fr σ c
  call f args σ := callC P ext e f args σ (G.get f)
  round l args σ := roundC e l args σ (σ.get l)

def none' : Ev := { code := fun _ _ _ => bad "no fuel", call := fun _ _ _ => bad "no fuel", round := fun _ _ _ => bad "no fuel" }

def ev (P : Tb) (G : Tr Func) (ext : FuncId → Option (List AV → Option AV)) (n : Nat) : Ev :=
  Nat.rec none' (fun _ e => step P G ext e) n

end Go.Ab
