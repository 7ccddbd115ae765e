/- What a Go function computes, told without memory: an evaluator over the loaded code whose slices are lists and whose blocks have names of their own. Definitions alone; that the machine does what it says is proved elsewhere. -/
import Derived.Orders
namespace Go.Ev
universe u

inductive Sc where
 | int (k : IntKind) | bool | str
 deriving DecidableEq
@[reducible] def Sc.T : Sc → Type
 | .int _ => Int
 | .bool => Bool
 | .str => ByteArray
def Sc.v : (c : Sc) → c.T → Value
 | .int k, n => .int k n
 | .bool, b => .bool b
 | .str, s => .string s
def Sc.un : (c : Sc) → Value → Option c.T
 | .int k, .int k' n => if k = k' then some n else none
 | .bool, .bool b => some b
 | .str, .string s => some s
 | _, _ => none
def Sc.d : (c : Sc) → c.T
 | .int _ => (0 : Int)
 | .bool => false
 | .str => ByteArray.empty
@[reducible] def RowT : List Sc → Type
 | [] => Unit
 | [c] => c.T
 | c :: d :: cs => c.T × RowT (d :: cs)
def enc : (cs : List Sc) → RowT cs → List Value
 | [], _ => []
 | [c], x => [c.v x]
 | c :: d :: cs, x => c.v x.1 :: enc (d :: cs) x.2
def dec : (cs : List Sc) → List Value → Option (RowT cs)
 | [], [] => some ()
 | [c], [v] => c.un v
 | c :: d :: cs, v :: vs =>
   match c.un v with
   | some x => match dec (d :: cs) vs with
     | some y => some (x, y)
     | none => none
   | none => none
 | _, _ => none
def dfl : (cs : List Sc) → RowT cs
 | [] => ()
 | [c] => c.d
 | c :: d :: cs => (c.d, dfl (d :: cs))

/-- A cell: a plain value; an address into a block (element, cell within it); a whole row; a part of a row (from, how many); not known. -/
inductive Cell where
 | s (v : Value)
 | ptr (id i j : Nat)
 | sl (id : Nat)
 | sub (id o n : Nat)
 | any
inductive LV where
 | c (x : Cell)
 | agg (xs : List Cell)
 | arr (cs : List Sc) (xs : List (RowT cs))
 | tup (xs : List (Bool × List Cell))
/-- 'ro': not ours to write; 'fix': ours to write, not to append to; 'own': made by this call. -/
inductive Kind where
 | ro | fix | own
inductive Blk where
 | box (xs : List Cell)
 | row (k : Kind) (cs : List Sc) (xs : List (RowT cs))
 | gone
structure St where
 tm : Nat → LV
 bl : Nat → Option Blk

/-- What goes in and out of a function: plain cells and lists. -/
inductive PC where
 | s (v : Value)
 | row (k : Kind) (cs : List Sc) (xs : List (RowT cs))
inductive RV where
 | val (agg : Bool) (xs : List PC)
 | ref (xs : List PC)
structure Ret where
 vals : List RV
 upd : List (List PC)

def upd {α : Type u} (f : Nat → α) (n : Nat) (v : α) : Nat → α := fun t => match Nat.beq t n with | true => v | false => f t
def updO {α : Type u} (f : Nat → α) (n : Option Nat) (v : α) : Nat → α := match n with | some n => upd f n v | none => f
def updL {α : Type u} (f : Nat → Option α) : List (Nat × α) → Nat → Option α
 | [] => f
 | (n, v) :: l => upd (updL f l) n (some v)
def look {α : Type u} (d : α) : List (Nat × α) → Nat → α
 | [], _ => d
 | (n, v) :: l, t => match Nat.beq t n with | true => v | false => look d l t
def int (n : Int) : LV := .c (.s (.int .i64 n))
def bool (b : Bool) : LV := .c (.s (.bool b))
def mkSt (tm : List (Nat × LV)) (bl : List (Nat × Blk)) : St := ⟨look (.c .any) tm, fun n => look none (bl.map fun x => (x.1, some x.2)) n⟩

def LV.cells : LV → Option (List Cell)
 | .c .any => none
 | .c x => some [x]
 | .agg xs => some xs
 | _ => none
def isAggV : Value → Bool
 | .agg _ => true
 | _ => false
def ofConst : Value → LV
 | .agg cs => match cs.toList.all fun v => !isAggV v with
   | true => .agg (cs.toList.map .s)
   | false => .c .any
 | .tuple _ => .c .any
 | v => .c (.s v)
def St.val (st : St) : Operand → LV
 | .tmp t => st.tm t
 | .const v => ofConst v
 | _ => .c .any

/-- The scalars that a value of a type is made of. -/
def scsOf (P : Program) : Nat → TypeId → Option (List Sc)
 | 0, _ => none
 | d + 1, t =>
   match P.underlying t with
   | some (.int k) => some [.int k]
   | some .bool => some [.bool]
   | some .string => some [.str]
   | some (.struct fs) => fs.toList.foldr (fun f acc => match scsOf P d f.type, acc with | some x, some y => some (x ++ y) | _, _ => none) (some [])
   | _ => none
def sizeOf? (P : Program) (t : TypeId) : Nat := ((P.info? t).map (·.size)).getD 0
def bytesOf? (P : Program) (t : TypeId) : Nat := ((P.info? t).map (·.bytes)).getD 0
/-- An element type's scalars, held against what the table says of its size. -/
def scs? (P : Program) (t : TypeId) : Option (List Sc) :=
 match scsOf P 4 t with
 | some (c :: cs) => match Nat.beq (sizeOf? P t) (cs.length + 1) && Nat.ble (bytesOf? P t) 64 with
   | true => some (c :: cs)
   | false => none
 | _ => none
def isAggT (P : Program) (t : TypeId) : Bool :=
 match P.underlying t with
 | some (.struct _) | some (.array ..) => true
 | _ => false
def plainsOf : List Cell → Option (List Value)
 | [] => some []
 | .s v :: l => match plainsOf l with
   | some m => some (v :: m)
   | none => none
 | _ :: _ => none

/-- An operation's plan: which blocks it looks at or turns; and out of what they hold: the condition under which it goes well, its value, what it writes. -/
abbrev Out := Bool × LV × List (Nat × Blk)
abbrev Plan := List Nat × (List (Option Blk) → Option Out)
def still (v : LV) : Option Plan := some ([], fun _ => some (true, v, []))
def when_ (g : Bool) (v : LV) : Option Plan := some ([], fun _ => some (g, v, []))

def lim : Nat := 1099511627776
def setAt {α : Type u} : List α → Nat → List α → List α
 | xs, 0, [] => xs
 | _ :: xs, 0, y :: ys => y :: setAt xs 0 ys
 | x :: xs, j + 1, ys => x :: setAt xs j ys
 | [], _, _ => []
def fCell {α : Type u} (x : Cell) (k : Cell → α) : α :=
 match x with
 | .s (.int q n) => k (.s (.int q n))
 | .s (.bool b) => k (.s (.bool b))
 | .s (.string s) => k (.s (.string s))
 | .s v => k (.s v)
 | .ptr id i j => k (.ptr id i j)
 | .sl id => k (.sl id)
 | .sub id o n => k (.sub id o n)
 | .any => k .any
def fCells {α : Type u} : List Cell → (List Cell → α) → α
 | [], k => k []
 | x :: l, k => fCell x fun y => fCells l fun m => k (y :: m)
def fTup {α : Type u} : List (Bool × List Cell) → (List (Bool × List Cell) → α) → α
 | [], k => k []
 | (b, xs) :: l, k => fCells xs fun ys => fTup l fun m => k ((b, ys) :: m)
def fLV {α : Type u} (v : LV) (k : LV → α) : α :=
 match v with
 | .c x => fCell x fun y => k (.c y)
 | .agg xs => fCells xs fun ys => k (.agg ys)
 | .arr cs xs => k (.arr cs xs)
 | .tup xs => fTup xs fun ys => k (.tup ys)
def fBlk {α : Type u} (b : Blk) (k : Blk → α) : α :=
 match b with
 | .box xs => fCells xs fun ys => k (.box ys)
 | .row .ro cs xs => k (.row .ro cs xs)
 | .row .fix cs xs => k (.row .fix cs xs)
 | .row .own cs xs => k (.row .own cs xs)
 | .gone => k .gone
def fBls {α : Type u} : List (Nat × Blk) → (List (Nat × Blk) → α) → α
 | [], k => k []
 | (n, b) :: l, k => fBlk b fun c => fBls l fun m => k ((n, c) :: m)
def fTms {α : Type u} : List (Nat × LV) → (List (Nat × LV) → α) → α
 | [], k => k []
 | (n, b) :: l, k => fLV b fun c => fTms l fun m => k ((n, c) :: m)

def intBin (op : BinOp) (k : IntKind) (a b : Int) : Option (Bool × Value) :=
 match op with
 | .add => some (true, .int k (k.wrap (a + b)))
 | .sub => some (true, .int k (k.wrap (a - b)))
 | .mul => some (true, .int k (k.wrap (a * b)))
 | .quo => some (!decide (b = 0), .int k (k.wrap (a.tdiv b)))
 | .rem => some (!decide (b = 0), .int k (a.tmod b))
 | .and => some (true, .int k (k.wrap (BitVec.ofInt k.bits a &&& BitVec.ofInt k.bits b).toNat))
 | .or => some (true, .int k (k.wrap (BitVec.ofInt k.bits a ||| BitVec.ofInt k.bits b).toNat))
 | .xor => some (true, .int k (k.wrap (BitVec.ofInt k.bits a ^^^ BitVec.ofInt k.bits b).toNat))
 | .eql => some (true, .bool (decide (a = b)))
 | .neq => some (true, .bool (!decide (a = b)))
 | .lss => some (true, .bool (decide (a < b)))
 | .leq => some (true, .bool (decide (a ≤ b)))
 | .gtr => some (true, .bool (decide (b < a)))
 | .geq => some (true, .bool (decide (b ≤ a)))
 | _ => none
def strBin (op : BinOp) (a b : ByteArray) : Option (Bool × Value) :=
 match op with
 | .add => some (decide (a.size + b.size ≤ 9223372036854775807), .string (a ++ b))
 | .eql => some (true, .bool (decide (a = b)))
 | .neq => some (true, .bool (!decide (a = b)))
 | _ => none
def eqVal : Sc → Value → Value → Option Bool
 | .int k, .int k1 a, .int k2 b => if k = k1 then (if k = k2 then some (decide (a = b)) else none) else none
 | .bool, .bool a, .bool b => some (a == b)
 | .str, .string a, .string b => some (decide (a = b))
 | _, _, _ => none
def eqCells : List Sc → List Cell → List Cell → Option Bool
 | [], [], [] => some true
 | [c], [.s a], [.s b] => eqVal c a b
 | c :: cs, .s a :: xs, .s b :: ys =>
   match eqVal c a b, eqCells cs xs ys with
   | some p, some q => some (p && q)
   | _, _ => none
 | _, _, _ => none
/-- A flat struct's scalars. -/
def flatScs (P : Program) : Nat → List Field → Option (List Sc)
 | _, [] => some []
 | i, f :: fs =>
   match Nat.beq f.offset i, P.underlying f.type, flatScs P (i + 1) fs with
   | true, some (.int k), some cs => some (.int k :: cs)
   | true, some .bool, some cs => some (.bool :: cs)
   | true, some .string, some cs => some (.str :: cs)
   | _, _, _ => none
def eqScs (P : Program) (t : TypeId) : Option (List Sc) :=
 match P.underlying t with
 | some (.struct fs) => flatScs P 0 fs.toList
 | _ => none
/-- Nothing stands in the way of comparing two such structs cell by cell. -/
def eqFree (P : Program) (t : TypeId) : Bool := !P.stoodInHeld t && !P.eqGuardType P.depth t && (match P.underlying t with | some (.struct fs) => fs.toList.all fun f => f.name != "_" | _ => false)

/-- A row's plain elements between two places. -/
def part {cs : List Sc} (xs : List (RowT cs)) (o n : Nat) : List (RowT cs) := (xs.drop o).take n
structure Env where
 P : Program
 /-- struct types that may be compared cell by cell -/
 eqs : List TypeId

def fillC (place : Nat → Option (Nat × Nat)) (cells : List Cell) : List (Nat × LV) → Option (List Cell)
 | [] => some cells
 | (i, v) :: rest =>
   match place i, v.cells with
   | some (off, size), some ys => if ys.length = size ∧ off + size ≤ cells.length then fillC place (setAt cells off ys) rest else none
   | _, _ => none
def zeroCells? (P : Program) (t : TypeId) : Option (List Cell) :=
 match (P.info? t).bind (·.zero) with
 | some (.agg cs) => match cs.toList.all fun v => !isAggV v with
   | true => some (cs.toList.map .s)
   | false => none
 | some (.tuple _) => none
 | some v => some [.s v]
 | none => none
def sameVals : List Value → List Value → Bool
 | [], [] => true
 | .int k n :: l, .int k' n' :: l' => decide (k = k') && decide (n = n') && sameVals l l'
 | .bool b :: l, .bool b' :: l' => (b == b') && sameVals l l'
 | .string s :: l, .string s' :: l' => Nat.beq s.size 0 && Nat.beq s'.size 0 && sameVals l l'
 | _, _ => false
/-- The zero of a type is made of these. -/
def zeroIs (P : Program) (t : TypeId) (vs : List Value) : Bool :=
 match (P.info? t).bind (·.zero) with
 | some z => sameVals z.cells.toList vs
 | none => false
/-- A slice literal's elements, all of them told, in order. -/
def litRow (cs : List Sc) : Nat → List (Nat × LV) → Option (List (RowT cs))
 | _, [] => some []
 | i, (k, v) :: rest => match Nat.beq k i, v.cells with
   | true, some ys => match plainsOf ys with
     | some vs => match dec cs vs, litRow cs (i + 1) rest with
       | some x, some l => some (x :: l)
       | _, _ => none
     | none => none
   | _, _ => none

def fieldAt? (P : Program) (t : TypeId) (f : Nat) : Option (Nat × TypeId) :=
 match P.underlying t with
 | some (.struct fs) => match fs[f]? with
   | some f => some (f.offset, f.type)
   | none => none
 | _ => none
def asLV (agg : Bool) (xs : List Cell) : LV :=
 match agg, xs with
 | true, xs => .agg xs
 | false, [x] => .c x
 | _, _ => .c .any

def bytesOf (s : ByteArray) : List Int := s.data.toList.map fun b => (b.toNat : Int)
def ofBytes (l : List Int) : ByteArray := ⟨(l.map fun n => UInt8.ofNat n.toNat).toArray⟩
def byteAt (s : ByteArray) (i : Nat) : Int := (s.data.toList.getD i 0).toNat
def mxI (a b : Int) : Int := if a < b then b else a
def mnI (a b : Int) : Int := if b < a then b else a

def lenOf? (x : LV) : Option (List Nat × (List (Option Blk) → Option Nat)) :=
 match x with
 | .c (.s (.slice none 0 0)) => some ([], fun _ => some 0)
 | .c (.sl id) => some ([id], fun | [some (.row _ _ xs)] => some xs.length | _ => none)
 | .c (.sub _ _ n) => some ([], fun _ => some n)
 | _ => none
/-- The elements that 'append' and 'copy' take from their source. -/
def src? (cs : List Sc) (x : LV) : Option (List Nat × (List (Option Blk) → Option (List (RowT cs)))) :=
 match x with
 | .c (.s (.slice none 0 0)) => some ([], fun _ => some [])
 | .c (.s (.string s)) => match cs with
   | [.int .u8] => some ([], fun _ => some (bytesOf s))
   | _ => none
 | .c (.sl id) => some ([id], fun
   | [some (.row _ ds xs)] => if h : ds = cs then some (h ▸ xs) else none
   | _ => none)
 | .c (.sub id o n) => some ([id], fun
   | [some (.row _ ds xs)] => if h : ds = cs then some (h ▸ part xs o n) else none
   | _ => none)
 | _ => none

def planAlloc (P : Program) (t : TypeId) (nid : Nat) : Option Plan :=
 match P.underlying t with
 | some (.array n e) => match scs? P e with
   | some cs => match Nat.blt 0 n && zeroIs P t ((List.replicate n (dfl cs)).flatMap (enc cs)) with
     | true => some ([nid], fun
       | [none] => some (true, .c (.ptr nid 0 0), [(nid, .row .fix cs (List.replicate n (dfl cs)))])
       | _ => none)
     | false => none
   | none => none
 | _ => match zeroCells? P t with
   | some xs => some ([nid], fun
     | [none] => some (true, .c (.ptr nid 0 0), [(nid, .box xs)])
     | _ => none)
   | none => none
def planBox (nid : Nat) (x : LV) : Option Plan :=
 match x.cells with
 | some xs => some ([nid], fun
   | [none] => some (true, .c (.ptr nid 0 0), [(nid, .box xs)])
   | _ => none)
 | none => none
def places? (P : Program) : List Field → Option (List (Nat × Nat))
 | [] => some []
 | f :: fs => match P.info? f.type, places? P fs with
   | some i, some l => some ((f.offset, i.size) :: l)
   | _, _ => none
def planBuild (P : Program) (t : TypeId) (parts : List (Nat × LV)) : Option Plan :=
 match P.underlying t, zeroCells? P t with
 | some (.struct fs), some zs =>
   match places? P fs.toList with
   | some ps => match fillC (fun i => ps[i]?) zs parts with
     | some xs => still (.agg xs)
     | none => none
   | none => none
 | _, _ => none
def planLit (P : Program) (t : TypeId) (n : Nat) (parts : List (Nat × LV)) (nid : Nat) : Option Plan :=
 match P.underlying t with
 | some (.slice e) => match scs? P e with
   | some cs => match (match zeroIs P e (enc cs (dfl cs)) && Nat.beq parts.length n with | true => litRow cs 0 parts | false => none) with
     | some xs => some ([nid], fun
       | [none] => some (Nat.ble (n * cs.length) 16000000, .c (.sl nid), [(nid, .row .own cs xs)])
       | _ => none)
     | none => none
   | none => none
 | _ => none
def planLoad (P : Program) (t : TypeId) : LV → Option Plan
 | .c (.ptr id i j) =>
   some ([id], fun
     | [some (.box xs)] => match P.underlying t with
       | some (.struct _) => some (Nat.ble (j + sizeOf? P t) xs.length, .agg ((xs.drop j).take (sizeOf? P t)), [])
       | some (.array ..) => none
       | none => none
       | some _ => match xs[j]? with
         | some x => some (true, .c x, [])
         | none => none
     | [some (.row _ cs xs)] => match P.underlying t with
       | some (.array n e) => match scs? P e with
         | some ds => if ds = cs ∧ sizeOf? P t = n * cs.length then some (Nat.beq i 0 && Nat.beq j 0 && Nat.beq xs.length n, .arr cs xs, []) else none
         | none => none
       | some (.struct _) => match scs? P t with
         | some ds => if ds = cs then some (Nat.beq j 0, .agg ((enc cs (xs.getD i (dfl cs))).map .s), []) else none
         | none => none
       | none => none
       | some _ => match (enc cs (xs.getD i (dfl cs)))[j]? with
         | some v => some (true, .c (.s v), [])
         | none => none
     | _ => none)
 | _ => none
def storable : Cell → Bool
 | .s v => match v with
   | .agg _ | .tuple _ => false
   | _ => true
 | .any => false
 | _ => true
def planStore (P : Program) (t : TypeId) : LV → LV → Option Plan
 | .c (.ptr id i j), x =>
   match x.cells with
   | some ys => some ([id], fun
     | [some (.box xs)] => if ys.length = sizeOf? P t ∧ ys.all storable = true ∧ 0 < ys.length then some (Nat.ble (j + ys.length) xs.length, .c .any, [(id, .box (setAt xs j ys))]) else none
     | [some (.row k cs xs)] => match k with
       | .ro => none
       | k => if ys.length = sizeOf? P t ∧ j + ys.length ≤ cs.length ∧ 0 < ys.length then (match plainsOf ys with
         | some vs => match dec cs (setAt (enc cs (xs.getD i (dfl cs))) j vs) with
           | some y => some (true, .c .any, [(id, .row k cs (xs.set i y))])
           | none => none
         | none => none) else none
     | _ => none)
   | none => none
 | _, _ => none
def planBin (E : Env) (op : BinOp) (t : TypeId) : LV → LV → Option Plan
 | .c (.s (.int k a)), .c (.s (.int k' b)) => match op with
   | .shl => some ([], fun _ => some (decide (0 ≤ b), .c (.s (.int k (k.wrap (a * 2 ^ (min b.toNat k.bits))))), []))
   | .shr => some ([], fun _ => some (decide (0 ≤ b), .c (.s (.int k (a.fdiv (2 ^ (min b.toNat k.bits))))), []))
   | op => if k = k' then (match intBin op k a b with
     | some (g, v) => when_ g (.c (.s v))
     | none => none) else none
 | .c (.s (.string a)), .c (.s (.string b)) => match strBin op a b with
   | some (g, v) => when_ g (.c (.s v))
   | none => none
 | .c (.s (.bool a)), .c (.s (.bool b)) => match E.P.underlying t, op with
   | some .bool, .eql => still (bool (a == b))
   | some .bool, .neq => still (bool (!(a == b)))
   | _, _ => none
 | .agg xs, .agg ys => if E.eqs.contains t then (match eqScs E.P t with
   | some cs => match eqCells cs xs ys with
     | some b => match op with
       | .eql => still (bool b)
       | .neq => still (bool (!b))
       | _ => none
     | none => none
   | none => none) else none
 | _, _ => none
def planUn (op : UnOp) : LV → Option Plan
 | .c (.s (.bool b)) => match op with
   | .not => still (bool (!b))
   | _ => none
 | .c (.s (.int k n)) => match op with
   | .neg => still (.c (.s (.int k (k.wrap (0 - n)))))
   | _ => none
 | _ => none
def planConv (P : Program) (src dty : TypeId) (nid : Nat) (x : LV) : Option Plan :=
 match P.underlying src, P.underlying dty with
 | some (.int _), some (.int k) => match x with
   | .c (.s (.int _ n)) => still (.c (.s (.int k (k.wrap n))))
   | _ => none
 | some .string, some .string => match x with
   | .c (.s (.string s)) => still (.c (.s (.string s)))
   | _ => none
 | some .string, some (.slice e) => match x with
   | .c (.s (.string s)) => match P.underlying e with
     | some (.int .u8) => some ([nid], fun
       | [none] => some (true, .c (.sl nid), [(nid, .row .own [.int .u8] (bytesOf s))])
       | _ => none)
     | _ => none
   | _ => none
 | some (.slice e), some .string => match P.underlying e with
   | some (.int .u8) => match x with
     | .c (.s (.string _)) => none
     | x => match src? [.int .u8] x with
       | some (ids, f) => some (ids, fun bs => match f bs with
         | some l => some (true, .c (.s (.string (ofBytes l))), [])
         | none => none)
       | none => none
   | _ => none
 | _, _ => none
def planMake (P : Program) (t : TypeId) (nid : Nat) : LV → LV → Option Plan
 | .c (.s (.int _ n)), .c (.s (.int _ m)) =>
   match P.underlying t with
   | some (.slice e) => match scs? P e with
     | some cs => match zeroIs P e (enc cs (dfl cs)) with
       | true => some ([nid], fun
         | [none] => some (decide (0 ≤ n) && decide (n = m) && Nat.ble n.toNat lim, .c (.sl nid), [(nid, .row .own cs (List.replicate n.toNat (dfl cs)))])
         | _ => none)
       | false => none
     | none => none
   | _ => none
 | _, _ => none
/-- Its bounds: 'none' where none is told. -/
def bound? : Option LV → Option (Option Int)
 | none => some none
 | some (.c (.s (.int _ n))) => some (some n)
 | _ => none
def planSlice (P : Program) (t : TypeId) (x : LV) (lo hi : Option LV) : Option Plan :=
 match bound? lo, bound? hi, x, P.underlying t with
 | some lo, some hi, .c (.s (.string s)), some .string => match lo, hi with
   | none, none => still x
   | none, some h => when_ (decide (0 ≤ h) && decide (h ≤ (s.size : Int))) (.c (.s (.string (s.extract 0 h.toNat))))
   | some l, none => when_ (decide (0 ≤ l) && decide (l ≤ (s.size : Int))) (.c (.s (.string (s.extract l.toNat s.size))))
   | some l, some h => when_ (decide (0 ≤ h) && decide (h ≤ (s.size : Int)) && decide (0 ≤ l) && decide (l ≤ h)) (.c (.s (.string (s.extract l.toNat h.toNat))))
 | some lo, some hi, .c (.sl id), some (.slice e) => match scs? P e with
   | some ds => some ([id], fun
     | [some (.row _ cs xs)] => if ds = cs then (match lo, hi with
       | none, none => some (true, x, [])
       | none, some h => some (decide (0 ≤ h) && decide (h ≤ (xs.length : Int)), .c (.sub id 0 h.toNat), [])
       | some l, none => some (decide (0 ≤ l) && decide (l ≤ (xs.length : Int)), .c (.sub id l.toNat (xs.length - l.toNat)), [])
       | some l, some h => some (decide (0 ≤ h) && decide (h ≤ (xs.length : Int)) && decide (0 ≤ l) && decide (l ≤ h), .c (.sub id l.toNat (h.toNat - l.toNat)), [])) else none
     | _ => none)
   | none => none
 | _, _, _, _ => none
def planFieldAddr (P : Program) (t : TypeId) (f : Nat) : LV → Option Plan
 | .c (.ptr id i j) => match fieldAt? P t f with
   | some (off, ft) => match sizeOf? P ft with
     | 0 => none
     | _ => still (.c (.ptr id i (j + off)))
   | none => none
 | _ => none
def planField (P : Program) (t : TypeId) (f : Nat) : LV → Option Plan
 | .agg xs => match fieldAt? P t f with
   | some (off, ft) => match P.underlying ft, (xs.drop off).take (sizeOf? P ft) with
     | some (.struct _), l => when_ (Nat.ble (off + sizeOf? P ft) xs.length) (.agg l)
     | some (.array ..), l => when_ (Nat.ble (off + sizeOf? P ft) xs.length) (.agg l)
     | some _, [x] => still (.c x)
     | _, _ => none
   | none => none
 | _ => none
def planIndexAddr (P : Program) (t : TypeId) (x ix : LV) : Option Plan :=
 match ix, P.underlying t with
 | .c (.s (.int _ n)), some (.array len e) => match x, scs? P e with
   | .c (.ptr id 0 0), some ds => some ([id], fun
     | [some (.row _ cs xs)] => if ds = cs then some (decide (0 ≤ n) && decide (n < (len : Int)) && Nat.beq xs.length len && Nat.blt 1 len, .c (.ptr id n.toNat 0), []) else none
     | _ => none)
   | _, _ => none
 | .c (.s (.int _ n)), some (.slice e) => match x, scs? P e with
   | .c (.sl id), some ds => some ([id], fun
     | [some (.row _ cs xs)] => if ds = cs then some (decide (0 ≤ n) && decide (n < (xs.length : Int)), .c (.ptr id n.toNat 0), []) else none
     | _ => none)
   | .c (.sub id o m), some ds => some ([id], fun
     | [some (.row _ cs _)] => if ds = cs then some (decide (0 ≤ n) && decide (n < (m : Int)), .c (.ptr id (o + n.toNat) 0), []) else none
     | _ => none)
   | _, _ => none
 | _, _ => none
def planIndex (P : Program) (t : TypeId) (x ix : LV) : Option Plan :=
 match ix, P.underlying t with
 | .c (.s (.int _ n)), some .string => match x with
   | .c (.s (.string s)) => when_ (decide (0 ≤ n) && decide (n < (s.size : Int))) (.c (.s (.int .u8 (byteAt s n.toNat))))
   | _ => none
 | .c (.s (.int _ n)), some (.array len e) => match x, scs? P e, isAggT P e with
   | .arr [sc] xs, some ds, false => if ds = [sc] then when_ (decide (0 ≤ n) && decide (n < (len : Int)) && Nat.beq xs.length len) (.c (.s (sc.v (xs.getD n.toNat sc.d)))) else none
   | _, _, _ => none
 | _, _ => none
def planExtract (ix : Nat) : LV → Option Plan
 | .tup xs => match xs[ix]? with
   | some (agg, ys) => still (asLV agg ys)
   | none => none
 | _ => none
def planLen (P : Program) (t : TypeId) (x : LV) : Option Plan :=
 match P.underlying t with
 | some (.array n _) => still (int n)
 | some .string => match x with
   | .c (.s (.string s)) => still (int s.size)
   | _ => none
 | some (.slice _) => match lenOf? x with
   | some (ids, f) => some (ids, fun bs => match f bs with
     | some n => some (true, int n, [])
     | none => none)
   | none => none
 | _ => none
def planMin : LV → LV → Option Plan
 | .c (.s (.int k a)), .c (.s (.int _ b)) => still (.c (.s (.int k (mnI a b))))
 | _, _ => none
def planMax : LV → LV → Option Plan
 | .c (.s (.int k a)), .c (.s (.int _ b)) => still (.c (.s (.int k (mxI a b))))
 | _, _ => none
def planAppend (P : Program) (t t2 : TypeId) (nid : Nat) (x y : LV) : Option Plan :=
 match P.underlying t, P.underlying t2 with
 | some (.slice e), some ty2 =>
   match ty2 with
   | .int _ => none
   | _ => match (match scs? P e with | some cs => (match zeroIs P e (enc cs (dfl cs)) with | true => some cs | false => none) | none => none) with
     | some cs => match src? cs y with
       | some (ids, f) => match x with
         | .c (.s (.slice none 0 0)) => some (nid :: ids, fun
           | none :: bs => match f bs with
             | some l => some (Nat.ble l.length lim, .c (.sl nid), [(nid, .row .own cs l)])
             | none => none
           | _ => none)
         | .c (.sl id) => some (nid :: id :: ids, fun
           | none :: some (.row .own ds xs) :: bs => if h : ds = cs then (match f bs with
             | some l => some (Nat.ble (xs.length + l.length) lim, .c (.sl nid), [(id, .gone), (nid, .row .own cs (h ▸ xs ++ l))])
             | none => none) else none
           | _ => none)
         | _ => none
       | none => none
     | none => none
 | _, _ => none
def planCopy (P : Program) (t : TypeId) : LV → LV → Option Plan
 | .c (.sl id), y =>
   match P.underlying t with
   | some (.slice e) => match scs? P e with
     | some cs => match src? cs y with
       | some (ids, f) => some (id :: ids, fun
         | some (.row k ds xs) :: bs => match k with
           | .ro => none
           | k => if h : cs = ds then (match f bs with
             | some l => some (true, int (Nat.min l.length xs.length), [(id, .row k ds (h ▸ l.take xs.length ++ xs.drop l.length))])
             | none => none) else none
         | _ => none)
       | none => none
     | none => none
   | _ => none
 | _, _ => none
def planPick : LV → LV → LV → Option Plan
 | .c (.s (.bool b)), x, y => match b with | true => still x | false => still y
 | _, _, _ => none
def plan (E : Env) (op : Op) (nid : Nat) (val : Operand → LV) : Option Plan :=
 match op with
 | .move x => still (val x)
 | .assign x => still (val x)
 | .pick c x y => planPick (val c) (val x) (val y)
 | .nilCheck x => match val x with
   | .c (.ptr id i j) => still (.c (.ptr id i j))
   | _ => none
 | .alloc t => planAlloc E.P t nid
 | .box _ x => planBox nid (val x)
 | .build t parts => planBuild E.P t (parts.toList.map fun p => (p.1, val p.2))
 | .buildSlice t n parts => planLit E.P t n (parts.toList.map fun p => (p.1, val p.2)) nid
 | .load t x => planLoad E.P t (val x)
 | .store t x y => planStore E.P t (val x) (val y)
 | .binOp op t x y _ => planBin E op t (val x) (val y)
 | .unOp op _ x => planUn op (val x)
 | .convert src dty x => planConv E.P src dty nid (val x)
 | .makeSlice t x y => planMake E.P t nid (val x) (val y)
 | .slice t x lo hi mx => match mx with
   | none => planSlice E.P t (val x) (lo.map val) (hi.map val)
   | some _ => none
 | .fieldAddr t x f => planFieldAddr E.P t f (val x)
 | .field t x f => planField E.P t f (val x)
 | .indexAddr t x ix => planIndexAddr E.P t (val x) (val ix)
 | .index t x ix => planIndex E.P t (val x) (val ix)
 | .extract x ix => planExtract ix (val x)
 | .call c => match c.callee with
   | .builtin b => match b, c.args.toList, c.argTypes.toList with
     | .len, [x], [t] => planLen E.P t (val x)
     | .min, [x, y], _ => planMin (val x) (val y)
     | .max, [x, y], _ => planMax (val x) (val y)
     | .append, [x, y], [t, t2] => planAppend E.P t t2 nid (val x) (val y)
     | .copy, [x, y], [t, _] => planCopy E.P t (val x) (val y)
     | _, _, _ => none
   | _ => none
 | _ => none

/-- A contract: what a function answers, told on plain cells and lists; which parameters' rows it writes. -/
structure Con (R : Type) where
 muts : List Nat
 run : List RV → (Ret → Option R) → Option R
abbrev Cons (R : Type) := List (Nat × Con R)

def pcOf (bl : Nat → Option Blk) : Cell → Option PC
 | .s v => some (.s v)
 | .sl id => match bl id with
   | some (.row k cs xs) => some (.row k cs xs)
   | _ => none
 | .sub id o n => match bl id with
   | some (.row _ cs xs) => some (.row .ro cs (part xs o n))
   | _ => none
 | _ => none
def pcsOf (bl : Nat → Option Blk) : List Cell → Option (List PC)
 | [] => some []
 | x :: l => match pcOf bl x with
   | some p => match pcsOf bl l with
     | some ps => some (p :: ps)
     | none => none
   | none => none
def rvOf (bl : Nat → Option Blk) : LV → Option RV
 | .c (.ptr id 0 0) => match bl id with
   | some (.box xs) => match pcsOf bl xs with
     | some ps => some (.ref ps)
     | none => none
   | _ => none
 | .c x => match pcOf bl x with
   | some p => some (.val false [p])
   | none => none
 | .agg xs => match pcsOf bl xs with
   | some ps => some (.val true ps)
   | none => none
 | _ => none
def rvsOf (bl : Nat → Option Blk) : List LV → Option (List RV)
 | [] => some []
 | x :: l => match rvOf bl x with
   | some p => match rvsOf bl l with
     | some ps => some (p :: ps)
     | none => none
   | none => none
/-- Cells that come in, as cells of this call's own: each row gets a block. -/
def takeIn (kind : Kind → Kind) : Nat → List PC → List Cell × List (Nat × Blk)
 | _, [] => ([], [])
 | id, .s v :: l => (.s v :: (takeIn kind (id + 1) l).1, (takeIn kind (id + 1) l).2)
 | id, .row k cs xs :: l => (.sl id :: (takeIn kind (id + 1) l).1, (id, .row (kind k) cs xs) :: (takeIn kind (id + 1) l).2)
def takeRV (kind : Kind → Kind) (id : Nat) : RV → (Bool × List Cell) × List (Nat × Blk)
 | .val agg ps => ((agg, (takeIn kind id ps).1), (takeIn kind id ps).2)
 | .ref ps => ((false, [.ptr (id + 31) 0 0]), (id + 31, .box (takeIn kind id ps).1) :: (takeIn kind id ps).2)
def takeRVs (kind : Kind → Kind) : Nat → List RV → List (Bool × List Cell) × List (Nat × Blk)
 | _, [] => ([], [])
 | id, v :: l => ((takeRV kind id v).1 :: (takeRVs kind (id + 32) l).1, (takeRV kind id v).2 ++ (takeRVs kind (id + 32) l).2)
def lvOf : List (Bool × List Cell) → LV
 | [(agg, xs)] => asLV agg xs
 | l => .tup l
/-- What a call may turn: a struct handed by address; a row; a row that is nil, and stays so. -/
inductive Turn where
 | ref (id : Nat) | row (id : Nat) | nil
def turnCells : List Cell → Option (List Turn)
 | [] => some []
 | .sl id :: l => match turnCells l with
   | some r => some (.row id :: r)
   | none => none
 | .s (.slice none 0 0) :: l => match turnCells l with
   | some r => some (.nil :: r)
   | none => none
 | .s _ :: l => turnCells l
 | _ :: _ => none
def turnedOf (muts : List Nat) : Nat → List LV → Option (List Turn)
 | _, [] => some []
 | n, .c (.ptr id 0 0) :: l => match turnedOf muts (n + 1) l with
   | some r => some (.ref id :: r)
   | none => none
 | n, x :: l => match muts.contains n, turnedOf muts (n + 1) l with
   | _, none => none
   | false, some r => some r
   | true, some r => match x.cells with
     | some xs => match turnCells xs with
       | some q => some (q ++ r)
       | none => none
     | none => none
def backCells : List Cell → List PC → Option (List Cell)
 | [], [] => some []
 | .s _ :: l, .s v :: r => match isAggV v, backCells l r with
   | false, some m => some (.s v :: m)
   | _, _ => none
 | .sl id :: l, .row _ _ _ :: r => match backCells l r with
   | some m => some (.sl id :: m)
   | none => none
 | _, _ => none
/-- What stands in the turned blocks behind the call. -/
def backOf (bl : Nat → Option Blk) : List Turn → List (List PC) → Option (List (Nat × Blk))
 | [], [] => some []
 | .ref id :: l, ps :: r => match bl id with
   | some (.box xs) => match backCells xs ps, backOf bl l r with
     | some ys, some more => some ((id, .box ys) :: more)
     | _, _ => none
   | _ => none
 | .row id :: l, [.row _ cs xs] :: r => match bl id with
   | some (.row k ds _) => match k with
     | .ro => none
     | k => if cs = ds then (match backOf bl l r with
       | some more => some ((id, .row k cs xs) :: more)
       | none => none) else none
   | _ => none
 | .nil :: l, [.row _ _ _] :: r => backOf bl l r
 | _, _ => none
def hasRo : List RV → Bool
 | [] => false
 | .val _ ps :: l => ps.any (fun | .row .ro _ _ => true | _ => false) || hasRo l
 | .ref ps :: l => ps.any (fun | .row .ro _ _ => true | _ => false) || hasRo l
def cellsIds : List Cell → List Nat
 | [] => []
 | .sl id :: l => id :: cellsIds l
 | .sub id _ _ :: l => id :: cellsIds l
 | _ :: l => cellsIds l
/-- The blocks that a call's arguments lead to: those that it may turn are marked. -/
def cellsIts (m : Bool) (xs : List Cell) : List (Bool × Nat) := (cellsIds xs).map fun id => (m, id)
def argIts (bl : Nat → Option Blk) (muts : List Nat) : Nat → List LV → List (Bool × Nat)
 | _, [] => []
 | n, .c (.ptr id _ _) :: l => (true, id) :: (match bl id with
   | some (.box xs) => cellsIts false xs ++ argIts bl muts (n + 1) l
   | _ => argIts bl muts (n + 1) l)
 | n, .c x :: l => cellsIts (muts.contains n) [x] ++ argIts bl muts (n + 1) l
 | n, .agg xs :: l => cellsIts (muts.contains n) xs ++ argIts bl muts (n + 1) l
 | n, _ :: l => argIts bl muts (n + 1) l
/-- What may be turned stands but once. -/
def itsOk : List (Bool × Nat) → Bool
 | [] => true
 | (m, id) :: l => (l.all fun q => (!m && !q.1) || !Nat.beq id q.2) && itsOk l
/-- A row that was handed on, and that an answer may share, is written no more. -/
def frozen (bl : Nat → Option Blk) : List (Bool × Nat) → List (Nat × Blk)
 | [] => []
 | (_, id) :: l => match bl id with
   | some (.row k cs xs) => match k with
     | .ro => frozen bl l
     | _ => (id, .row .ro cs xs) :: frozen bl l
   | _ => frozen bl l
def freshB (bl : Nat → Option Blk) : List (Nat × Blk) → Bool
 | [] => true
 | (id, _) :: l => match bl id with
   | none => freshB bl l
   | some _ => false
def apartB : List Nat → Bool
 | [] => true
 | n :: l => (l.all fun m => !Nat.beq n m) && apartB l
def fstB : List (Nat × Blk) → List Nat
 | [] => []
 | (n, _) :: l => n :: fstB l
def evAns {R : Type} (nid : Nat) (dst : Option Nat) (st : St) (bl : Nat → Option Blk) (vals : List RV) (rs ws : List Nat) (K : List Nat → List Nat → St → Option R) : Option R :=
 match takeRVs (fun k => k) nid vals with
 | (x, y) => match freshB bl y && apartB (fstB y) with
   | true => fLV (lvOf x) fun v => fBls y fun y => K rs (fstB y ++ ws) ⟨updO st.tm dst v, updL bl y⟩
   | false => none
def evCall {R : Type} (G : Cons R) (nid : Nat) (dst : Option Nat) (f : Nat) (vals : List LV) (st : St) (K : List Nat → List Nat → St → Option R) : Option R :=
 match look none (G.map fun x => (x.1, some x.2)) f with
 | some con => match rvsOf st.bl vals, turnedOf con.muts 0 vals, itsOk (argIts st.bl con.muts 0 vals) with
   | some args, some ts, true => con.run args fun ret =>
     match backOf st.bl ts ret.upd with
     | some back => fBls back fun back =>
       match hasRo ret.vals with
       | true => fBls (frozen (updL st.bl back) (argIts st.bl con.muts 0 vals)) fun z => evAns nid dst st (updL (updL st.bl back) z) ret.vals ((argIts st.bl con.muts 0 vals).map fun x => x.2) (fstB z ++ fstB back) K
       | false => evAns nid dst st (updL st.bl back) ret.vals ((argIts st.bl con.muts 0 vals).map fun x => x.2) (fstB back) K
     | none => none
   | _, _, _ => none
 | none => none

inductive Ex where
 | normal | exit (id : Nat) | ret
/-- Where ways meet, and where a loop begins: which temporaries are kept, in this order (a nil slice in one of them, or in the struct that it points to, becomes an empty row where its elements' kinds are told); which blocks that came in are kept. A row or a box is then named by the temporary that holds it; what came in keeps its name. -/
structure Meet where
 tms : List (Nat × List (Nat × List Sc))
 ps : List Nat
def find : List (Nat × Nat) → Nat → Option Nat
 | [], _ => none
 | (a, b) :: l, id => match Nat.beq id a with | true => some b | false => find l id
def Cell.id : Cell → Option Nat
 | .ptr id _ _ => some id
 | .sl id => some id
 | .sub id _ _ => some id
 | _ => none
def LV.here : LV → List Cell
 | .c x => [x]
 | .agg xs => xs
 | _ => []
def cellMap (l : List (Nat × Nat)) : Cell → Cell
 | .s v => .s v
 | .ptr id i j => match find l id with | some n => .ptr n i j | none => .any
 | .sl id => match find l id with | some n => .sl n | none => .any
 | .sub id o n => match find l id with | some m => .sub m o n | none => .any
 | .any => .any
def lvMap (l : List (Nat × Nat)) : LV → LV
 | .c x => .c (cellMap l x)
 | .agg xs => .agg (xs.map (cellMap l))
 | .arr cs xs => .arr cs xs
 | .tup xs => .tup (xs.map fun p => (p.1, p.2.map (cellMap l)))
def blkMap (l : List (Nat × Nat)) : Blk → Blk
 | .box xs => .box (xs.map (cellMap l))
 | .row k cs xs => .row k cs xs
 | .gone => .gone
/-- Nil slices as empty rows, under passing names. -/
def nilCells (spec : List (Nat × List Sc)) : (Nat → Option Blk) → Nat → Nat → List Cell → List Cell × (Nat → Option Blk)
 | bl, _, _, [] => ([], bl)
 | bl, name, j, x :: l =>
   match x with
   | .s (.slice none 0 0) => match look none (spec.map fun y => (y.1, some y.2)) j, bl (500000000 + name) with
     | some (c :: cs), none =>
       let r := nilCells spec (upd bl (500000000 + name) (some (.row .own (c :: cs) []))) (name + 10000) (j + 1) l
       (.sl (500000000 + name) :: r.1, r.2)
     | _, _ => let r := nilCells spec bl (name + 10000) (j + 1) l
       (x :: r.1, r.2)
   | x => let r := nilCells spec bl (name + 10000) (j + 1) l
     (x :: r.1, r.2)
def nilTm (st : St) (t : Nat) (spec : List (Nat × List Sc)) : St :=
 match spec with
 | [] => st
 | spec => match st.tm t with
   | .c (.ptr id 0 0) => match st.bl id with
     | some (.box xs) => let r := nilCells spec st.bl (1009000 + t) 0 xs
       ⟨st.tm, upd r.2 id (some (.box r.1))⟩
     | _ => st
   | .c x => let r := nilCells spec st.bl (9000 + t) 0 [x]
     ⟨upd st.tm t (asLV false r.1), r.2⟩
   | .agg xs => let r := nilCells spec st.bl (9000 + t) 0 xs
     ⟨upd st.tm t (.agg r.1), r.2⟩
   | _ => st
def nilTms (st : St) : List (Nat × List (Nat × List Sc)) → St
 | [] => st
 | (t, spec) :: l => nilTms (nilTm st t spec) l
def addId (l : List (Nat × Nat)) (name : Nat) (x : Cell) : List (Nat × Nat) :=
 match x.id with
 | some id => match find l id with
   | some _ => l
   | none => l ++ [(id, match Nat.blt id 1000 with | true => id | false => name)]
 | none => l
def addIds : List (Nat × Nat) → Nat → List Cell → List (Nat × Nat)
 | l, _, [] => l
 | l, name, x :: xs => addIds (addId l name x) (name + 10000) xs
def tmIds (st : St) : List (Nat × Nat) → List (Nat × List (Nat × List Sc)) → List (Nat × Nat)
 | l, [] => l
 | l, (t, _) :: r => tmIds st (addIds l (9000 + t) (st.tm t).here) r
def boxIds (st : St) : List (Nat × Nat) → List (Nat × Nat) → List (Nat × Nat)
 | l, [] => l
 | l, (id, name) :: r => match st.bl id with
   | some (.box xs) => boxIds st (addIds l (name + 1000000) xs) r
   | _ => boxIds st l r
def meetBls (st : St) (l : List (Nat × Nat)) : List (Nat × Nat) → List (Nat × Blk)
 | [] => []
 | (id, name) :: r => match st.bl id with
   | some b => (name, blkMap l b) :: meetBls st l r
   | none => meetBls st l r
def okNames (l : List (Nat × Nat)) : Bool := apartB (l.map fun x => x.1) && apartB (l.map fun x => x.2) && l.all fun x => Nat.ble 1000 x.2 || Nat.beq x.1 x.2
def meet (m : Meet) (st0 : St) : St :=
 let st := nilTms st0 m.tms
 let l1 := tmIds st (m.ps.map fun n => (n, n)) m.tms
 let l := boxIds st l1 l1
 match okNames l with
 | true => fTms (m.tms.map fun t => (t.1, lvMap l (st.tm t.1))) fun a => fBls (meetBls st l l) fun b => mkSt a b
 | false => mkSt [] []
def atMeet (H : List (Nat × Meet)) (p : Nat) (st : St) : St :=
 match look none (H.map fun x => (x.1, some x.2)) p with
 | some m => meet m st
 | none => st

def isGuard (ops : List Oper) (i : Nat) : Bool := ops.any fun o => match o.guard with | some (j, _) => Nat.beq i j | none => false
def evOp {R : Type} (E : Env) (G : Cons R) (nid : Nat) (o : Oper) (st : St) (K : List Nat → List Nat → St → Option R) : Option R :=
 match o.op with
 | .call { callee := .value (.func f), args, .. } => evCall G nid o.dst f (args.toList.map st.val) st K
 | op => match plan E op nid st.val with
   | some (ids, f) => match f (ids.map st.bl) with
     | some (g, v, wr) => cond g (fLV v fun v => fBls wr fun wr => K ids (fstB wr) ⟨updO st.tm o.dst v, updL st.bl wr⟩) none
     | none => none
   | none => none
/-- In a region whose order is drawn: what each operation looks at and turns, so far. -/
structure Lg where
 i : Nat
 o : Oper
 rs : List Nat
 ws : List Nat
def memB (n : Nat) : List Nat → Bool
 | [] => false
 | m :: l => Nat.beq n m || memB n l
def disjB (l : List Nat) : List Nat → Bool
 | [] => true
 | m :: r => !memB m l && disjB l r
def bindsAny (e : Edge) : Bool :=
 match e.ground with
 | .textOnly _ => false
 | .gcOnly _ => false
 | _ => true
def boundB (o : Oper) (i : Nat) : Bool := o.after.toList.any fun e => bindsAny e && Nat.beq e.on i
/-- Bound by way of another. -/
def boundBy (o : Oper) (i : Nat) : List Lg → Bool
 | [] => false
 | m :: l => (boundB o m.i && boundB m.o i) || boundBy o i l
def okAfter (ops : List Oper) (i : Nat) (o : Oper) (rs ws : List Nat) (all : List Lg) : List Lg → Bool
 | [] => true
 | d :: l => (boundB o d.i || (Oper.apart ops.toArray d.o o && disjB d.rs ws && disjB d.ws rs && disjB d.ws ws) || boundBy o d.i all) && okAfter ops i o rs ws all l
def evLog (draw : Bool) (ops : List Oper) (i : Nat) (o : Oper) (rs ws : List Nat) (lg : List Lg) : Option (List Lg) :=
 match draw with
 | false => some []
 | true => match o.after.toList.all (fun e => !bindsAny e || Nat.blt e.on i) && okAfter ops i o rs ws lg lg with
   | true => some (⟨i, o, rs, ws⟩ :: lg)
   | false => none
def evOps {R : Type} (E : Env) (G : Cons R) (rid : Nat) (draw : Bool) (ops : List Oper) (K : St → Option R) : List Oper → Nat → List Lg → St → Option R
 | [], _, _, st => K st
 | o :: rest, i, lg, st =>
   let after (rs ws : List Nat) (st : St) : Option R := match evLog draw ops i o rs ws lg with
     | none => none
     | some lg => match isGuard ops i, o.dst with
       | true, some d => match st.tm d with
         | .c (.s (.bool b)) => cond b (evOps E G rid draw ops K rest (i + 1) lg ⟨upd st.tm d (bool true), st.bl⟩) (evOps E G rid draw ops K rest (i + 1) lg ⟨upd st.tm d (bool false), st.bl⟩)
         | .c (.s (.tuple _)) => evOps E G rid draw ops K rest (i + 1) lg st
         | _ => none
       | _, _ => evOps E G rid draw ops K rest (i + 1) lg st
   match o.guard with
   | none => evOp E G (1000 * rid + 10000000 + i * 100000000) o st after
   | some (j, want) => match ((ops[j]?).bind (·.dst)).map st.tm with
     | some (.c (.s (.bool b))) => match b, want with
       | true, true | false, false => evOp E G (1000 * rid + 10000000 + i * 100000000) o st after
       | _, _ => after [] [] ⟨updO st.tm o.dst (.c (.s undef)), st.bl⟩
     | some (.c (.s (.tuple _))) => after [] [] ⟨updO st.tm o.dst (.c (.s undef)), st.bl⟩
     | _ => none
abbrev Kont (R : Type) := Ex → St → Option R
def evLoop {R : Type} (f : St → Kont R → Option R) (m : St → St) (K : Kont R) : Nat → St → Option R
 | 0, _ => none
 | k + 1, st => f st fun e st' => match e with
   | .normal => evLoop f m K k (m st')
   | e => K e st'
def seqK {R : Type} (X : St → Option R) (K : Kont R) : Kont R := fun e st => match e with
 | .normal => X st
 | e => K e st
def blockK {R : Type} (id : Nat) (X : St → Option R) (K : Kont R) : Kont R := fun e st => match e with
 | .normal => X st
 | .exit j => match Nat.beq j id with
   | true => X st
   | false => K (.exit j) st
 | .ret => K .ret st
def loopK {R : Type} (f : St → Kont R → Option R) (m : St → St) (K : Kont R) (n : Nat) : Kont R := fun e st => match e with
 | .normal => evLoop f m K n (m st)
 | e => K e st
theorem cond_congr {α : Type} {c : Bool} {a a' b b' : α} (h : a = a') (h' : b = b') : cond c a b = cond c a' b' := by rw [h, h']
noncomputable def ev {R : Type} (E : Env) (G : Cons R) (k : Nat) (H : List (Nat × Meet)) (c : Code) : Nat → St → Kont R → Option R :=
 Code.rec (motive := fun _ => Nat → St → Kont R → Option R)
   (fun p st K => K .normal (atMeet H p st))
   (fun id ops draw p st K => evOps E G id draw ops.toList (fun st => K .normal (atMeet H p st)) ops.toList 0 [] st)
   (fun _ _ a b p st K => a (2 * p) st (seqK (fun st' => b (2 * p + 1) st' K) K))
   (fun c _ _ a b p st K => match st.val c with
     | .c (.s (.bool t)) => cond t (a (2 * p) st (seqK (fun st' => K .normal (atMeet H p st')) K)) (b (2 * p + 1) st (seqK (fun st' => K .normal (atMeet H p st')) K))
     | _ => none)
   (fun id _ a p st K => a (2 * p) st (blockK id (fun st' => K .normal (atMeet H p st')) K))
   (fun _ a p st K => evLoop (a (2 * p)) (atMeet H p) K k (atMeet H p st))
   (fun _ _ _ _ _ _ _ _ _ => none)
   (fun id p st K => K (.exit id) (atMeet H p st))
   (fun _ _ _ _ _ => none)
   (fun _ _ st K => K .normal st)
   (fun _ _ _ _ => none)
   (fun p st K => K .ret (atMeet H p st))
   (fun _ _ _ _ => none)
   c
/-- A part of a code: 'false' goes to the left (or in), 'true' to the right. -/
def nodeAt : Code → List Bool → Code
 | c, [] => c
 | .seq a _, false :: l => nodeAt a l
 | .seq _ b, true :: l => nodeAt b l
 | .cond _ a _, false :: l => nodeAt a l
 | .cond _ _ b, true :: l => nodeAt b l
 | .block _ a, false :: l => nodeAt a l
 | .loop a, false :: l => nodeAt a l
 | c, _ => c
def bodyOf (fn : Func) : Code := match fn.body with | some c => c | none => .skip
/-- The first parts of a sequence, and then whatever. -/
noncomputable def evPre {R : Type} (E : Env) (G : Cons R) (k : Nat) (H : List (Nat × Meet)) : Nat → Code → Nat → St → (St → Option R) → Kont R → Option R
 | 0, _, _, st, X, _ => X st
 | n + 1, .seq a b, p, st, X, K => ev E G k H a (2 * p) st (seqK (fun st' => evPre E G k H n b (2 * p + 1) st' X K) K)
 | _ + 1, _, _, _, _, _ => none
/-- For each cell of a value of a type: its elements' kinds, if it is a slice. -/
def cellKinds (P : Program) : Nat → TypeId → List (Option (List Sc))
 | 0, _ => []
 | d + 1, t => match P.underlying t with
   | some (.slice e) => [scs? P e]
   | some (.struct fs) => fs.toList.flatMap fun f => cellKinds P d f.type
   | _ => [none]
def tyK : Bool → Kind → Kind
 | true, _ => .ro
 | false, k => k
def typedNil (ro : Bool) : List (Option (List Sc)) → List PC → List PC
 | _, [] => []
 | some cs :: ks, .s (.slice none 0 0) :: l => .row (tyK ro .own) cs [] :: typedNil ro ks l
 | ks, .row k cs xs :: l => .row (tyK ro k) cs xs :: typedNil ro ks.tail l
 | ks, p :: l => p :: typedNil ro ks.tail l
def typedRV (P : Program) (ro : Bool) (t : TypeId) : RV → RV
 | .val agg ps => .val agg (typedNil ro (cellKinds P 4 t) ps)
 | v => v
/-- An answer's value where the function ends. -/
def resLV (P : Program) (st : St) : ResultVar → Option LV
 | .tmp t => some (st.tm t)
 | .cell a t => match st.tm a with
   | .c (.ptr id 0 0) => match st.bl id with
     | some (.box xs) => match P.underlying t with
       | some (.struct _) => match Nat.beq (sizeOf? P t) xs.length with
         | true => some (.agg xs)
         | false => none
       | some (.array ..) => none
       | none => none
       | some _ => match xs with
         | [x] => some (.c x)
         | _ => none
     | _ => none
   | _ => none
/-- A function's answer out of the state in which it ends. -/
def resOf (P : Program) (ro : Bool) (st : St) : List ResultVar → List TypeId → Option (List RV)
 | r :: l, t :: ts =>
   match (match resLV P st r with
     | some v => rvOf st.bl v
     | none => none), resOf P ro st l ts with
   | some v, some vs => some (typedRV P ro t v :: vs)
   | _, _ => none
 | [], _ => some []
 | _, _ => none
/-- A struct that was handed by address: its numbers and texts may be new, its rows are the same. -/
def updCells (st : St) : Nat → List Cell → Option (List PC)
 | _, [] => some []
 | id, .s v :: l => match updCells st (id + 1) l with
   | some ps => some (.s v :: ps)
   | none => none
 | id, .sl i :: l => match Nat.beq i id, st.bl i, updCells st (id + 1) l with
   | true, some (.row k cs xs), some ps => some (.row k cs xs :: ps)
   | _, _, _ => none
 | _, _ => none
def updsOf (st : St) : List Turn → Option (List (List PC))
 | [] => some []
 | x :: l =>
   match (match x with
     | .ref id => match st.bl id with
       | some (.box xs) => updCells st (id - 31) xs
       | _ => none
     | .row id => match st.bl id with
       | some (.row k cs xs) => some [.row k cs xs]
       | _ => none
     | .nil => none), updsOf st l with
   | some v, some vs => some (v :: vs)
   | _, _ => none
/-- The blocks of the answer's rows: our own are to stand but once. -/
def resIts (bl : Nat → Option Blk) : List Cell → List (Bool × Nat)
 | [] => []
 | .sl id :: l => match bl id with
   | some (.row .ro _ _) => (false, id) :: resIts bl l
   | _ => (true, id) :: resIts bl l
 | .sub id _ _ :: l => (false, id) :: resIts bl l
 | _ :: l => resIts bl l
def resVIts (bl : Nat → Option Blk) : LV → List (Bool × Nat)
 | .c (.ptr id 0 0) => match bl id with
   | some (.box xs) => (true, id) :: resIts bl xs
   | _ => []
 | .c x => resIts bl [x]
 | .agg xs => resIts bl xs
 | _ => []
def resAll (P : Program) (st : St) : List ResultVar → List (Bool × Nat)
 | [] => []
 | r :: l => match resLV P st r with
   | some v => resVIts st.bl v ++ resAll P st l
   | none => resAll P st l
def turnIts : List Turn → List (Bool × Nat)
 | [] => []
 | .ref id :: l => (true, id) :: turnIts l
 | .row id :: l => (true, id) :: turnIts l
 | .nil :: l => turnIts l
def noRef : List RV → Bool
 | [] => true
 | .val _ _ :: l => noRef l
 | .ref _ :: _ => false
def rowIds : Nat → List PC → List Turn
 | _, [] => []
 | id, .row _ _ _ :: l => .row id :: rowIds (id + 1) l
 | id, .s (.slice none 0 0) :: l => .nil :: rowIds (id + 1) l
 | id, _ :: l => rowIds (id + 1) l
/-- How the rows of an argument come in. -/
def fixRo : Bool → Kind
 | true => .fix
 | false => .ro
def inKind (muts : List Nat) (n : Nat) (v : RV) : Kind → Kind := fun _ => match v with
 | .ref _ => .ro
 | .val _ _ => fixRo (muts.contains n)
def entered (muts : List Nat) : Nat → List RV → List (Nat × LV) × List (Nat × Blk) × List Turn
 | _, [] => ([], [], [])
 | n, v :: l =>
   let x := takeRV (inKind muts n v) (32 * n) v
   let r := entered muts (n + 1) l
   ((n, asLV x.1.1 x.1.2) :: r.1, x.2 ++ r.2.1, (match v with
     | .ref _ => [.ref (32 * n + 31)]
     | .val _ ps => match muts.contains n with
       | true => rowIds (32 * n) ps
       | false => []) ++ r.2.2)
/-- A row that comes in: nil counts as empty. -/
def withRow {R : Type} (cs : List Sc) (p : PC) (k : List (RowT cs) → Option R) : Option R :=
 match p with
 | .row _ ds xs => if h : ds = cs then k (h ▸ xs) else none
 | .s (.slice none 0 0) => k []
 | _ => none
def refIds : List Turn → List Nat
 | [] => []
 | .ref id :: l => id :: refIds l
 | _ :: l => refIds l
/-- What an answer's rows and the turned blocks must not share. -/
def ansOk (ro : Bool) (ts : List Turn) (vs : List RV) (its : List (Bool × Nat)) : Bool :=
 match ro with
 | true => noRef vs && its.all fun q => (refIds ts).all fun id => !Nat.beq id q.2
 | false => itsOk (turnIts ts ++ its)
/-- The last step: the answer. -/
def fin {R : Type} (P : Program) (ro : Bool) (fn : Func) (ts : List Turn) (K : Ret → Option R) : Kont R := fun e st =>
 match e with
 | .exit _ => none
 | _ => match resOf P ro st fn.results.toList fn.resultTypes.toList, updsOf st ts with
   | some vs, some us => match ansOk ro ts vs (resAll P st fn.results.toList) with
     | true => K ⟨vs, us⟩
     | false => none
   | _, _ => none
def RV.len : RV → Nat
 | .val _ ps => ps.length
 | .ref ps => ps.length
/-- There are not more arguments than there are names. -/
def argsFit (args : List RV) : Bool := Nat.ble args.length 30 && args.all fun v => Nat.ble v.len 31
noncomputable def evFunc {R : Type} (E : Env) (G : Cons R) (k : Nat) (H : List (Nat × Meet)) (muts : List Nat) (ro : Bool) (fn : Func) (args : List RV) (K : Ret → Option R) : Option R :=
 let x := entered muts 0 args
 match apartB (fstB x.2.1) && argsFit args with
 | true => ev E G k H (bodyOf fn) 1 (mkSt x.1 x.2.1) (fin E.P ro fn x.2.2 K)
 | false => none
end Go.Ev
