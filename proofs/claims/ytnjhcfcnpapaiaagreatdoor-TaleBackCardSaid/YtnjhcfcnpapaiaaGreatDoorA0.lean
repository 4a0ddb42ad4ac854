/- The abstract machine: values, heap, and an interpreter in continuation form over the model's own code. Nothing here is trusted. -/
import Derived.Orders
import Derived.KernelRfl
set_option linter.unusedVariables false
set_option linter.unusedSimpArgs false
namespace Go.AM

/-- Abstract values. 'undef': nothing is known. A pointer is a block's number and an offset; a slice's capacity may be unknown; its last number is its element's size. -/
inductive AV where
  | undef
  | bool (b : Bool)
  | int (k : IntKind) (n : Int)
  | str (s : ByteArray)
  | ptr (o : Option (Nat × Nat))
  | slice (o : Option (Nat × Nat)) (len : Nat) (cap : Option Nat) (esz : Nat)
  | map (o : Option Nat)
  | func (fn : Fn) (first captured : List AV)
  | nilFunc
  | iface (t : TypeId) (v : AV)
  | nilIface
  | agg (cells : List AV)
  | tuple (vs : List AV)
  deriving Inhabited

/-- A slice's parts. -/
structure Sl where
  o : Option (Nat × Nat)
  len : Nat
  cap : Option Nat

namespace AV
def toBool : AV → Option Bool | .bool b => some b | _ => none
def toInt (k : IntKind) : AV → Option Int | .int j n => if j = k then some n else none | _ => none
def toStr : AV → Option ByteArray | .str s => some s | _ => none
def toPtr : AV → Option (Option (Nat × Nat)) | .ptr p => some p | _ => none
def toSl (e : Nat) : AV → Option Sl | .slice o l c f => if f = e then some ⟨o, l, c⟩ else none | _ => none
def toMap : AV → Option (Option Nat) | .map m => some m | _ => none
def toAgg : AV → Option (List AV) | .agg cs => some cs | _ => none
def toTuple : AV → Option (List AV) | .tuple vs => some vs | _ => none
def cells : AV → List AV | .agg cs => cs | v => [v]
def one : AV → Bool | .agg _ | .tuple _ | .undef => false | _ => true

mutual
def beq : AV → AV → Bool
  | .bool a, .bool b => a == b
  | .int k a, .int j b => k == j && a == b
  | .str a, .str b => decide (a = b)
  | .ptr a, .ptr b => decide (a = b)
  | .slice a n c e, .slice b m d f => decide (a = b) && n == m && decide (c = d) && e == f
  | .map a, .map b => decide (a = b)
  | .func f a b, .func g c d => decide (f = g) && beqL a c && beqL b d
  | .nilFunc, .nilFunc => true
  | .iface t a, .iface u b => t == u && beq a b
  | .nilIface, .nilIface => true
  | .agg a, .agg b => beqL a b
  | .tuple a, .tuple b => beqL a b
  | _, _ => false
def beqL : List AV → List AV → Bool
  | [], [] => true
  | a :: x, b :: y => beq a b && beqL x y
  | _, _ => false
end
end AV

/-- A block: a row of cells ('own': the machine's own, else only to be read), a map's entries, an iterator; 'glob': what the program's variable of this number holds, only to be read; 'dead': no longer to be used. -/
inductive Blk where
  | cells (cs : List AV) (own : Bool)
  | map (es : List (AV × AV × Nat)) (clock : Nat)
  | siter (s : ByteArray) (pos : Nat)
  | miter (m : Option Nat) (since : Nat) (seen : List Nat) (stepped : Nat)
  | glob (g : Nat) (cs : List AV)
  | dead
  deriving Inhabited

/-- The heap: a tree over the numbers' binary digits. -/
inductive Heap where
  | leaf
  | node (v : Option Blk) (l r : Heap)

namespace Heap
def get : Heap → Nat → Nat → Option Blk
  | .leaf, _, _ => none
  | .node v _ _, _, 0 => v
  | .node _ _ _, 0, _ + 1 => none
  | .node _ l r, f + 1, k + 1 => if k % 2 = 0 then get l f (k / 2) else get r f (k / 2)
def set : Nat → Heap → Nat → Blk → Heap
  | _, .leaf, 0, b => .node (some b) .leaf .leaf
  | _, .node _ l r, 0, b => .node (some b) l r
  | 0, h, _ + 1, _ => h
  | f + 1, .leaf, k + 1, b => if k % 2 = 0 then .node none (set f .leaf (k / 2) b) .leaf else .node none .leaf (set f .leaf (k / 2) b)
  | f + 1, .node v l r, k + 1, b => if k % 2 = 0 then .node v (set f l (k / 2) b) r else .node v l (set f r (k / 2) b)
def set' (h : Heap) (k : Nat) (b : Blk) : Heap := set k h k b
end Heap

/-- A state: the heap, the next block's number. -/
structure St where
  heap : Heap
  next : Nat

namespace St
def get (s : St) (b : Nat) : Option Blk := s.heap.get b b
def put (s : St) (b : Nat) (x : Blk) : St := { s with heap := s.heap.set' b x }
def new (s : St) (x : Blk) : St := { heap := s.heap.set' s.next x, next := s.next + 1 }
/-- The cells of a live row. -/
def row (s : St) (b : Nat) : Option (List AV) := (s.get b).bind fun | .cells cs _ => some cs | _ => none
def rowOwn (s : St) (b : Nat) : Option (List AV) := (s.get b).bind fun | .cells cs true => some cs | _ => none
def ld (s : St) (b off : Nat) : Option AV := (s.row b).bind (·[off]?)
def lds (s : St) (b off n : Nat) : Option (List AV) := (s.row b).bind fun cs => if off + n ≤ cs.length then some ((cs.drop off).take n) else none
def splice (cs : List AV) (off : Nat) (vs : List AV) : List AV := cs.take off ++ vs ++ cs.drop (off + vs.length)
def st (s : St) (b off : Nat) (vs : List AV) : Option St :=
  (s.rowOwn b).bind fun cs => if off + vs.length ≤ cs.length then some (s.put b (.cells (splice cs off vs) true)) else none
def same (s : St) (b off : Nat) (vs : List AV) : Bool := match s.lds b off vs.length with | some us => AV.beqL us vs | none => false
end St

/-- Shapes of cells. -/
inductive Sh where
  | bool | int (k : IntKind) | str | ptr | slice (esz : Nat) | map | any
  deriving DecidableEq, Repr, Inhabited

/-- The shape of each cell of a type. -/
def shOf (P : Program) : Nat → TypeId → Option (List Sh)
  | 0, _ => none
  | n + 1, t => match P.underlying t with
    | some .bool => some [.bool]
    | some (.int k) => some [.int k]
    | some .string => some [.str]
    | some (.pointer _) => some [.ptr]
    | some (.slice e) => some [.slice (P.cellsOf e)]
    | some (.map _ _) => some [.map]
    | some (.func _ _ _) => some [.any]
    | some (.interface _) => some [.any]
    | some (.struct fs) => (fs.toList.mapM fun f => shOf P n f.type).map List.flatten
    | some (.array len e) => (shOf P n e).map fun s => (List.replicate len s).flatten
    | _ => none
def depthT : Nat := 30
def isAggT (P : Program) (t : TypeId) : Bool := match P.underlying t with | some (.struct _) | some (.array _ _) => true | _ => false

section
variable {R : Type}

def castSh : Sh → AV → (AV → Option R) → Option R
  | .bool, v, K => v.toBool.bind fun b => K (.bool b)
  | .int k, v, K => (v.toInt k).bind fun n => K (.int k n)
  | .str, v, K => v.toStr.bind fun s => K (.str s)
  | .ptr, v, K => v.toPtr.bind fun p => K (.ptr p)
  | .slice e, v, K => (v.toSl e).bind fun s => K (.slice s.o s.len s.cap e)
  | .map, v, K => v.toMap.bind fun m => K (.map m)
  | .any, v, K => if v.one then K v else none

def castL : List Sh → List AV → (List AV → Option R) → Option R
  | [], _, K => K []
  | s :: ss, vs, K => vs.head?.bind fun v => castSh s v fun v' => castL ss vs.tail fun r => K (v' :: r)

def ldT (σ : St) (b : Nat) : Nat → List Sh → (List AV → Option R) → Option R
  | _, [], K => K []
  | off, s :: ss, K => (σ.ld b off).bind fun v => castSh s v fun v' => ldT σ b (off + 1) ss fun r => K (v' :: r)

/-- A value of a type out of an unknown one. -/
def castVal (P : Program) (t : TypeId) (v : AV) (K : AV → Option R) : Option R :=
  match shOf P depthT t with
  | none => none
  | some shs =>
    if isAggT P t then v.toAgg.bind fun cs => if cs.length = shs.length then castL shs cs fun cs' => K (.agg cs') else none
    else match shs with | [s] => castSh s v K | _ => none

def castVals (P : Program) : List TypeId → List AV → (List AV → Option R) → Option R
  | [], _, K => K []
  | t :: ts, vs, K => vs.head?.bind fun v => castVal P t v fun v' => castVals P ts vs.tail fun r => K (v' :: r)

/-- A call's result, of the type of the operation (a tuple's, where it has none or several). -/
def castRes (P : Program) (t : TypeId) (v : AV) (K : AV → Option R) : Option R :=
  match P.underlying t with
  | some (.tuple ts) => v.toTuple.bind fun vs => if vs.length = ts.toList.length then castVals P ts.toList vs fun vs' => K (.tuple vs') else none
  | _ => castVal P t v K
end

/-- A constant. -/
def ofV : Value → AV
  | .bool b => .bool b
  | .int k n => .int k n
  | .string s => .str s
  | .pointer none => .ptr none
  | .nilFunc => .nilFunc
  | .nilIface => .nilIface
  | .map none => .map none
  | _ => .undef

/-- A constant of a type: a nil slice takes its element's size from it. -/
def ofVT (P : Program) (t : TypeId) (v : Value) : AV :=
  match v, P.underlying t with
  | .slice none 0 0, some (.slice e) => .slice none 0 (some 0) (P.cellsOf e)
  | .tuple vs, _ => if vs.size = 0 then .tuple [] else .undef
  | _, _ => ofV v

/-- The zero cells of a type. -/
def zeroSh : Sh → Option AV
  | .bool => some (.bool false)
  | .int k => some (.int k 0)
  | .str => some (.str .empty)
  | .ptr => some (.ptr none)
  | .slice e => some (.slice none 0 (some 0) e)
  | .map => some (.map none)
  | .any => none
def ofZero (s : Sh) (v : Value) : Option AV :=
  match s, v with
  | .bool, .bool b => some (.bool b)
  | .int k, .int j n => if j = k then some (.int k n) else none
  | .str, .string x => some (.str x)
  | .ptr, .pointer none => some (.ptr none)
  | .slice e, .slice none 0 0 => some (.slice none 0 (some 0) e)
  | .map, .map none => some (.map none)
  | .any, .nilFunc => some .nilFunc
  | .any, .nilIface => some .nilIface
  | _, _ => none
def zipZero : List Sh → List Value → Option (List AV)
  | [], [] => some []
  | s :: ss, v :: vs => (ofZero s v).bind fun a => (zipZero ss vs).bind fun r => some (a :: r)
  | _, _ => none
def zeroCellsT (P : Program) (t : TypeId) : Option (List AV) :=
  (P.info? t).bind fun i => i.zero.bind fun z => (shOf P depthT t).bind fun shs => zipZero shs z.cells.toList

abbrev Env := List AV
def Env.at (e : Env) (t : Nat) : AV := (e[t]?).getD .undef

/-- An operand's value. (A global is not taken.) -/
def ev (_ : Program) (e : Env) : Operand → AV
  | .tmp t => e.at t
  | .const v => ofV v
  | .global _ => .undef
  | .func f => .func (.func f) [] []

/-- An operand's value, where its type is known: for the nil slice. -/
def evT (P : Program) (e : Env) (t : TypeId) : Operand → AV
  | .const v => ofVT P t v
  | x => ev P e x

end Go.AM
