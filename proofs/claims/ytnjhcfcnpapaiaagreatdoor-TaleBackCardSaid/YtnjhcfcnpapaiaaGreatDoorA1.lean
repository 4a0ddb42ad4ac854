/- The abstract machine, continued: operations, regions, code, calls. -/
import Derived.Test.YtnjhcfcnpapaiaaGreatDoorAF
set_option linter.unusedVariables false
set_option linter.unusedSimpArgs false
namespace Go.AM

def eqCell : Sh → AV → AV → Option Bool
  | .bool, .bool a, .bool b => some (a == b)
  | .int k, .int i a, .int j b => if i = k ∧ j = k then some (a == b) else none
  | .str, .str a, .str b => some (decide (a = b))
  | _, _, _ => none

/-- A part of an aggregate's cells. -/
def partOf (P : Program) (t : TypeId) (cs : List AV) (off : Nat) : Option AV :=
  if (P.underlying t).isNone then none else if isAggT P t then (if off + P.cellsOf t ≤ cs.length then some (.agg ((cs.drop off).take (P.cellsOf t))) else none) else cs[off]?

/-- Plain comparisons: bools, integers, strings, and structs and arrays of these, part by part. -/
def eqFs (P : Program) (eq : TypeId → AV → AV → Option Bool) (xs ys : List AV) : List Field → Option Bool
  | [] => some true
  | f :: fs => if f.name = "_" then none else (partOf P f.type xs f.offset).bind fun a => (partOf P f.type ys f.offset).bind fun b => (eq f.type a b).bind fun r => (eqFs P eq xs ys fs).bind fun u => some (r && u)
def eqIs (P : Program) (e : TypeId) (eq : AV → AV → Option Bool) (xs ys : List AV) : List Nat → Option Bool
  | [] => some true
  | i :: is => (partOf P e xs (i * P.cellsOf e)).bind fun a => (partOf P e ys (i * P.cellsOf e)).bind fun b => (eq a b).bind fun r => (eqIs P e eq xs ys is).bind fun u => some (r && u)
def aeqT (P : Program) : Nat → TypeId → AV → AV → Option Bool
  | 0, _, _, _ => none
  | n + 1, t, x, y =>
    match P.underlying t with
    | some .bool => eqCell .bool x y
    | some (.int k) => eqCell (.int k) x y
    | some .string => eqCell .str x y
    | some (.struct fs) => if P.stoodInHeld t then none else match x, y with | .agg a, .agg b => eqFs P (aeqT P n) a b fs.toList | _, _ => none
    | some (.array len e) => if len = 0 then none else match x, y with | .agg a, .agg b => eqIs P e (aeqT P n e) a b (List.range len) | _, _ => none
    | _ => none

/-- Pointers: against nil, or in one block. -/
def ptrEq (a b : Option (Nat × Nat)) : Option Bool :=
  match b with
  | none => some a.isNone
  | some y => match a with
    | none => some false
    | some x => if x.1 = y.1 then some (x.2 == y.2) else none

def aeq (P : Program) (t : TypeId) (x y : AV) : Option Bool :=
  match P.underlying t with
  | some .bool => eqCell .bool x y
  | some (.pointer e) => if P.cellsOf e = 0 then none else match x, y with | .ptr a, .ptr b => ptrEq a b | _, _ => none
  | some (.slice _) => match x, y with
    | .slice a _ _ _, .slice none _ _ _ => some a.isNone
    | _, _ => none
  | some (.map _ _) => match x, y with | .map a, .map none => some a.isNone | _, _ => none
  | some (.func _ _ _) => match x, y with | .func _ _ _, .nilFunc => some false | .nilFunc, .nilFunc => some true | _, _ => none
  | some (.interface _) => match x, y with | .iface _ _, .nilIface => some false | _, _ => none
  | some (.struct _) | some (.array _ _) => if P.eqGuardType P.depth t then none else aeqT P depthT t x y
  | _ => none

def intBits (op : BinOp) (k : IntKind) (x y : Int) : Option Int :=
  match op with
  | .and => some (k.wrap (BitVec.ofInt k.bits x &&& BitVec.ofInt k.bits y).toNat)
  | .or => some (k.wrap (BitVec.ofInt k.bits x ||| BitVec.ofInt k.bits y).toNat)
  | .xor => some (k.wrap (BitVec.ofInt k.bits x ^^^ BitVec.ofInt k.bits y).toNat)
  | .andNot => some (k.wrap (BitVec.ofInt k.bits x &&& ~~~BitVec.ofInt k.bits y).toNat)
  | _ => none

section
variable {R : Type}

/-- Two operands. -/
def abin (P : Program) (op : BinOp) (t : TypeId) (x y : AV) (K : AV → Option R) : Option R :=
  match x, y with
  | .int k a, .int j b =>
    match op with
    | .shl => if b < 0 then none else K (.int k (k.wrap (a * 2 ^ (min b.toNat k.bits))))
    | .shr => if b < 0 then none else K (.int k (a.fdiv (2 ^ (min b.toNat k.bits))))
    | _ => if k = j then
        match op with
        | .add => K (.int k (k.wrap (a + b)))
        | .sub => K (.int k (k.wrap (a - b)))
        | .mul => K (.int k (k.wrap (a * b)))
        | .quo => if b = 0 then none else K (.int k (k.wrap (a.tdiv b)))
        | .rem => if b = 0 then none else K (.int k (a.tmod b))
        | .eql => K (.bool (a == b))
        | .neq => K (.bool (a != b))
        | .lss => K (.bool (decide (a < b)))
        | .leq => K (.bool (decide (a ≤ b)))
        | .gtr => K (.bool (decide (a > b)))
        | .geq => K (.bool (decide (a ≥ b)))
        | op => (intBits op k a b).bind fun n => K (.int k n)
      else none
  | .str a, .str b =>
    match op with
    | .add => if ((a.size + b.size : Nat) : Int) > IntKind.i64.max then none else K (.str (a ++ b))
    | .eql => K (.bool (decide (a = b)))
    | .neq => K (.bool !(decide (a = b)))
    | .lss => K (.bool (Op.bytesLess a.toList b.toList))
    | .leq => K (.bool (Op.bytesLess a.toList b.toList || decide (a = b)))
    | .gtr => K (.bool !(Op.bytesLess a.toList b.toList || decide (a = b)))
    | .geq => K (.bool !(Op.bytesLess a.toList b.toList))
    | _ => none
  | x, y =>
    match op with
    | .eql => (aeq P t x y).bind fun b => K (.bool b)
    | .neq => (aeq P t x y).bind fun b => K (.bool !b)
    | _ => none

def aun (op : UnOp) (x : AV) (K : AV → Option R) : Option R :=
  match op, x with
  | .not, .bool b => K (.bool !b)
  | .neg, .int k n => K (.int k (k.wrap (0 - n)))
  | .xor, .int k n => (intBits .xor k (if k.signed then -1 else k.max) n).bind fun m => K (.int k m)
  | _, _ => none
end

/-- A slice's elements' cells. -/
def St.elems (σ : St) (sz : Nat) (s : Sl) (n : Nat) : Option (List AV) :=
  if n = 0 then some [] else if n ≤ s.len then s.o.bind fun a => σ.lds a.1 a.2 (n * sz) else none

/-- append: n elements, of these cells. -/
def St.app (σ : St) (sz bytes : Nat) (s : Sl) (n : Nat) (news : List AV) : Option (Sl × St) :=
  if n = 0 then some (s, σ) else
  if (s.len + n) * (bytes + 1) > 2 ^ 46 then none else
  match s.cap with
  | some c =>
    if s.len + n ≤ c then s.o.bind fun a => (σ.st a.1 (a.2 + s.len * sz) news).bind fun σ' => some (⟨s.o, s.len + n, some c⟩, σ')
    else (σ.elems sz s s.len).bind fun old => some (⟨some (σ.next, 0), s.len + n, none⟩, σ.new (.cells (old ++ news) true))
  | none => s.o.bind fun a => (σ.rowOwn a.1).bind fun cs =>
    if a.2 + (s.len + n) * sz ≤ cs.length then (σ.st a.1 (a.2 + s.len * sz) news).bind fun σ' => some (⟨s.o, s.len + n, none⟩, σ')
    else if a.2 + s.len * sz ≤ cs.length then
      some (⟨some (σ.next, 0), s.len + n, none⟩, (σ.put a.1 .dead).new (.cells ((cs.drop a.2).take (s.len * sz) ++ news) true))
    else none

def St.copy (σ : St) (sz : Nat) (d s : Sl) : Option (Nat × St) :=
  if min s.len d.len = 0 then some (0, σ) else
  (σ.elems sz s (min s.len d.len)).bind fun cs => d.o.bind fun a => (σ.st a.1 a.2 cs).bind fun σ' => some (min s.len d.len, σ')

/-- Slicing: of a slice, or of an array (whose capacity is its length). -/
def Sl.sub (sz : Nat) (s : Sl) (lo hi mx : Option Int) : Option Sl :=
  let c := s.cap.getD s.len
  let m : Option Nat := match mx with | some v => if 0 ≤ v ∧ v ≤ c then some v.toNat else none | none => some c
  m.bind fun m =>
  let h : Option Nat := match hi with | some v => if 0 ≤ v ∧ v ≤ m then some v.toNat else none | none => if mx.isSome then none else some s.len
  h.bind fun h =>
  let l : Option Nat := match lo with | some v => if 0 ≤ v ∧ v ≤ h then some v.toNat else none | none => some 0
  l.bind fun l =>
  let cap : Option Nat := if mx.isSome then some (m - l) else s.cap.map (· - l)
  some ⟨s.o.map fun a => if cap.isSome ∧ m = l then a else (a.1, a.2 + l * sz), h - l, cap⟩

def strSub (s : ByteArray) (lo hi : Option Int) : Option ByteArray :=
  let h : Option Nat := match hi with | some v => if 0 ≤ v ∧ v ≤ s.size then some v.toNat else none | none => some s.size
  h.bind fun h =>
  let l : Option Nat := match lo with | some v => if 0 ≤ v ∧ v ≤ h then some v.toNat else none | none => some 0
  l.bind fun l => some (s.extract l h)

def byteAt (s : ByteArray) (i : Int) : Option Nat := if 0 ≤ i then (s[i.toNat]?).map (·.toNat) else none

/-- An optional bound: an integer's number. -/
def bound (P : Program) (e : Env) : Option Operand → Option (Option Int)
  | none => some none
  | some x => match ev P e x with | .int _ n => some (some n) | _ => none

def aFill (place : Nat → Option (Nat × Nat)) (cells : List AV) : List (Nat × AV) → Option (List AV)
  | [] => some cells
  | (i, v) :: rest =>
    match place i with
    | none => none
    | some (off, size) => if v.cells.length ≠ size || off + size > cells.length then none else aFill place (St.splice cells off v.cells) rest

/-- The place of each part of a struct or an array. -/
def placeOf (P : Program) (t : TypeId) (i : Nat) : Option (Nat × Nat) :=
  match P.underlying t with
  | some (.struct fs) => (fs[i]?).map fun f => (f.offset, P.cellsOf f.type)
  | some (.array _ e) => some (i * P.cellsOf e, P.cellsOf e)
  | _ => none

/-- Each part's type has its row. -/
def infoOK (P : Program) (t : TypeId) : Bool :=
  match P.underlying t with
  | some (.struct fs) => fs.toList.all fun f => (P.info? f.type).isSome
  | some (.array _ e) => (P.info? e).isSome
  | _ => false

/-- Maps' keys that are plain: the shapes of their cells; is a key an aggregate? -/
def plainSh (P : Program) (t : TypeId) : Option Sh :=
  match P.underlying t with
  | some .bool => some .bool
  | some (.int k) => some (.int k)
  | some .string => some .str
  | _ => none
def fieldsSh (P : Program) : Nat → List Field → Option (List Sh)
  | _, [] => some []
  | i, f :: fs => if f.name = "_" ∨ f.offset ≠ i then none else (plainSh P f.type).bind fun s => (fieldsSh P (i + 1) fs).bind fun r => some (s :: r)
def keySh (P : Program) (t : TypeId) : Option (Bool × List Sh) :=
  match P.underlying t with
  | some (.struct fs) => if P.stoodInHeld t then none else (fieldsSh P 0 fs.toList).bind fun r => some (true, r)
  | _ => (plainSh P t).bind fun s => some (false, [s])
def keyCells (ag : Bool) (v : AV) : Option (List AV) := if ag = true then v.toAgg else some [v]
def eqCells : List Sh → List AV → List AV → Option Bool
  | [], [], [] => some true
  | s :: ss, x :: xs, y :: ys => (eqCell s x y).bind fun a => (eqCells ss xs ys).bind fun b => some (a && b)
  | _, _, _ => none
/-- Where a key is, and what is there. -/
def findKey (ag : Bool) (shs : List Sh) (k : List AV) : List (AV × AV × Nat) → Nat → Option (Option (Nat × AV))
  | [], _ => some none
  | x :: es, i => (keyCells ag x.1).bind fun c => (eqCells shs k c).bind fun b => if b = true then some (some (i, x.2.1)) else findKey ag shs k es (i + 1)
def mapSet (ag : Bool) (shs : List Sh) (k : List AV) (kv xv : AV) (es : List (AV × AV × Nat)) (c : Nat) : Option (List (AV × AV × Nat) × Nat) :=
  (findKey ag shs k es 0).bind fun r => match r with
    | some p => some (es.modify p.1 fun e => (kv, xv, e.2.2), c)
    | none => some (es ++ [(kv, xv, c)], c + 1)
def mapDel (ag : Bool) (shs : List Sh) (k : List AV) (es : List (AV × AV × Nat)) : Option (List (AV × AV × Nat)) :=
  (findKey ag shs k es 0).bind fun r => match r with
    | some p => some (es.eraseIdx p.1)
    | none => some es
def St.map (s : St) (b : Nat) : Option (List (AV × AV × Nat) × Nat) := (s.get b).bind fun | .map es c => some (es, c) | _ => none
def St.iter (s : St) (b : Nat) : Option (Option Nat × Nat × List Nat × Nat) := (s.get b).bind fun | .miter m a l c => some (m, a, l, c) | _ => none
def St.entries (s : St) : Option Nat → Option (List (AV × AV × Nat))
  | none => some []
  | some b => (s.map b).bind fun q => some q.1
/-- The zero value of a type. -/
def zeroAV (P : Program) (t : TypeId) : Option AV :=
  (P.info? t).bind fun i => i.zero.bind fun z => (shOf P depthT t).bind fun shs => (zipZero shs z.cells.toList).bind fun l => match z, l with
    | .agg _, l => some (.agg l)
    | _, [a] => some a
    | _, _ => none
/-- What a map's key is, told once it is right. -/
def keyArg (P : Program) (kt : TypeId) (v : AV) : Option (Bool × List Sh × List AV) :=
  (keySh P kt).bind fun q => (keyCells q.1 v).bind fun c => (eqCells q.2 c c).bind fun _ => some (q.1, q.2, c)
/-- Which entries a round may take: all that are left, if none is new. -/
def leftOf (es : List (AV × AV × Nat)) (since : Nat) (seen : List Nat) (last : Nat) : Option (List (AV × AV × Nat)) :=
  if (es.all fun x => decide (x.2.2 < since)) = true ∧ since ≤ last then some (es.filter fun x => !seen.contains x.2.2) else none

/-- The machine's own calls. -/
abbrev CallF (R : Type) := FuncId → List AV → St → (AV → St → Option R) → Option R

section
variable {R : Type}

/-- A value that is called: a function, its first arguments and what it captured. -/
def callV (call : CallF R) (f : AV) (args : List AV) (σ : St) (K : AV → St → Option R) : Option R :=
  match f with
  | .func (.func i) first captured => call i (first ++ args ++ captured) σ K
  | _ => none

def evArgs (P : Program) (e : Env) : List TypeId → List Operand → List AV
  | t :: ts, x :: xs => evT P e t x :: evArgs P e ts xs
  | [], x :: xs => ev P e x :: evArgs P e [] xs
  | _, [] => []

def abuiltin (P : Program) (b : Builtin) (ts : List TypeId) (args : List AV) (σ : St) (K : AV → St → Option R) : Option R :=
  match b, ts, args with
  | .len, [t], [.str s] => match P.underlying t with | some .string => K (.int .i64 s.size) σ | _ => none
  | .len, [t], [.slice _ n _ _] => match P.underlying t with | some (.slice _) => K (.int .i64 n) σ | _ => none
  | .append, [t, u], [.slice o n c e, x] =>
    match P.underlying t, P.underlying u with
    | some (.slice el), some (.slice el') =>
      if e = P.cellsOf el ∧ (zeroCellsT P el).map List.length = some e ∧ 0 < e then
        match x with
        | .slice o' n' c' e' => if e' = e then (σ.elems e ⟨o', n', c'⟩ n').bind fun news => (σ.app e (P.bytesOf el) ⟨o, n, c⟩ n' news).bind fun r => K (.slice r.1.o r.1.len r.1.cap e) r.2 else none
        | _ => none
      else none
    | _, _ => none
  | .copy, [t, u], [.slice o n c e, .slice o' n' c' e'] =>
    match P.underlying t, P.underlying u with
    | some (.slice el), some (.slice _) =>
      if e = P.cellsOf el ∧ e' = e ∧ 0 < e then (σ.copy e ⟨o, n, c⟩ ⟨o', n', c'⟩).bind fun r => K (.int .i64 r.1) r.2 else none
    | _, _ => none
  | .min, _, [.int k x, .int j y] => if k = j then K (.int k (if y < x then y else x)) σ else none
  | .max, _, [.int k x, .int j y] => if k = j then K (.int k (if y > x then y else x)) σ else none
  | _, _, _ => none

/-- A variable's value. -/
def ldV (P : Program) (t : TypeId) (σ : St) (p : Nat × Nat) (K : AV → Option R) : Option R :=
  match shOf P depthT t with
  | some shs => if shs.length = P.cellsOf t then ldT σ p.1 p.2 shs fun cs => if isAggT P t = true then K (.agg cs) else match cs with | [v] => K v | _ => none else none
  | none => none

/-- The method of a type: its function, does it take a pointer? (None that comes through a field.) -/
def methodOf (P : Program) (t : TypeId) (name : String) : Option (FuncId × Bool) :=
  (P.info? t).bind fun i => (i.methods.find? fun m => m.name == name).bind fun m => if m.path.isEmpty = true then m.func else none

/-- What a method is handed. -/
def recvOf (P : Program) (t : TypeId) (ptr : Bool) (v : AV) (σ : St) (K : AV → Option R) : Option R :=
  match P.underlying t with
  | some (.pointer el) => if ptr = true then K v else v.toPtr.bind fun o => o.bind fun p => ldV P el σ p K
  | some _ => if ptr = true then none else K v
  | none => none

/-- A call of a function that lays one new row. -/
def freshC (f : Operand) (args : Array Operand) : Option (List AV) :=
  match f with
  | .func g => if args.size = 0 then freshOf g else none
  | _ => none

def aop (P : Program) (call : CallF R) (o : Oper) (e : Env) (σ : St) (K : AV → St → Option R) : Option R :=
  match o.op with
  | .move x | .assign x => K (evT P e o.type x) σ
  | .pick c a b => (ev P e c).toBool.bind fun t => if t = true then castVal P o.type (evT P e o.type a) fun v => K v σ else castVal P o.type (evT P e o.type b) fun v => K v σ
  | .alloc t => (zeroCellsT P t).bind fun z => K (.ptr (some (σ.next, 0))) (σ.new (.cells z true))
  | .box t x => if (evT P e t x).cells.all AV.one then K (.ptr (some (σ.next, 0))) (σ.new (.cells (evT P e t x).cells true)) else none
  | .build t ps => if !(infoOK P t && ps.toList.all fun p => (ev P e p.2).cells.all AV.one) then none else (zeroCellsT P t).bind fun z => (aFill (placeOf P t) z (ps.toList.map fun (i, x) => (i, ev P e x))).bind fun cs => if isAggT P t then K (.agg cs) σ else none
  | .buildSlice t len ps =>
    match P.underlying t with
    | some (.slice el) => (zeroCellsT P el).bind fun z =>
      if (0 < len ∧ 0 < P.cellsOf el ∧ z.length = P.cellsOf el ∧ len * P.cellsOf el ≤ 2 ^ 24) ∧ (ps.toList.all fun p => (evT P e el p.2).cells.all AV.one) = true then
        (aFill (fun i => some (i * P.cellsOf el, P.cellsOf el)) (List.replicate len z).flatten (ps.toList.map fun (i, x) => (i, evT P e el x))).bind fun cs => if !cs.all AV.one then none else
          K (.slice (some (σ.next, 0)) len (some len) (P.cellsOf el)) (σ.new (.cells cs true))
      else none
    | _ => none
  | .makeSlice t l c =>
    match P.underlying t, ev P e l, ev P e c with
    | some (.slice el), .int _ n, .int _ k => (zeroCellsT P el).bind fun z =>
      if (0 ≤ n ∧ n ≤ k ∧ k ≤ 2 ^ 40) ∧ 0 < P.cellsOf el ∧ z.length = P.cellsOf el ∧ k.toNat * (P.bytesOf el + 1) ≤ 2 ^ 46 then
        K (.slice (some (σ.next, 0)) n.toNat (some k.toNat) (P.cellsOf el)) (σ.new (.cells (List.replicate k.toNat z).flatten true))
      else none
    | _, _, _ => none
  | .makeMap _ none => K (.map (some σ.next)) (σ.new (.map [] 0))
  | .load t x =>
    match ev P e x, shOf P depthT t with
    | .ptr (some a), some shs =>
      if shs.length = P.cellsOf t then
        ldT σ a.1 a.2 shs fun cs => if isAggT P t then K (.agg cs) σ else match cs with | [v] => K v σ | _ => none
      else none
    | _, _ => none
  | .store t a x =>
    match ev P e a with
    | .ptr (some a) =>
      if ((P.info? t).isSome = true ∧ (evT P e t x).cells.length = P.cellsOf t) ∧ (evT P e t x).cells.all AV.one then (σ.st a.1 a.2 (evT P e t x).cells).bind fun σ' => K (.tuple []) σ'
      else none
    | _ => none
  | .nilCheck x =>
    match ev P e x with
    | .ptr p => p.bind fun a => K (.ptr (some a)) σ
    | .iface t v => K (.iface t v) σ
    | .func (.func f) a b => K (.func (.func f) a b) σ
    | _ => none
  | .binOp op t x y u => abin P op t (evT P e t x) (evT P e u y) fun v => K v σ
  | .unOp op _ x => aun op (ev P e x) fun v => K v σ
  | .convert s d x =>
    match P.underlying s, P.underlying d, ev P e x with
    | some (.int _), some (.int k), .int _ n => K (.int k (k.wrap n)) σ
    | some .string, some .string, .str b => K (.str b) σ
    | _, _, _ => none
  | .makeInterface t x => match P.underlying t with | some (.interface _) | none => none | _ => K (.iface t (evT P e t x)) σ
  | .makeFunc fn first captured => K (.func fn (first.toList.map (ev P e)) (captured.toList.map (ev P e))) σ
  | .slice t x lo hi mx =>
    (bound P e lo).bind fun lo => (bound P e hi).bind fun hi => (bound P e mx).bind fun mx =>
    match P.underlying t, evT P e t x with
    | some .string, .str s => if mx.isSome then none else (strSub s lo hi).bind fun r => K (.str r) σ
    | some (.slice el), .slice o n c z => if z = P.cellsOf el ∧ 0 < z then (Sl.sub z ⟨o, n, c⟩ lo hi mx).bind fun r => K (.slice r.o r.len r.cap z) σ else none
    | some (.array n el), .ptr (some a) => if 0 < P.cellsOf el then (Sl.sub (P.cellsOf el) ⟨some a, n, some n⟩ lo hi mx).bind fun r => K (.slice r.o r.len r.cap (P.cellsOf el)) σ else none
    | _, _ => none
  | .fieldAddr t x f =>
    match P.underlying t, ev P e x with
    | some (.struct fs), .ptr p =>
      match fs[f]? with
      | some g => if P.cellsOf g.type = 0 then none else p.bind fun a => K (.ptr (some (a.1, a.2 + g.offset))) σ
      | none => none
    | _, _ => none
  | .field t x f =>
    match P.underlying t, ev P e x with
    | some (.struct fs), .agg cs => ((fs[f]?).bind fun g => partOf P g.type cs g.offset).bind fun v => K v σ
    | _, _ => none
  | .indexAddr t x i =>
    match P.underlying t, evT P e t x, ev P e i with
    | some (.slice el),   .slice o n _ z, .int _ j => if z = P.cellsOf el ∧ 0 < z then (if 0 ≤ j ∧ j < n then o.bind fun a => K (.ptr (some (a.1, a.2 + j.toNat * z))) σ else none) else none
    | some (.array n el), .ptr (some a), .int _ j => if 0 < P.cellsOf el ∧ 0 ≤ j ∧ j < n then K (.ptr (some (a.1, a.2 + j.toNat * P.cellsOf el))) σ else none
    | _, _, _ => none
  | .index t x i =>
    match P.underlying t, ev P e x, ev P e i with
    | some .string, .str s, .int _ j => (byteAt s j).bind fun b => K (.int .u8 b) σ
    | some (.array n el), .agg cs, .int _ j => if 0 < P.cellsOf el ∧ 0 ≤ j ∧ j < n then (partOf P el cs (j.toNat * P.cellsOf el)).bind fun v => castVal P el v fun v => K v σ else none
    | _, _, _ => none
  | .extract x i => match ev P e x with | .tuple vs => (vs[i]?).bind fun v => K v σ | _ => none
  | .call c =>
    match c.callee with
    | .builtin b => abuiltin P b c.argTypes.toList (evArgs P e c.argTypes.toList c.args.toList) σ K
    | .value f =>
      match freshC f c.args with
      | some cs => K (.ptr (some (σ.next, 0))) (σ.new (.cells cs true))
      | none => callV call (ev P e f) (evArgs P e c.argTypes.toList c.args.toList) σ fun r σ' => castRes P o.type r fun r' => K r' σ'
    | .invoke rv name =>
      match ev P e rv with
      | .iface t v => (methodOf P t name).bind fun q => recvOf P t q.2 v σ fun u => call q.1 (u :: evArgs P e c.argTypes.toList c.args.toList) σ fun r σ' => castRes P o.type r fun r' => K r' σ'
      | _ => none
  | .typeAssert x _ t ok =>
    match P.underlying t, ev P e x with
    | some (.interface _), _ => none
    | some _, .iface u v => if u = t then castVal P t v fun v => K (if ok = true then .tuple [v, .bool true] else v) σ
      else if ok = true then (zeroAV P t).bind fun z => K (.tuple [z, .bool false]) σ else none
    | _, _ => none
  | .lookup t x ix ok =>
    match P.underlying t, ev P e x with
    | some (.map kt et), .map m => (keyArg P kt (evT P e kt ix)).bind fun q => (σ.entries m).bind fun es => (findKey q.1 q.2.1 q.2.2 es 0).bind fun r =>
      match r with
      | some p => castVal P et p.2 fun v => K (if ok = true then .tuple [v, .bool true] else v) σ
      | none => (zeroAV P et).bind fun v => K (if ok = true then .tuple [v, .bool false] else v) σ
    | _, _ => none
  | .mapUpdate t m k x =>
    match P.underlying t, ev P e m with
    | some (.map kt et), .map (some b) => (keyArg P kt (evT P e kt k)).bind fun q => (σ.map b).bind fun s => (mapSet q.1 q.2.1 q.2.2 (evT P e kt k) (evT P e et x) s.1 s.2).bind fun r =>
      K (.tuple []) (σ.put b (.map r.1 r.2))
    | _, _ => none
  | _ => none

/-- All must answer. -/
def allK {α : Type} : List α → (α → Option R) → Option R
  | [], _ => none
  | [c], f => f c
  | c :: cs, f => (f c).bind fun _ => allK cs f

/-- A round's choice: 'dem': all candidates must answer; else there may be one at most. -/
def nextK (dem : Bool) (σ : St) (b : Nat) (K0 : Option R) (K1 : AV → AV → St → Option R) : Option R :=
  (σ.iter b).bind fun q => match q.1 with
    | none => K0
    | some mb => (σ.map mb).bind fun s => (leftOf s.1 q.2.1 q.2.2.1 q.2.2.2).bind fun l =>
      if l.isEmpty = true then K0
      else if dem = true then allK l fun x => K1 x.1 x.2.1 (σ.put b (.miter (some mb) q.2.1 (q.2.2.1 ++ [x.2.2]) s.2))
      else match l with | [x] => K1 x.1 x.2.1 (σ.put b (.miter (some mb) q.2.1 (q.2.2.1 ++ [x.2.2]) s.2)) | _ => none

/-- What a step came to. -/
def entryOf (σ : St) (b : Nat) : Option (AV × AV) :=
  (σ.iter b).bind fun q => q.1.bind fun mb => (σ.map mb).bind fun s => q.2.2.1.getLast?.bind fun n => if s.2 = q.2.2.2 then (s.1.find? fun x => x.2.2 == n).bind fun x => some (x.1, x.2.1) else none

/-- Bytes. -/
def bytesOf : List AV → ByteArray → Option ByteArray
  | [], b => some b
  | v :: vs, b => (v.toInt .u8).bind fun n => bytesOf vs (b.push (UInt8.ofNat n.toNat))
def isU8 (P : Program) (t : TypeId) : Bool := match P.underlying t with | some (.int .u8) => true | _ => false

/-- Operations of regions in the text's order. -/
def aopX (P : Program) (dem : Bool) (call : CallF R) (o : Oper) (e : Env) (σ : St) (K : AV → St → Option R) : Option R :=
  match o.op with
  | .range t x =>
    match P.underlying t, ev P e x with
    | some (.map _ _), .map none => K (.ptr (some (σ.next, 0))) (σ.new (.miter none 0 [] 0))
    | some (.map _ _), .map (some b) => (σ.map b).bind fun s => K (.ptr (some (σ.next, 0))) (σ.new (.miter (some b) s.2 [] s.2))
    | _, _ => none
  | .next it false => match ev P e it with | .ptr (some (b, 0)) => nextK dem σ b (K (.tuple [.bool false]) σ) (fun k v σ' => K (.tuple [.bool true, k, v]) σ') | _ => none
  | .convert s d x =>
    match P.underlying s, P.underlying d, ev P e x with
    | some (.slice el), some .string, .slice o n c z => if isU8 P el = true ∧ z = 1 then (σ.elems 1 ⟨o, n, c⟩ n).bind fun cs => (bytesOf cs ByteArray.empty).bind fun b => K (.str b) σ else none
    | _, _, _ => aop P call o e σ K
  | .extract x i => match ev P e x with | .tuple vs => (vs[i]?).bind fun v => if (shOf P depthT o.type).isSome = true then castVal P o.type v fun v => K v σ else K v σ | _ => none
  | .entry it => match ev P e it with | .ptr (some (b, 0)) => (entryOf σ b).bind fun x => K (.tuple [x.1, x.2]) σ | _ => none
  | .call c =>
    match c.callee with
    | .builtin .delete =>
      match c.argTypes.toList, evArgs P e c.argTypes.toList c.args.toList with
      | [t, _], [.map m, k] =>
        match P.underlying t with
        | some (.map kt _) => (keyArg P kt k).bind fun q =>
          match m with
          | none => K (.tuple []) σ
          | some b => (σ.map b).bind fun s => (mapDel q.1 q.2.1 q.2.2 s.1).bind fun es => K (.tuple []) (σ.put b (.map es s.2))
        | _ => none
      | _, _ => none
    | .builtin .len =>
      match c.argTypes.toList, evArgs P e c.argTypes.toList c.args.toList with
      | [t], [.map m] => match P.underlying t with | some (.map _ _) => (σ.entries m).bind fun es => K (.int .i64 es.length) σ | _ => none
      | _, _ => aop P call o e σ K
    | _ => aop P call o e σ K
  | _ => aop P call o e σ K

def Env.put (e : Env) : Option Tmp → AV → Env
  | none, _ => e
  | some d, v => e.set d v

/-- What a guard says: run, skip; or it cannot be told. -/
inductive Guard where
  | none
  | on (tmp : Nat) (want : Bool)
  | bad

def guardOf (ops : Array Oper) (o : Oper) : Guard :=
  match o.guard with
  | Option.none => .none
  | some (j, want) => match (ops[j]?).bind (·.dst) with | some g => .on g want | Option.none => .bad

/-- Operations one behind the other. -/
def opsK (P : Program) (dem : Bool) (call : CallF R) (ops : Array Oper) : List Oper → (Env → St → Option R) → Env → St → Option R
  | [], K, e, σ => K e σ
  | o :: rest, K, e, σ =>
    match guardOf ops o with
    | .none => aopX P dem call o e σ fun v σ' => opsK P dem call ops rest K (e.put o.dst v) σ'
    | .bad => Option.none
    | .on g want =>
      match e.at g with
      | .tuple [] => opsK P dem call ops rest K (e.put o.dst (.tuple [])) σ
      | .bool t =>
        if t = true then
          (if want = true then aopX P dem call o (e.set g (.bool true)) σ fun v σ' => opsK P dem call ops rest K (Env.put (e.set g (.bool true)) o.dst v) σ'
           else opsK P dem call ops rest K (Env.put (e.set g (.bool true)) o.dst (.tuple [])) σ)
        else
          (if want = true then opsK P dem call ops rest K (Env.put (e.set g (.bool false)) o.dst (.tuple [])) σ
           else aopX P dem call o (e.set g (.bool false)) σ fun v σ' => opsK P dem call ops rest K (Env.put (e.set g (.bool false)) o.dst v) σ')
      | _ => Option.none
end

end Go.AM
