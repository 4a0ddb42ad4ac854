/- The abstract machine, third part: regions that draw their order, code, calls. -/
import Derived.Test.YtnjhcfcnpapaiaaGreatDoorA1
set_option linter.unusedVariables false
set_option linter.unusedSimpArgs false
namespace Go.AM

inductive Kind where
  | quiet | load | alloc | effect | bad
  deriving DecidableEq

def kindOf (o : Oper) : Kind :=
  match o.op with
  | .move _ | .assign _ | .pick .. | .build .. | .nilCheck _ | .binOp .. | .unOp .. | .convert .. | .makeInterface .. | .makeFunc .. | .slice .. | .fieldAddr ..
  | .field .. | .indexAddr .. | .index .. | .extract .. | .typeAssert .. => .quiet
  | .load .. => .load
  | .alloc _ | .box .. | .buildSlice .. | .makeSlice .. | .makeMap .. => .alloc
  | .store .. | .lookup .. | .mapUpdate .. => .effect
  | .call c => match c.callee with
    | .builtin .len | .builtin .min | .builtin .max => .quiet
    | .builtin .append | .builtin .copy | .invoke _ _ => .effect
    | .value f => if (freshC f c.args).isSome = true then .alloc else .effect
    | _ => .bad
  | _ => .bad

/-- Is operation i surely ahead of operation j? -/
def ord (b : Array Nat) (i j : Nat) : Bool := (b.getD j 0).testBit i

def looksApart (ops : Array Oper) (x y : Oper) : Bool :=
  (match x.dst with | some d => !(y.looksAt ops).contains d && y.dst != some d | none => true) && (match y.dst with | some d => !(x.looksAt ops).contains d | none => true)

def pairOK (ops : Array Oper) (b : Array Nat) (i j : Nat) (x y : Oper) : Bool :=
  ord b i j || (looksApart ops x y &&
    match kindOf x, kindOf y with
    | .effect, .effect | .effect, .alloc | .alloc, .effect => false
    | _, _ => true)

/-- The static side of a region that draws its order. -/
def drawOK (ops : Array Oper) : Bool :=
  let b := Region.before ops
  let l := ops.toList.zipIdx
  (l.all fun (y, j) => kindOf y != .bad && (y.after.all fun e => !Region.binds .any e || e.on < j) &&
    (match y.guard with | none => true | some (g, _) => g < j && ((ops[g]?).bind (·.dst)).isSome) &&
    l.all fun (x, i) => j ≤ i || pairOK ops b i j x y)

section
variable {R : Type}

/-- What was loaded reads the same ahead of each change that may come behind it. -/
def chkC (b : Array Nat) (i : Nat) (a : Nat × Nat) (cs : List AV) : List (Nat × St) → Option R → Option R
  | [], r => r
  | (j, s) :: rest, r => if ord b j i = true then chkC b i a cs rest r else if s.same a.1 a.2 cs = true then chkC b i a cs rest r else none

/-- What was loaded before reads the same behind a change that may come ahead of it. -/
def chkL (b : Array Nat) (i : Nat) (s : St) : List (Nat × (Nat × Nat) × List AV) → Option R → Option R
  | [], r => r
  | (l, a, cs) :: rest, r => if ord b l i = true then chkL b i s rest r else if s.same a.1 a.2 cs = true then chkL b i s rest r else none

/-- One operation of such a region. -/
def drawOp (P : Program) (call : CallF R) (b : Array Nat) (i : Nat) (o : Oper) (chg : List (Nat × St)) (lds : List (Nat × (Nat × Nat) × List AV)) (e : Env) (σ : St)
    (K : List (Nat × St) → List (Nat × (Nat × Nat) × List AV) → AV → St → Option R) : Option R :=
  match kindOf o with
  | .load => aop P call o e σ fun v σ' =>
    match o.op with
    | .load _ x => match ev P e x with
      | .ptr (some a) => chkC b i a v.cells chg (K chg ((i, a, v.cells) :: lds) v σ')
      | _ => none
    | _ => none
  | .alloc | .effect => aop P call o e σ fun v σ' => chkL b i σ' lds (K ((i, σ) :: chg) lds v σ')
  | .quiet => aop P call o e σ fun v σ' => K chg lds v σ'
  | .bad => none

def drawK (P : Program) (call : CallF R) (ops : Array Oper) (b : Array Nat) : List Oper → Nat → List (Nat × St) → List (Nat × (Nat × Nat) × List AV) →
    (Env → St → Option R) → Env → St → Option R
  | [], _, _, _, K, e, σ => K e σ
  | o :: rest, i, chg, lds, K, e, σ =>
    match guardOf ops o with
    | .none => drawOp P call b i o chg lds e σ fun chg lds v σ' => drawK P call ops b rest (i + 1) chg lds K (e.put o.dst v) σ'
    | .bad => none
    | .on g want =>
      match e.at g with
      | .tuple [] => drawK P call ops b rest (i + 1) chg lds K (e.put o.dst (.tuple [])) σ
      | .bool t =>
        if t = true then
          (if want = true then drawOp P call b i o chg lds (e.set g (.bool true)) σ fun chg lds v σ' => drawK P call ops b rest (i + 1) chg lds K (Env.put (e.set g (.bool true)) o.dst v) σ'
           else drawK P call ops b rest (i + 1) chg lds K (Env.put (e.set g (.bool true)) o.dst (.tuple [])) σ)
        else
          (if want = true then drawK P call ops b rest (i + 1) chg lds K (Env.put (e.set g (.bool false)) o.dst (.tuple [])) σ
           else drawOp P call b i o chg lds (e.set g (.bool false)) σ fun chg lds v σ' => drawK P call ops b rest (i + 1) chg lds K (Env.put (e.set g (.bool false)) o.dst v) σ')
      | _ => none
end

/-- Where temporaries are forgotten: beside the code, a tree of masks. -/
inductive Ann where
  | o
  | s (a b : Ann)
  | m (mask : Nat) (a b : Ann)

namespace Ann
def l : Ann → Ann | .o => .o | .s a _ => a | .m _ a _ => a
def r : Ann → Ann | .o => .o | .s _ b => b | .m _ _ b => b
def clrGo (mask : Nat) : Nat → Env → Env
  | _, [] => []
  | i, v :: e => (if mask.testBit i = true then v else .undef) :: clrGo mask (i + 1) e
def clr : Ann → Env → Env | .m k _ _, e => clrGo k 0 e | _, e => e
end Ann

/-- How code ends. -/
inductive Ex where
  | normal | exit (id : Nat) | ret

section
variable {R : Type}
abbrev KF (R : Type) := Ex → Env → St → Option R

/-- What comes behind: of two pieces one behind the other (and of a loop's round); of a choice; of a block; of a function's body. -/
def seqC (next : KF R → Env → St → Option R) (A : Ann) (K : KF R) : KF R := fun x e σ => match x with
  | .normal => next K (A.clr e) σ
  | .exit i => K (.exit i) e σ
  | .ret => K .ret e σ
def condC (A : Ann) (K : KF R) : KF R := fun x e σ => match x with
  | .normal => K .normal (A.clr e) σ
  | .exit i => K (.exit i) e σ
  | .ret => K .ret e σ
def blockC (id : Nat) (A : Ann) (K : KF R) : KF R := fun x e σ => match x with
  | .normal => K .normal (A.clr e) σ
  | .exit i => if i = id then K .normal (A.clr e) σ else K (.exit i) e σ
  | .ret => K .ret e σ

def loopK (body : KF R → Env → St → Option R) (A : Ann) : Nat → KF R → Env → St → Option R
  | 0, _, _, _ => none
  | n + 1, K, e, σ => body (seqC (fun K e σ => loopK body A n K e σ) A K) e σ

def runK (P : Program) (call : Bool → CallF R) (dem : Bool) (N : Nat) : Code → Ann → KF R → Env → St → Option R
  | .skip, _, K, e, σ => K .normal e σ
  | .region _ ops false, _, K, e, σ => opsK P dem (call dem) ops ops.toList (fun e' σ' => K .normal e' σ') e σ
  | .region _ ops true, _, K, e, σ => if drawOK ops = true then drawK P (call false) ops (Region.before ops) ops.toList 0 [] [] (fun e' σ' => K .normal e' σ') e σ else none
  | .seq a b, A, K, e, σ => runK P call dem N a A.l (seqC (fun K e σ => runK P call dem N b A.r K e σ) A K) e σ
  | .cond c a b, A, K, e, σ => (ev P e c).toBool.bind fun t =>
    if t = true then runK P call dem N a A.l (condC A K) e σ
    else runK P call dem N b A.r (condC A K) e σ
  | .block id c, A, K, e, σ => runK P call dem N c A.l (blockC id A K) e σ
  | .loop c, A, K, e, σ => loopK (fun K e σ => runK P call dem N c A.l K e σ) A N K (A.clr e) σ
  | .exit id, A, K, e, σ => K (.exit id) (A.clr e) σ
  | .ret, A, K, e, σ => K .ret (A.clr e) σ
  | _, _, _, _, _ => none

/-- What a function hands back. -/
def resK (P : Program) (e : Env) (σ : St) : List ResultVar → (List AV → Option R) → Option R
  | [], K => K []
  | .tmp t :: rest, K => resK P e σ rest fun vs => K (e.at t :: vs)
  | .cell a t :: rest, K =>
    match e.at a, shOf P depthT t with
    | .ptr (some p), some shs =>
      if shs.length = P.cellsOf t then ldT σ p.1 p.2 shs fun cs => if isAggT P t then resK P e σ rest fun vs => K (.agg cs :: vs) else match cs with | [v] => resK P e σ rest fun vs => K (v :: vs) | _ => none
      else none
    | _, _ => none

def packRes : List AV → AV
  | [v] => v
  | vs => .tuple vs

def bodyC (P : Program) (rs : List ResultVar) (K : AV → St → Option R) : KF R := fun x e σ => match x with
  | .exit _ => none
  | .normal => resK P e σ rs fun vs => K (packRes vs) σ
  | .ret => resK P e σ rs fun vs => K (packRes vs) σ

/-- A function's body over given calls. -/
def bodyK (P : Program) (call : Bool → CallF R) (dem : Bool) (N : Nat) (ann : FuncId → Ann) (f : FuncId) (args : List AV) (σ : St) (K : AV → St → Option R) : Option R :=
  match P.funcs[f]? with
  | none => none
  | some fn =>
    if fn.name = "runtime.NumGoroutine" then none else
    match fn.body with
    | none => none
    | some c => runK P call dem N c (ann f) (bodyC P fn.results.toList K)
        (args ++ List.replicate (fn.ntmps - args.length) .undef) σ

/-- What is known of calls ahead of any run: the answer, and the state behind. -/
class Spec where
  spec : Bool → FuncId → List AV → St → Option (AV × St)
abbrev nospec : Spec := ⟨fun _ _ _ _ => none⟩

/-- Calls, so deep. -/
def callK [S : Spec] (P : Program) (N : Nat) (ann : FuncId → Ann) : Nat → Bool → CallF R
  | 0 => fun _ _ _ _ _ => none
  | d + 1 => fun dem f args σ K => match S.spec dem f args σ with
    | some r => K r.1 r.2
    | none => bodyK P (callK P N ann d) dem N ann f args σ K

end
end Go.AM
