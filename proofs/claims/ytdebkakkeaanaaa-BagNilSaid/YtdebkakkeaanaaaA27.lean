/- Parts of code and of masks, by their paths; a loop's round. -/
import Derived.Test.YtdebkakkeaanaaaA26
namespace Go.AM

def subCode : List Nat → Code → Code
  | [], c => c
  | i :: p, c => match c with
    | .seq a b => subCode p (if i = 0 then a else b)
    | .cond _ a b => subCode p (if i = 0 then a else b)
    | .block _ a => subCode p a
    | .loop a => subCode p a
    | c => c
def subAnn : List Nat → Ann → Ann
  | [], A => A
  | 0 :: p, A => subAnn p A.l
  | _ :: p, A => subAnn p A.r
def bodyOf (P : Program) (f : Nat) : Code := match P.funcs[f]? with | some fn => fn.body.getD .skip | none => .skip

section
variable {R : Type}

/-- What a round's end goes on with. -/
def loopC (body : KF R → Env → St → Option R) (A : Ann) (n : Nat) (K : KF R) : KF R := fun x e σ => match x with | .normal => loopK body A n K (A.clr e) σ | x => K x e σ

theorem loopK_succ (body : KF R → Env → St → Option R) (A : Ann) (n : Nat) (K : KF R) (e : Env) (σ : St) : loopK body A (n + 1) K e σ = body (loopC body A n K) e σ := rfl
theorem loopC_normal (body : KF R → Env → St → Option R) (A : Ann) (n : Nat) (K : KF R) (e : Env) (σ : St) : loopC body A n K .normal e σ = loopK body A n K (A.clr e) σ := rfl
theorem loopC_exit (body : KF R → Env → St → Option R) (A : Ann) (n : Nat) (K : KF R) (i : Nat) (e : Env) (σ : St) : loopC body A n K (.exit i) e σ = K (.exit i) e σ := rfl
theorem loopC_ret (body : KF R → Env → St → Option R) (A : Ann) (n : Nat) (K : KF R) (e : Env) (σ : St) : loopC body A n K .ret e σ = K .ret e σ := rfl

/-- What a block's end goes on with. -/
def blockC (id : Nat) (A : Ann) (K : KF R) : KF R := fun x e σ => match x with
  | .normal => K .normal (A.clr e) σ
  | .exit i => if i = id then K .normal (A.clr e) σ else K (.exit i) e σ
  | .ret => K .ret e σ

theorem blockC_normal (id : Nat) (A : Ann) (K : KF R) (e : Env) (σ : St) {e' : Env} (h : A.clr e = e') : blockC id A K .normal e σ = K .normal e' σ := by rw [← h]; rfl
theorem blockC_same (id : Nat) (A : Ann) (K : KF R) (e : Env) (σ : St) {e' : Env} (h : A.clr e = e') : blockC id A K (.exit id) e σ = K .normal e' σ := by rw [← h]; simp [blockC]
theorem blockC_other (id i : Nat) (A : Ann) (K : KF R) (e : Env) (σ : St) (h : (i == id) = false) : blockC id A K (.exit i) e σ = K (.exit i) e σ := by
  have : i ≠ id := by simpa using h
  simp [blockC, this]
theorem blockC_ret (id : Nat) (A : Ann) (K : KF R) (e : Env) (σ : St) : blockC id A K .ret e σ = K .ret e σ := rfl

theorem callK_succ (P : Program) (N : Nat) (ann : FuncId → Ann) (d : Nat) (f : FuncId) (args : List AV) (σ : St) (K : AV → St → Option R) : callK P N ann (d + 1) f args σ K = bodyK P (callK P N ann d) N ann f args σ K := rfl

end
end Go.AM
