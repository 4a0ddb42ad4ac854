/- Parts of code and of masks, by their paths; a loop's round. -/
import Derived.Test.YtnjhcfcnpapaiaaGreatDoorA26
set_option linter.unusedVariables false
set_option linter.unusedSimpArgs false
namespace Go.AM

def subCode : List Nat → Code → Code
  | [], c => c
  | i :: p, c => match c with
    | .seq a b => subCode p (if i = 0 then a else b)
    | .cond _ a b => subCode p (if i = 0 then a else b)
    | .block _ a => subCode p a
    | .loop a => subCode p a
    | c => c
def subAnn : List Nat → Ann → Ann
  | [], A => A
  | 0 :: p, A => subAnn p A.l
  | _ :: p, A => subAnn p A.r
def bodyOf (P : Program) (f : Nat) : Code := match P.funcs[f]? with | some fn => fn.body.getD .skip | none => .skip

/-- A region's operations; is it one of the text's order? -/
def opsOf : Code → Array Oper | .region _ ops _ => ops | _ => #[]
def isPlain : Code → Bool | .region _ _ false => true | _ => false

theorem opsK_app {R : Type} {P : Program} {dem : Bool} {call : CallF R} {ops : Array Oper} {K : Env → St → Option R} : ∀ (l r : List Oper) (e : Env) (σ : St), opsK P dem call ops (l ++ r) K e σ = opsK P dem call ops l (fun e σ => opsK P dem call ops r K e σ) e σ := by
  intro l
  induction l with
  | nil => intro r e σ; rfl
  | cons o l ih =>
    intro r e σ
    simp only [List.cons_append, opsK, ih]

/-- A region in two parts. -/
theorem opsK_cut {R : Type} {P : Program} {dem : Bool} {call : CallF R} {ops : Array Oper} {K : Env → St → Option R} {e : Env} {σ : St} {l : List Oper} (a b : Nat) :
    opsK P dem call ops (l.drop a) K e σ = opsK P dem call ops ((l.drop a).take b) (fun e σ => opsK P dem call ops (l.drop (a + b)) K e σ) e σ := by
  have h : l.drop a = (l.drop a).take b ++ l.drop (a + b) := by rw [← List.drop_drop, List.take_append_drop]
  conv => lhs; rw [h]
  exact opsK_app _ _ _ _
theorem runK_cut {R : Type} {P : Program} {call : Bool → CallF R} {dem : Bool} {N : Nat} {c : Code} {A : Ann} {J : KF R} {e : Env} {σ : St} (b : Nat) (h : isPlain c = true) :
    runK P call dem N c A J e σ = opsK P dem (call dem) (opsOf c) (((opsOf c).toList.drop 0).take b) (fun e σ => opsK P dem (call dem) (opsOf c) ((opsOf c).toList.drop (0 + b)) (fun e σ => J .normal e σ) e σ) e σ := by
  cases c with
  | region id ops draw =>
    cases draw with
    | false => rw [← opsK_cut]; rfl
    | true => simp [isPlain] at h
  | _ => simp [isPlain] at h

/-- An equation that simp is not to take for a computation. -/
theorem hide {α : Sort _} {a b : α} (h : a = b) : a = b := h

/-- A row of n unknown cells ahead of others. -/
def Env.sp : Nat → Env → Env
  | 0, l => l
  | n + 1, l => .undef :: Env.sp n l

section
variable {R : Type}

/-- What a round's end goes on with. -/
def loopC (body : KF R → Env → St → Option R) (A : Ann) (n : Nat) (K : KF R) : KF R := seqC (fun K e σ => loopK body A n K e σ) A K

theorem loopK_succ (body : KF R → Env → St → Option R) (A : Ann) (n : Nat) (K : KF R) (e : Env) (σ : St) : loopK body A (n + 1) K e σ = body (loopC body A n K) e σ := hide rfl
theorem loopC_normal (body : KF R → Env → St → Option R) (A : Ann) (n : Nat) (K : KF R) (e : Env) (σ : St) : loopC body A n K .normal e σ = loopK body A n K (A.clr e) σ := hide rfl
theorem loopC_exit (body : KF R → Env → St → Option R) (A : Ann) (n : Nat) (K : KF R) (i : Nat) (e : Env) (σ : St) : loopC body A n K (.exit i) e σ = K (.exit i) e σ := hide rfl
theorem loopC_ret (body : KF R → Env → St → Option R) (A : Ann) (n : Nat) (K : KF R) (e : Env) (σ : St) : loopC body A n K .ret e σ = K .ret e σ := hide rfl

theorem blockC_normal (id : Nat) (A : Ann) (K : KF R) (e : Env) (σ : St) {e' : Env} (h : A.clr e = e') : blockC id A K .normal e σ = K .normal e' σ := by rw [← h]; rfl
theorem blockC_same (id : Nat) (A : Ann) (K : KF R) (e : Env) (σ : St) {e' : Env} (h : A.clr e = e') : blockC id A K (.exit id) e σ = K .normal e' σ := by rw [← h]; simp [blockC]
theorem blockC_other (id i : Nat) (A : Ann) (K : KF R) (e : Env) (σ : St) (h : (i == id) = false) : blockC id A K (.exit i) e σ = K (.exit i) e σ := by
  have : i ≠ id := by simpa using h
  simp [blockC, this]
theorem blockC_ret (id : Nat) (A : Ann) (K : KF R) (e : Env) (σ : St) : blockC id A K .ret e σ = K .ret e σ := rfl

theorem callK_succ [S : Spec] (P : Program) (N : Nat) (ann : FuncId → Ann) (d : Nat) (dem : Bool) (f : FuncId) (args : List AV) (σ : St) (K : AV → St → Option R) (h : S.spec dem f args σ = none) : callK P N ann (d + 1) dem f args σ K = bodyK P (callK P N ann d) dem N ann f args σ K := hide (by simp only [callK, h])

section
variable {P : Program} {call : Bool → CallF R} {dem : Bool} {N : Nat} {J : KF R} {e e' : Env} {σ : St} {c a b : Code} {A A1 A2 : Ann}
theorem runK_seq' (hc : c = .seq a b) (h1 : A.l = A1) (h2 : A.r = A2) : runK P call dem N c A J e σ = runK P call dem N a A1 (seqC (fun K e σ => runK P call dem N b A2 K e σ) A J) e σ := by subst hc h1 h2; rfl
theorem runK_cond' {o : Operand} {t : Bool} (hc : c = .cond o a b) (h1 : A.l = A1) (h2 : A.r = A2) (hv : (ev P e o).toBool = some t) :
    runK P call dem N c A J e σ = if t = true then runK P call dem N a A1 (condC A J) e σ else runK P call dem N b A2 (condC A J) e σ := by subst hc h1 h2; simp only [runK, hv, Option.bind_some]
theorem runK_block' {id : Nat} (hc : c = .block id a) (h1 : A.l = A1) : runK P call dem N c A J e σ = runK P call dem N a A1 (blockC id A J) e σ := by subst hc h1; rfl
theorem runK_loop' (hc : c = .loop a) (h1 : A.l = A1) (he : A.clr e = e') : runK P call dem N c A J e σ = loopK (fun K e σ => runK P call dem N a A1 K e σ) A N J e' σ := by subst hc h1 he; rfl
theorem runK_exit' {id : Nat} (hc : c = .exit id) (he : A.clr e = e') : runK P call dem N c A J e σ = J (.exit id) e' σ := by subst hc he; rfl
theorem runK_ret' (hc : c = .ret) (he : A.clr e = e') : runK P call dem N c A J e σ = J .ret e' σ := by subst hc he; rfl
theorem runK_skip' (hc : c = .skip) : runK P call dem N c A J e σ = J .normal e σ := by subst hc; rfl
theorem bodyK_of {fn : Func} {ann : FuncId → Ann} {f : FuncId} {args : List AV} {rs : List ResultVar} {K : AV → St → Option R} (h1 : P.funcs[f]? = some fn) (h2 : decide (fn.name = "runtime.NumGoroutine") = false) (h3 : fn.body = some c) (hA : ann f = A) (h4 : args ++ List.replicate (fn.ntmps - args.length) .undef = e) (h5 : fn.results.toList = rs) :
    bodyK P call dem N ann f args σ K = runK P call dem N c A (bodyC P rs K) e σ := by
  have h2' : ¬ fn.name = "runtime.NumGoroutine" := of_decide_eq_false h2
  subst hA h4 h5
  simp only [bodyK, h1, if_neg h2', h3]
theorem seqC_normal (next : KF R → Env → St → Option R) : seqC next A J .normal e σ = next J (A.clr e) σ := hide rfl
theorem seqC_exit (next : KF R → Env → St → Option R) (i : Nat) : seqC next A J (.exit i) e σ = J (.exit i) e σ := hide rfl
theorem seqC_ret (next : KF R → Env → St → Option R) : seqC next A J .ret e σ = J .ret e σ := hide rfl
theorem condC_normal (K : KF R) : condC A K .normal e σ = K .normal (A.clr e) σ := hide rfl
theorem condC_exit (i : Nat) (K : KF R) : condC A K (.exit i) e σ = K (.exit i) e σ := hide rfl
theorem condC_ret (K : KF R) : condC A K .ret e σ = K .ret e σ := hide rfl
theorem blockC_normal' (id : Nat) (K : KF R) : blockC id A K .normal e σ = K .normal (A.clr e) σ := hide rfl
theorem blockC_exit (id i : Nat) (K : KF R) : blockC id A K (.exit i) e σ = if i = id then K .normal (A.clr e) σ else K (.exit i) e σ := hide rfl
theorem blockC_ret' (id : Nat) (K : KF R) : blockC id A K .ret e σ = K .ret e σ := hide rfl
end

end
end Go.AM
