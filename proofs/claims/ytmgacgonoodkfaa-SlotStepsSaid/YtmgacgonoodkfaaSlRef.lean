/- What the machine does with each piece of code, in plain text. PRINTED by a program of this workplace; Lean checks it. -/
import Derived.Test.YtmgacgonoodkfaaSlAnn
import Derived.Test.YtmgacgonoodkfaaProg
import Derived.KernelRfl
import Derived.Attr
namespace Go.Proofs.Ytmgacgonoodkfaa
open Go.AM
set_option maxRecDepth 100000
set_option linter.unusedVariables false
noncomputable def f23rs : List ResultVar := [ResultVar.tmp (6 : Nat), ResultVar.tmp (7 : Nat)]
noncomputable def f23c0 : Code := subCode [] (bodyOf Try.prog 23)
def f23a0 : Ann := subAnn [] ann23
noncomputable def f23c1 : Code := subCode [0] (bodyOf Try.prog 23)
def f23a1 : Ann := subAnn [0] ann23
noncomputable def f23c2 : Code := subCode [1] (bodyOf Try.prog 23)
def f23a2 : Ann := subAnn [1] ann23
noncomputable def f23c3 : Code := subCode [1, 0] (bodyOf Try.prog 23)
def f23a3 : Ann := subAnn [1, 0] ann23
noncomputable def f23c4 : Code := subCode [1, 1] (bodyOf Try.prog 23)
def f23a4 : Ann := subAnn [1, 1] ann23
noncomputable def f23c5 : Code := subCode [1, 0, 0] (bodyOf Try.prog 23)
def f23a5 : Ann := subAnn [1, 0, 0] ann23
noncomputable def f23c6 : Code := subCode [1, 0, 1] (bodyOf Try.prog 23)
def f23a6 : Ann := subAnn [1, 0, 1] ann23
noncomputable def f23c7 : Code := subCode [1, 0, 1, 0] (bodyOf Try.prog 23)
def f23a7 : Ann := subAnn [1, 0, 1, 0] ann23
noncomputable def f23c8 : Code := subCode [1, 0, 1, 1] (bodyOf Try.prog 23)
def f23a8 : Ann := subAnn [1, 0, 1, 1] ann23
noncomputable def f23c9 : Code := subCode [1, 0, 1, 0, 0] (bodyOf Try.prog 23)
def f23a9 : Ann := subAnn [1, 0, 1, 0, 0] ann23
noncomputable def f23c10 : Code := subCode [1, 0, 1, 0, 1] (bodyOf Try.prog 23)
def f23a10 : Ann := subAnn [1, 0, 1, 0, 1] ann23
noncomputable def f23c11 : Code := subCode [1, 1, 0] (bodyOf Try.prog 23)
def f23a11 : Ann := subAnn [1, 1, 0] ann23
noncomputable def f23c12 : Code := subCode [1, 1, 1] (bodyOf Try.prog 23)
def f23a12 : Ann := subAnn [1, 1, 1] ann23
def f23e0 (y0 : Int) (y1 : Int) (y2 : Int) : Env := AV.int IntKind.i64 y0 :: AV.int IntKind.i64 y1 :: AV.int IntKind.i64 y2 :: Env.sp 34 []
def f23e1 (y0 : Int) (y1 : Int) (y2 : Int) (y3 : Option (Nat × Nat)) (y4 : Int) : Env := AV.int IntKind.i64 y0 :: AV.int IntKind.i64 y1 :: AV.int IntKind.i64 y2 :: Env.sp 3 (AV.ptr y3 :: AV.int IntKind.i64 y4 :: Env.sp 29 [])
def f23e2 (y0 : Int) (y1 : Int) (y2 : Int) (y3 : Int) (y4 : Bool) (y5 : Bool) (y6 : Bool) (y7 : Bool) (y8 : Bool) (y9 : Bool) (y10 : Bool) (y11 : Bool) (y12 : Bool) (y13 : Bool) (y14 : Bool) : Env := AV.int IntKind.i64 y0 :: AV.int IntKind.i64 y1 :: AV.int IntKind.i64 y2 :: Env.sp 5 (AV.int IntKind.i64 y3 :: AV.bool y4 :: AV.bool y5 :: AV.tuple [] :: AV.tuple [] :: AV.bool y6 :: AV.bool y7 :: AV.tuple [] :: AV.tuple [] :: AV.bool y8 :: AV.bool y9 :: AV.tuple [] :: AV.tuple [] :: AV.bool y10 :: AV.bool y11 :: AV.tuple [] :: AV.tuple [] :: AV.bool y12 :: AV.bool y13 :: AV.tuple [] :: AV.tuple [] :: AV.tuple [] :: AV.tuple [] :: AV.bool y14 :: Env.sp 5 [])
def f23e3 (y0 : Int) (y1 : Int) (y2 : Int) (y3 : Int) (y4 : Bool) (y5 : Bool) (y6 : Int) (y7 : Bool) (y8 : Bool) (y9 : Bool) (y10 : Bool) (y11 : Bool) (y12 : Bool) (y13 : Bool) (y14 : Bool) (y15 : Bool) (y16 : Bool) : Env := AV.int IntKind.i64 y0 :: AV.int IntKind.i64 y1 :: AV.int IntKind.i64 y2 :: Env.sp 5 (AV.int IntKind.i64 y3 :: AV.bool y4 :: AV.bool y5 :: AV.int IntKind.i64 y6 :: AV.bool y7 :: AV.bool y8 :: AV.bool y9 :: AV.tuple [] :: AV.tuple [] :: AV.bool y10 :: AV.bool y11 :: AV.tuple [] :: AV.tuple [] :: AV.bool y12 :: AV.bool y13 :: AV.tuple [] :: AV.tuple [] :: AV.bool y14 :: AV.bool y15 :: AV.tuple [] :: AV.tuple [] :: AV.tuple [] :: AV.tuple [] :: AV.bool y16 :: Env.sp 5 [])
def f23e4 (y0 : Int) (y1 : Int) (y2 : Int) (y3 : Int) (y4 : Bool) (y5 : Bool) (y6 : Int) (y7 : Bool) (y8 : Bool) (y9 : Bool) (y10 : Int) (y11 : Bool) (y12 : Bool) (y13 : Bool) (y14 : Bool) (y15 : Bool) (y16 : Bool) (y17 : Bool) (y18 : Bool) : Env := AV.int IntKind.i64 y0 :: AV.int IntKind.i64 y1 :: AV.int IntKind.i64 y2 :: Env.sp 5 (AV.int IntKind.i64 y3 :: AV.bool y4 :: AV.bool y5 :: AV.int IntKind.i64 y6 :: AV.bool y7 :: AV.bool y8 :: AV.bool y9 :: AV.int IntKind.i64 y10 :: AV.bool y11 :: AV.bool y12 :: AV.bool y13 :: AV.tuple [] :: AV.tuple [] :: AV.bool y14 :: AV.bool y15 :: AV.tuple [] :: AV.tuple [] :: AV.bool y16 :: AV.bool y17 :: AV.tuple [] :: AV.tuple [] :: AV.tuple [] :: AV.tuple [] :: AV.bool y18 :: Env.sp 5 [])
def f23e5 (y0 : Int) (y1 : Int) (y2 : Int) (y3 : Int) (y4 : Bool) (y5 : Bool) (y6 : Int) (y7 : Bool) (y8 : Bool) (y9 : Bool) (y10 : Int) (y11 : Bool) (y12 : Bool) (y13 : Bool) (y14 : Int) (y15 : Bool) (y16 : Bool) (y17 : Bool) (y18 : Bool) (y19 : Bool) (y20 : Bool) : Env := AV.int IntKind.i64 y0 :: AV.int IntKind.i64 y1 :: AV.int IntKind.i64 y2 :: Env.sp 5 (AV.int IntKind.i64 y3 :: AV.bool y4 :: AV.bool y5 :: AV.int IntKind.i64 y6 :: AV.bool y7 :: AV.bool y8 :: AV.bool y9 :: AV.int IntKind.i64 y10 :: AV.bool y11 :: AV.bool y12 :: AV.bool y13 :: AV.int IntKind.i64 y14 :: AV.bool y15 :: AV.bool y16 :: AV.bool y17 :: AV.tuple [] :: AV.tuple [] :: AV.bool y18 :: AV.bool y19 :: AV.tuple [] :: AV.tuple [] :: AV.tuple [] :: AV.tuple [] :: AV.bool y20 :: Env.sp 5 [])
def f23e6 (y0 : Int) (y1 : Int) (y2 : Int) (y3 : Int) (y4 : Bool) (y5 : Bool) (y6 : Int) (y7 : Bool) (y8 : Bool) (y9 : Bool) (y10 : Int) (y11 : Bool) (y12 : Bool) (y13 : Bool) (y14 : Int) (y15 : Bool) (y16 : Bool) (y17 : Bool) (y18 : Int) (y19 : Bool) (y20 : Bool) (y21 : Bool) (y22 : Bool) : Env := AV.int IntKind.i64 y0 :: AV.int IntKind.i64 y1 :: AV.int IntKind.i64 y2 :: Env.sp 5 (AV.int IntKind.i64 y3 :: AV.bool y4 :: AV.bool y5 :: AV.int IntKind.i64 y6 :: AV.bool y7 :: AV.bool y8 :: AV.bool y9 :: AV.int IntKind.i64 y10 :: AV.bool y11 :: AV.bool y12 :: AV.bool y13 :: AV.int IntKind.i64 y14 :: AV.bool y15 :: AV.bool y16 :: AV.bool y17 :: AV.int IntKind.i64 y18 :: AV.bool y19 :: AV.bool y20 :: AV.bool y21 :: AV.tuple [] :: AV.tuple [] :: AV.tuple [] :: AV.tuple [] :: AV.bool y22 :: Env.sp 5 [])
def f23e7 (y0 : Int) (y1 : Int) (y2 : Int) (y3 : Int) (y4 : Bool) (y5 : Bool) (y6 : Int) (y7 : Bool) (y8 : Bool) (y9 : Bool) (y10 : Int) (y11 : Bool) (y12 : Bool) (y13 : Bool) (y14 : Int) (y15 : Bool) (y16 : Bool) (y17 : Bool) (y18 : Int) (y19 : Bool) (y20 : Bool) (y21 : Bool) (y22 : Int) (y23 : Int) (y24 : Int) (y25 : Bool) (y26 : Bool) : Env := AV.int IntKind.i64 y0 :: AV.int IntKind.i64 y1 :: AV.int IntKind.i64 y2 :: Env.sp 5 (AV.int IntKind.i64 y3 :: AV.bool y4 :: AV.bool y5 :: AV.int IntKind.i64 y6 :: AV.bool y7 :: AV.bool y8 :: AV.bool y9 :: AV.int IntKind.i64 y10 :: AV.bool y11 :: AV.bool y12 :: AV.bool y13 :: AV.int IntKind.i64 y14 :: AV.bool y15 :: AV.bool y16 :: AV.bool y17 :: AV.int IntKind.i64 y18 :: AV.bool y19 :: AV.bool y20 :: AV.bool y21 :: AV.int IntKind.i64 y22 :: AV.int IntKind.i64 y23 :: AV.int IntKind.i64 y24 :: AV.bool y25 :: AV.bool y26 :: Env.sp 5 [])
def f23e8 (y0 : Int) (y1 : Int) (y2 : Int) (y3 : Bool) : Env := AV.int IntKind.i64 y0 :: AV.int IntKind.i64 y1 :: AV.int IntKind.i64 y2 :: Env.sp 28 (AV.bool y3 :: Env.sp 5 [])
def f23e9 (y0 : Int) (y1 : Int) (y2 : Int) (y3 : Option (Nat × Nat)) (y4 : Int) (y5 : Bool) : Env := AV.int IntKind.i64 y0 :: AV.int IntKind.i64 y1 :: AV.int IntKind.i64 y2 :: Env.sp 3 (AV.ptr y3 :: AV.int IntKind.i64 y4 :: Env.sp 23 (AV.bool y5 :: Env.sp 5 []))
def f23e10 (y0 : Option (Nat × Nat)) (y1 : Int) : Env := Env.sp 6 (AV.ptr y0 :: AV.int IntKind.i64 y1 :: Env.sp 29 [])
def f23e11 (y0 : Int) (y1 : Int) (y2 : Int) (y3 : Nat) (y4 : Int) (y5 : Int) (y6 : Int) (y7 : Int) (y8 : Int) (y9 : Int) (y10 : Int) (y11 : Option (Nat × Nat)) (y12 : Nat) (y13 : Option Nat) (y14 : Nat) : Env := AV.int IntKind.i64 y0 :: AV.int IntKind.i64 y1 :: AV.int IntKind.i64 y2 :: Env.sp 3 (AV.ptr (some (y3, (0 : Nat))) :: AV.int IntKind.i64 y4 :: Env.sp 24 (AV.int IntKind.i64 y5 :: AV.int IntKind.i64 y6 :: AV.int IntKind.i64 y7 :: AV.agg [AV.int IntKind.i64 y8, AV.int IntKind.i64 y9, AV.int IntKind.i64 y10, AV.slice y11 y12 y13 (4 : Nat)] :: AV.ptr (some (y14, (0 : Nat))) :: []))
def f23e12 (y0 : Nat) (y1 : Int) : Env := Env.sp 6 (AV.ptr (some (y0, (0 : Nat))) :: AV.int IntKind.i64 y1 :: Env.sp 29 [])

/- function 23 -/
theorem f23_eq {R : Type} (call : CallF R) (N : Nat) (y0 : Int) (y1 : Int) (y2 : Int) (σ : St) (K : AV → St → Option R) :
    bodyK Try.prog call N ann 23 [AV.int IntKind.i64 y0, AV.int IntKind.i64 y1, AV.int IntKind.i64 y2] σ K = runK Try.prog call N f23c0 f23a0 (bodyC Try.prog f23rs K) (f23e0 y0 y1 y2) σ := bodyK_of (fn := ((Try.prog.funcs[23]?).get rfl)) (by kernel_rfl) (by kernel_rfl) (by kernel_rfl) (by kernel_rfl) (by kernel_rfl) (by kernel_rfl)
theorem f23n0 {R : Type} (call : CallF R) (N : Nat) (J : KF R) (e : Env) (σ : St) : runK Try.prog call N f23c0 f23a0 J e σ = runK Try.prog call N f23c1 f23a1 (seqC (fun K e σ => runK Try.prog call N f23c2 f23a2 K e σ) f23a0 J) e σ := runK_seq' (by kernel_rfl) (by kernel_rfl) (by kernel_rfl)
theorem f23r1_f23e0 {R : Type} (call : CallF R) (N : Nat) (y0 : Int) (y1 : Int) (y2 : Int) (J : KF R) (σ : St) :
    runK Try.prog call N f23c1 f23a1 J (f23e0 y0 y1 y2) σ =
J Ex.normal (f23e1 y0 y1 y2 none (0 : Int)) σ := hide (by kernel_rfl)
theorem f23z0_f23e1 (y0 : Int) (y1 : Int) (y2 : Int) (y3 : Option (Nat × Nat)) (y4 : Int) : Ann.clr f23a0 (f23e1 y0 y1 y2 y3 y4) = f23e0 y0 y1 y2 := hide (by kernel_rfl)
theorem f23n2 {R : Type} (call : CallF R) (N : Nat) (J : KF R) (e : Env) (σ : St) : runK Try.prog call N f23c2 f23a2 J e σ = runK Try.prog call N f23c3 f23a3 (seqC (fun K e σ => runK Try.prog call N f23c4 f23a4 K e σ) f23a2 J) e σ := runK_seq' (by kernel_rfl) (by kernel_rfl) (by kernel_rfl)
theorem f23n3 {R : Type} (call : CallF R) (N : Nat) (J : KF R) (e : Env) (σ : St) : runK Try.prog call N f23c3 f23a3 J e σ = runK Try.prog call N f23c5 f23a5 (seqC (fun K e σ => runK Try.prog call N f23c6 f23a6 K e σ) f23a3 J) e σ := runK_seq' (by kernel_rfl) (by kernel_rfl) (by kernel_rfl)
theorem f23r5_f23e0 {R : Type} (call : CallF R) (N : Nat) (y0 : Int) (y1 : Int) (y2 : Int) (J : KF R) (σ : St) :
    runK Try.prog call N f23c5 f23a5 J (f23e0 y0 y1 y2) σ =
if decide (y0 < (0 : Int)) = true then J Ex.normal (f23e2 y0 y1 y2 y0 (decide (y0 < (0 : Int))) true true true true true true true true true true) σ
else
  if decide (y0 > (4 : Int)) = true then
    J Ex.normal
      (f23e3 y0 y1 y2 y0 (decide (y0 < (0 : Int))) false y0 (decide (y0 > (4 : Int))) (decide (y0 > (4 : Int))) true true true true true true true
        true)
      σ
  else
    if decide (y1 < (0 : Int)) = true then
      J Ex.normal
        (f23e4 y0 y1 y2 y0 (decide (y0 < (0 : Int))) false y0 (decide (y0 > (4 : Int))) (decide (y0 > (4 : Int))) false y1 (decide (y1 < (0 : Int)))
          (decide (y1 < (0 : Int))) true true true true true true)
        σ
    else
      if decide (y1 > (3 : Int)) = true then
        J Ex.normal
          (f23e5 y0 y1 y2 y0 (decide (y0 < (0 : Int))) false y0 (decide (y0 > (4 : Int))) (decide (y0 > (4 : Int))) false y1 (decide (y1 < (0 : Int)))
            (decide (y1 < (0 : Int))) false y1 (decide (y1 > (3 : Int))) (decide (y1 > (3 : Int))) true true true true)
          σ
      else
        if decide (y2 < (0 : Int)) = true then
          J Ex.normal
            (f23e6 y0 y1 y2 y0 (decide (y0 < (0 : Int))) false y0 (decide (y0 > (4 : Int))) (decide (y0 > (4 : Int))) false y1
              (decide (y1 < (0 : Int))) (decide (y1 < (0 : Int))) false y1 (decide (y1 > (3 : Int))) (decide (y1 > (3 : Int))) false y2
              (decide (y2 < (0 : Int))) (decide (y2 < (0 : Int))) true true)
            σ
        else
          J Ex.normal
            (f23e7 y0 y1 y2 y0 (decide (y0 < (0 : Int))) false y0 (decide (y0 > (4 : Int))) (decide (y0 > (4 : Int))) false y1
              (decide (y1 < (0 : Int))) (decide (y1 < (0 : Int))) false y1 (decide (y1 > (3 : Int))) (decide (y1 > (3 : Int))) false y2
              (decide (y2 < (0 : Int))) (decide (y2 < (0 : Int))) false y2 y1 (IntKind.wrap IntKind.i64 ((3 : Int) * y1))
              (decide (y2 > IntKind.wrap IntKind.i64 ((3 : Int) * y1))) (decide (y2 > IntKind.wrap IntKind.i64 ((3 : Int) * y1))))
            σ := hide (by kernel_rfl)
theorem f23z3_f23e2 (y0 : Int) (y1 : Int) (y2 : Int) (y3 : Int) (y4 : Bool) (y5 : Bool) (y6 : Bool) (y7 : Bool) (y8 : Bool) (y9 : Bool) (y10 : Bool) (y11 : Bool) (y12 : Bool) (y13 : Bool) (y14 : Bool) : Ann.clr f23a3 (f23e2 y0 y1 y2 y3 y4 y5 y6 y7 y8 y9 y10 y11 y12 y13 y14) = f23e8 y0 y1 y2 y14 := hide (by kernel_rfl)
theorem f23x6_f23e8 {R : Type} (call : CallF R) (N : Nat) (y0 : Int) (y1 : Int) (y2 : Int) (y3 : Bool) (J : KF R) (σ : St) : runK Try.prog call N f23c6 f23a6 J (f23e8 y0 y1 y2 y3) σ = if y3 = true then runK Try.prog call N f23c7 f23a7 (condC f23a6 J) (f23e8 y0 y1 y2 y3) σ else runK Try.prog call N f23c8 f23a8 (condC f23a6 J) (f23e8 y0 y1 y2 y3) σ := runK_cond' (o := Operand.tmp (31 : Nat)) (by kernel_rfl) (by kernel_rfl) (by kernel_rfl) (by kernel_rfl)
theorem f23n7 {R : Type} (call : CallF R) (N : Nat) (J : KF R) (e : Env) (σ : St) : runK Try.prog call N f23c7 f23a7 J e σ = runK Try.prog call N f23c9 f23a9 (seqC (fun K e σ => runK Try.prog call N f23c10 f23a10 K e σ) f23a7 J) e σ := runK_seq' (by kernel_rfl) (by kernel_rfl) (by kernel_rfl)
theorem f23r9_f23e8 {R : Type} (call : CallF R) (N : Nat) (y0 : Int) (y1 : Int) (y2 : Int) (y3 : Bool) (J : KF R) (σ : St) :
    runK Try.prog call N f23c9 f23a9 J (f23e8 y0 y1 y2 y3) σ =
J Ex.normal (f23e9 y0 y1 y2 none (1 : Int) y3) σ := hide (by kernel_rfl)
theorem f23z7_f23e9 (y0 : Int) (y1 : Int) (y2 : Int) (y3 : Option (Nat × Nat)) (y4 : Int) (y5 : Bool) : Ann.clr f23a7 (f23e9 y0 y1 y2 y3 y4 y5) = f23e10 y3 y4 := hide (by kernel_rfl)
theorem f23y10_f23e10 {R : Type} (call : CallF R) (N : Nat) (y0 : Option (Nat × Nat)) (y1 : Int) (J : KF R) (σ : St) : runK Try.prog call N f23c10 f23a10 J (f23e10 y0 y1) σ = J .ret (f23e10 y0 y1) σ := runK_ret' (by kernel_rfl) (by kernel_rfl)
theorem f23n8 {R : Type} (call : CallF R) (N : Nat) (J : KF R) (e : Env) (σ : St) : runK Try.prog call N f23c8 f23a8 J e σ = J .normal e σ := runK_skip' (by kernel_rfl)
theorem f23z6_f23e8 (y0 : Int) (y1 : Int) (y2 : Int) (y3 : Bool) : Ann.clr f23a6 (f23e8 y0 y1 y2 y3) = f23e0 y0 y1 y2 := hide (by kernel_rfl)
theorem f23z3_f23e3 (y0 : Int) (y1 : Int) (y2 : Int) (y3 : Int) (y4 : Bool) (y5 : Bool) (y6 : Int) (y7 : Bool) (y8 : Bool) (y9 : Bool) (y10 : Bool) (y11 : Bool) (y12 : Bool) (y13 : Bool) (y14 : Bool) (y15 : Bool) (y16 : Bool) : Ann.clr f23a3 (f23e3 y0 y1 y2 y3 y4 y5 y6 y7 y8 y9 y10 y11 y12 y13 y14 y15 y16) = f23e8 y0 y1 y2 y16 := hide (by kernel_rfl)
theorem f23z3_f23e4 (y0 : Int) (y1 : Int) (y2 : Int) (y3 : Int) (y4 : Bool) (y5 : Bool) (y6 : Int) (y7 : Bool) (y8 : Bool) (y9 : Bool) (y10 : Int) (y11 : Bool) (y12 : Bool) (y13 : Bool) (y14 : Bool) (y15 : Bool) (y16 : Bool) (y17 : Bool) (y18 : Bool) : Ann.clr f23a3 (f23e4 y0 y1 y2 y3 y4 y5 y6 y7 y8 y9 y10 y11 y12 y13 y14 y15 y16 y17 y18) = f23e8 y0 y1 y2 y18 := hide (by kernel_rfl)
theorem f23z3_f23e5 (y0 : Int) (y1 : Int) (y2 : Int) (y3 : Int) (y4 : Bool) (y5 : Bool) (y6 : Int) (y7 : Bool) (y8 : Bool) (y9 : Bool) (y10 : Int) (y11 : Bool) (y12 : Bool) (y13 : Bool) (y14 : Int) (y15 : Bool) (y16 : Bool) (y17 : Bool) (y18 : Bool) (y19 : Bool) (y20 : Bool) : Ann.clr f23a3 (f23e5 y0 y1 y2 y3 y4 y5 y6 y7 y8 y9 y10 y11 y12 y13 y14 y15 y16 y17 y18 y19 y20) = f23e8 y0 y1 y2 y20 := hide (by kernel_rfl)
theorem f23z3_f23e6 (y0 : Int) (y1 : Int) (y2 : Int) (y3 : Int) (y4 : Bool) (y5 : Bool) (y6 : Int) (y7 : Bool) (y8 : Bool) (y9 : Bool) (y10 : Int) (y11 : Bool) (y12 : Bool) (y13 : Bool) (y14 : Int) (y15 : Bool) (y16 : Bool) (y17 : Bool) (y18 : Int) (y19 : Bool) (y20 : Bool) (y21 : Bool) (y22 : Bool) : Ann.clr f23a3 (f23e6 y0 y1 y2 y3 y4 y5 y6 y7 y8 y9 y10 y11 y12 y13 y14 y15 y16 y17 y18 y19 y20 y21 y22) = f23e8 y0 y1 y2 y22 := hide (by kernel_rfl)
theorem f23z3_f23e7 (y0 : Int) (y1 : Int) (y2 : Int) (y3 : Int) (y4 : Bool) (y5 : Bool) (y6 : Int) (y7 : Bool) (y8 : Bool) (y9 : Bool) (y10 : Int) (y11 : Bool) (y12 : Bool) (y13 : Bool) (y14 : Int) (y15 : Bool) (y16 : Bool) (y17 : Bool) (y18 : Int) (y19 : Bool) (y20 : Bool) (y21 : Bool) (y22 : Int) (y23 : Int) (y24 : Int) (y25 : Bool) (y26 : Bool) : Ann.clr f23a3 (f23e7 y0 y1 y2 y3 y4 y5 y6 y7 y8 y9 y10 y11 y12 y13 y14 y15 y16 y17 y18 y19 y20 y21 y22 y23 y24 y25 y26) = f23e8 y0 y1 y2 y26 := hide (by kernel_rfl)
theorem f23z2_f23e0 (y0 : Int) (y1 : Int) (y2 : Int) : Ann.clr f23a2 (f23e0 y0 y1 y2) = f23e0 y0 y1 y2 := hide (by kernel_rfl)
theorem f23n4 {R : Type} (call : CallF R) (N : Nat) (J : KF R) (e : Env) (σ : St) : runK Try.prog call N f23c4 f23a4 J e σ = runK Try.prog call N f23c11 f23a11 (seqC (fun K e σ => runK Try.prog call N f23c12 f23a12 K e σ) f23a4 J) e σ := runK_seq' (by kernel_rfl) (by kernel_rfl) (by kernel_rfl)
theorem f23r11_f23e0 {R : Type} (call : CallF R) (N : Nat) (y0 : Int) (y1 : Int) (y2 : Int) (J : KF R) (σ : St) :
    runK Try.prog call N f23c11 f23a11 J (f23e0 y0 y1 y2) σ =
J Ex.normal (f23e11 y0 y1 y2 (St.next σ) (0 : Int) y0 y1 y2 y0 y1 y2 none (0 : Nat) (some (0 : Nat)) (St.next σ))
  (St.new σ
    (Blk.cells [AV.int IntKind.i64 y0, AV.int IntKind.i64 y1, AV.int IntKind.i64 y2, AV.slice none (0 : Nat) (some (0 : Nat)) (4 : Nat)] true)) := hide (by kernel_rfl)
theorem f23z4_f23e11 (y0 : Int) (y1 : Int) (y2 : Int) (y3 : Nat) (y4 : Int) (y5 : Int) (y6 : Int) (y7 : Int) (y8 : Int) (y9 : Int) (y10 : Int) (y11 : Option (Nat × Nat)) (y12 : Nat) (y13 : Option Nat) (y14 : Nat) : Ann.clr f23a4 (f23e11 y0 y1 y2 y3 y4 y5 y6 y7 y8 y9 y10 y11 y12 y13 y14) = f23e12 y3 y4 := hide (by kernel_rfl)
theorem f23y12_f23e12 {R : Type} (call : CallF R) (N : Nat) (y0 : Nat) (y1 : Int) (J : KF R) (σ : St) : runK Try.prog call N f23c12 f23a12 J (f23e12 y0 y1) σ = J .ret (f23e12 y0 y1) σ := runK_ret' (by kernel_rfl) (by kernel_rfl)
theorem f23b_f23e10_r {R : Type} (y0 : Option (Nat × Nat)) (y1 : Int) (σ : St) (K : AV → St → Option R) : bodyC Try.prog f23rs K (Ex.ret) (f23e10 y0 y1) σ =
K (AV.tuple [AV.ptr y0, AV.int IntKind.i64 y1]) σ := hide (by kernel_rfl)
theorem f23b_f23e12_r {R : Type} (y0 : Nat) (y1 : Int) (σ : St) (K : AV → St → Option R) : bodyC Try.prog f23rs K (Ex.ret) (f23e12 y0 y1) σ =
K (AV.tuple [AV.ptr (some (y0, (0 : Nat))), AV.int IntKind.i64 y1]) σ := hide (by kernel_rfl)
attribute [go_sem] f23_eq f23n0 f23r1_f23e0 f23z0_f23e1 f23n2 f23n3 f23r5_f23e0 f23z3_f23e2 f23x6_f23e8 f23n7 f23r9_f23e8 f23z7_f23e9 f23y10_f23e10 f23n8 f23z6_f23e8 f23z3_f23e3 f23z3_f23e4 f23z3_f23e5 f23z3_f23e6 f23z3_f23e7 f23z2_f23e0 f23n4 f23r11_f23e0 f23z4_f23e11 f23y12_f23e12 f23b_f23e10_r f23b_f23e12_r

noncomputable def f25rs : List ResultVar := [ResultVar.tmp (4 : Nat), ResultVar.tmp (5 : Nat)]
noncomputable def f25c0 : Code := subCode [] (bodyOf Try.prog 25)
def f25a0 : Ann := subAnn [] ann25
noncomputable def f25c1 : Code := subCode [0] (bodyOf Try.prog 25)
def f25a1 : Ann := subAnn [0] ann25
noncomputable def f25c2 : Code := subCode [1] (bodyOf Try.prog 25)
def f25a2 : Ann := subAnn [1] ann25
noncomputable def f25c3 : Code := subCode [1, 0] (bodyOf Try.prog 25)
def f25a3 : Ann := subAnn [1, 0] ann25
noncomputable def f25c4 : Code := subCode [1, 1] (bodyOf Try.prog 25)
def f25a4 : Ann := subAnn [1, 1] ann25
noncomputable def f25c5 : Code := subCode [1, 0, 0] (bodyOf Try.prog 25)
def f25a5 : Ann := subAnn [1, 0, 0] ann25
noncomputable def f25c6 : Code := subCode [1, 0, 1] (bodyOf Try.prog 25)
def f25a6 : Ann := subAnn [1, 0, 1] ann25
noncomputable def f25c7 : Code := subCode [1, 0, 1, 0] (bodyOf Try.prog 25)
def f25a7 : Ann := subAnn [1, 0, 1, 0] ann25
noncomputable def f25c8 : Code := subCode [1, 0, 1, 1] (bodyOf Try.prog 25)
def f25a8 : Ann := subAnn [1, 0, 1, 1] ann25
noncomputable def f25c9 : Code := subCode [1, 0, 1, 0, 0] (bodyOf Try.prog 25)
def f25a9 : Ann := subAnn [1, 0, 1, 0, 0] ann25
noncomputable def f25c10 : Code := subCode [1, 0, 1, 0, 1] (bodyOf Try.prog 25)
def f25a10 : Ann := subAnn [1, 0, 1, 0, 1] ann25
noncomputable def f25c11 : Code := subCode [1, 1, 0] (bodyOf Try.prog 25)
def f25a11 : Ann := subAnn [1, 1, 0] ann25
noncomputable def f25c12 : Code := subCode [1, 1, 1] (bodyOf Try.prog 25)
def f25a12 : Ann := subAnn [1, 1, 1] ann25
noncomputable def f25c13 : Code := subCode [1, 1, 0, 0] (bodyOf Try.prog 25)
def f25a13 : Ann := subAnn [1, 1, 0, 0] ann25
noncomputable def f25c14 : Code := subCode [1, 1, 0, 1] (bodyOf Try.prog 25)
def f25a14 : Ann := subAnn [1, 1, 0, 1] ann25
noncomputable def f25c15 : Code := subCode [1, 1, 0, 1, 0] (bodyOf Try.prog 25)
def f25a15 : Ann := subAnn [1, 1, 0, 1, 0] ann25
noncomputable def f25c16 : Code := subCode [1, 1, 0, 1, 1] (bodyOf Try.prog 25)
def f25a16 : Ann := subAnn [1, 1, 0, 1, 1] ann25
noncomputable def f25c17 : Code := subCode [1, 1, 0, 1, 0, 0] (bodyOf Try.prog 25)
def f25a17 : Ann := subAnn [1, 1, 0, 1, 0, 0] ann25
noncomputable def f25c18 : Code := subCode [1, 1, 0, 1, 0, 1] (bodyOf Try.prog 25)
def f25a18 : Ann := subAnn [1, 1, 0, 1, 0, 1] ann25
noncomputable def f25c19 : Code := subCode [1, 1, 1, 0] (bodyOf Try.prog 25)
def f25a19 : Ann := subAnn [1, 1, 1, 0] ann25
noncomputable def f25c20 : Code := subCode [1, 1, 1, 1] (bodyOf Try.prog 25)
def f25a20 : Ann := subAnn [1, 1, 1, 1] ann25
noncomputable def f25c21 : Code := subCode [1, 1, 1, 0, 0] (bodyOf Try.prog 25)
def f25a21 : Ann := subAnn [1, 1, 1, 0, 0] ann25
noncomputable def f25c22 : Code := subCode [1, 1, 1, 0, 1] (bodyOf Try.prog 25)
def f25a22 : Ann := subAnn [1, 1, 1, 0, 1] ann25
noncomputable def f25c23 : Code := subCode [1, 1, 1, 0, 1, 0] (bodyOf Try.prog 25)
def f25a23 : Ann := subAnn [1, 1, 1, 0, 1, 0] ann25
noncomputable def f25c24 : Code := subCode [1, 1, 1, 0, 1, 1] (bodyOf Try.prog 25)
def f25a24 : Ann := subAnn [1, 1, 1, 0, 1, 1] ann25
noncomputable def f25c25 : Code := subCode [1, 1, 1, 0, 1, 0, 0] (bodyOf Try.prog 25)
def f25a25 : Ann := subAnn [1, 1, 1, 0, 1, 0, 0] ann25
noncomputable def f25c26 : Code := subCode [1, 1, 1, 0, 1, 0, 1] (bodyOf Try.prog 25)
def f25a26 : Ann := subAnn [1, 1, 1, 0, 1, 0, 1] ann25
noncomputable def f25c27 : Code := subCode [1, 1, 1, 1, 0] (bodyOf Try.prog 25)
def f25a27 : Ann := subAnn [1, 1, 1, 1, 0] ann25
noncomputable def f25c28 : Code := subCode [1, 1, 1, 1, 1] (bodyOf Try.prog 25)
def f25a28 : Ann := subAnn [1, 1, 1, 1, 1] ann25
noncomputable def f25c29 : Code := subCode [1, 1, 1, 1, 1, 0] (bodyOf Try.prog 25)
def f25a29 : Ann := subAnn [1, 1, 1, 1, 1, 0] ann25
noncomputable def f25c30 : Code := subCode [1, 1, 1, 1, 1, 1] (bodyOf Try.prog 25)
def f25a30 : Ann := subAnn [1, 1, 1, 1, 1, 1] ann25
noncomputable def f25c31 : Code := subCode [1, 1, 1, 1, 1, 0, 0] (bodyOf Try.prog 25)
def f25a31 : Ann := subAnn [1, 1, 1, 1, 1, 0, 0] ann25
noncomputable def f25c32 : Code := subCode [1, 1, 1, 1, 1, 0, 1] (bodyOf Try.prog 25)
def f25a32 : Ann := subAnn [1, 1, 1, 1, 1, 0, 1] ann25
noncomputable def f25c33 : Code := subCode [1, 1, 1, 1, 1, 0, 1, 0] (bodyOf Try.prog 25)
def f25a33 : Ann := subAnn [1, 1, 1, 1, 1, 0, 1, 0] ann25
noncomputable def f25c34 : Code := subCode [1, 1, 1, 1, 1, 0, 1, 1] (bodyOf Try.prog 25)
def f25a34 : Ann := subAnn [1, 1, 1, 1, 1, 0, 1, 1] ann25
noncomputable def f25c35 : Code := subCode [1, 1, 1, 1, 1, 0, 1, 0, 0] (bodyOf Try.prog 25)
def f25a35 : Ann := subAnn [1, 1, 1, 1, 1, 0, 1, 0, 0] ann25
noncomputable def f25c36 : Code := subCode [1, 1, 1, 1, 1, 0, 1, 0, 1] (bodyOf Try.prog 25)
def f25a36 : Ann := subAnn [1, 1, 1, 1, 1, 0, 1, 0, 1] ann25
noncomputable def f25c37 : Code := subCode [1, 1, 1, 1, 1, 1, 0] (bodyOf Try.prog 25)
def f25a37 : Ann := subAnn [1, 1, 1, 1, 1, 1, 0] ann25
noncomputable def f25c38 : Code := subCode [1, 1, 1, 1, 1, 1, 1] (bodyOf Try.prog 25)
def f25a38 : Ann := subAnn [1, 1, 1, 1, 1, 1, 1] ann25
noncomputable def f25c39 : Code := subCode [1, 1, 1, 1, 1, 1, 1, 0] (bodyOf Try.prog 25)
def f25a39 : Ann := subAnn [1, 1, 1, 1, 1, 1, 1, 0] ann25
noncomputable def f25c40 : Code := subCode [1, 1, 1, 1, 1, 1, 1, 1] (bodyOf Try.prog 25)
def f25a40 : Ann := subAnn [1, 1, 1, 1, 1, 1, 1, 1] ann25
def f25e0 (y0 : Option (Nat × Nat)) (y1 : Int) (y2 : Int) (y3 : ByteArray) (y4 : ByteArray) : Env := AV.ptr y0 :: AV.agg [AV.int IntKind.i64 y1, AV.int IntKind.i64 y2, AV.str y3, AV.str y4] :: Env.sp 57 []
def f25e1 (y0 : Option (Nat × Nat)) (y1 : Int) (y2 : Int) (y3 : ByteArray) (y4 : ByteArray) (y5 : Nat) (y6 : Bool) (y7 : Int) : Env := AV.ptr y0 :: AV.agg [AV.int IntKind.i64 y1, AV.int IntKind.i64 y2, AV.str y3, AV.str y4] :: Env.sp 1 (AV.ptr (some (y5, (0 : Nat))) :: AV.bool y6 :: AV.int IntKind.i64 y7 :: Env.sp 53 [])
def f25e2 (y0 : Option (Nat × Nat)) (y1 : Nat) : Env := AV.ptr y0 :: Env.sp 2 (AV.ptr (some (y1, (0 : Nat))) :: Env.sp 55 [])
def f25e3 (y0 : Option (Nat × Nat)) (y1 : Nat) (y2 : Nat) (y3 : Int) (y4 : Bool) (y5 : Bool) (y6 : Bool) (y7 : Bool) (y8 : Bool) (y9 : Bool) (y10 : Bool) : Env := AV.ptr y0 :: Env.sp 2 (AV.ptr (some (y1, (0 : Nat))) :: Env.sp 4 (AV.ptr (some (y2, (0 : Nat))) :: AV.int IntKind.i64 y3 :: AV.bool y4 :: AV.bool y5 :: AV.tuple [] :: AV.tuple [] :: AV.tuple [] :: AV.bool y6 :: AV.bool y7 :: AV.tuple [] :: AV.tuple [] :: AV.tuple [] :: AV.bool y8 :: AV.bool y9 :: AV.tuple [] :: AV.tuple [] :: AV.tuple [] :: AV.tuple [] :: AV.tuple [] :: AV.tuple [] :: AV.tuple [] :: AV.tuple [] :: AV.bool y10 :: Env.sp 28 []))
def f25e4 (y0 : Option (Nat × Nat)) (y1 : Nat) (y2 : Nat) (y3 : Int) (y4 : Bool) (y5 : Bool) (y6 : Nat) (y7 : Int) (y8 : Bool) (y9 : Bool) (y10 : Bool) (y11 : Bool) (y12 : Bool) (y13 : Bool) : Env := AV.ptr y0 :: Env.sp 2 (AV.ptr (some (y1, (0 : Nat))) :: Env.sp 4 (AV.ptr (some (y2, (0 : Nat))) :: AV.int IntKind.i64 y3 :: AV.bool y4 :: AV.bool y5 :: AV.ptr (some (y6, (0 : Nat))) :: AV.int IntKind.i64 y7 :: AV.bool y8 :: AV.bool y9 :: AV.bool y10 :: AV.tuple [] :: AV.tuple [] :: AV.tuple [] :: AV.bool y11 :: AV.bool y12 :: AV.tuple [] :: AV.tuple [] :: AV.tuple [] :: AV.tuple [] :: AV.tuple [] :: AV.tuple [] :: AV.tuple [] :: AV.tuple [] :: AV.bool y13 :: Env.sp 28 []))
def f25e5 (y0 : Option (Nat × Nat)) (y1 : Nat) (y2 : Nat) (y3 : Int) (y4 : Bool) (y5 : Bool) (y6 : Nat) (y7 : Int) (y8 : Bool) (y9 : Bool) (y10 : Bool) (y11 : Nat) (y12 : Int) (y13 : Bool) (y14 : Bool) (y15 : Bool) (y16 : Bool) : Env := AV.ptr y0 :: Env.sp 2 (AV.ptr (some (y1, (0 : Nat))) :: Env.sp 4 (AV.ptr (some (y2, (0 : Nat))) :: AV.int IntKind.i64 y3 :: AV.bool y4 :: AV.bool y5 :: AV.ptr (some (y6, (0 : Nat))) :: AV.int IntKind.i64 y7 :: AV.bool y8 :: AV.bool y9 :: AV.bool y10 :: AV.ptr (some (y11, (1 : Nat))) :: AV.int IntKind.i64 y12 :: AV.bool y13 :: AV.bool y14 :: AV.bool y15 :: AV.tuple [] :: AV.tuple [] :: AV.tuple [] :: AV.tuple [] :: AV.tuple [] :: AV.tuple [] :: AV.tuple [] :: AV.tuple [] :: AV.bool y16 :: Env.sp 28 []))
def f25e6 (y0 : Option (Nat × Nat)) (y1 : Nat) (y2 : Nat) (y3 : Int) (y4 : Bool) (y5 : Bool) (y6 : Nat) (y7 : Int) (y8 : Bool) (y9 : Bool) (y10 : Bool) (y11 : Nat) (y12 : Int) (y13 : Bool) (y14 : Bool) (y15 : Bool) (y16 : Nat) (y17 : Int) (y18 : Option (Nat × Nat)) (y19 : Option (Nat × Nat)) (y20 : Option (Nat × Nat)) (y21 : Int) (y22 : Int) (y23 : Bool) (y24 : Bool) : Env := AV.ptr y0 :: Env.sp 2 (AV.ptr (some (y1, (0 : Nat))) :: Env.sp 4 (AV.ptr (some (y2, (0 : Nat))) :: AV.int IntKind.i64 y3 :: AV.bool y4 :: AV.bool y5 :: AV.ptr (some (y6, (0 : Nat))) :: AV.int IntKind.i64 y7 :: AV.bool y8 :: AV.bool y9 :: AV.bool y10 :: AV.ptr (some (y11, (1 : Nat))) :: AV.int IntKind.i64 y12 :: AV.bool y13 :: AV.bool y14 :: AV.bool y15 :: AV.ptr (some (y16, (1 : Nat))) :: AV.int IntKind.i64 y17 :: AV.ptr y18 :: AV.ptr y19 :: AV.ptr y20 :: AV.int IntKind.i64 y21 :: AV.int IntKind.i64 y22 :: AV.bool y23 :: AV.bool y24 :: Env.sp 28 []))
def f25e7 (y0 : Option (Nat × Nat)) (y1 : Nat) (y2 : Bool) : Env := AV.ptr y0 :: Env.sp 2 (AV.ptr (some (y1, (0 : Nat))) :: Env.sp 26 (AV.bool y2 :: Env.sp 28 []))
def f25e8 (y0 : Option (Nat × Nat)) (y1 : Nat) (y2 : Bool) (y3 : Int) (y4 : Bool) : Env := AV.ptr y0 :: Env.sp 2 (AV.ptr (some (y1, (0 : Nat))) :: AV.bool y2 :: AV.int IntKind.i64 y3 :: Env.sp 24 (AV.bool y4 :: Env.sp 28 []))
def f25e9 (y0 : Bool) (y1 : Int) : Env := Env.sp 4 (AV.bool y0 :: AV.int IntKind.i64 y1 :: Env.sp 53 [])
def f25e10 (y0 : Option (Nat × Nat)) (y1 : Nat) (y2 : Nat) (y3 : ByteArray) (y4 : Int) (y5 : Bool) : Env := AV.ptr y0 :: Env.sp 2 (AV.ptr (some (y1, (0 : Nat))) :: Env.sp 27 (AV.ptr (some (y2, (2 : Nat))) :: AV.str y3 :: AV.int IntKind.i64 y4 :: AV.bool y5 :: Env.sp 24 []))
def f25e11 (y0 : Option (Nat × Nat)) (y1 : Nat) (y2 : Bool) : Env := AV.ptr y0 :: Env.sp 2 (AV.ptr (some (y1, (0 : Nat))) :: Env.sp 30 (AV.bool y2 :: Env.sp 24 []))
def f25e12 (y0 : Option (Nat × Nat)) (y1 : Nat) (y2 : Bool) (y3 : Int) (y4 : Bool) : Env := AV.ptr y0 :: Env.sp 2 (AV.ptr (some (y1, (0 : Nat))) :: AV.bool y2 :: AV.int IntKind.i64 y3 :: Env.sp 28 (AV.bool y4 :: Env.sp 24 []))
def f25e13 (y0 : Option (Nat × Nat)) (y1 : Nat) (y2 : Nat) (y3 : ByteArray) (y4 : Int) (y5 : Bool) : Env := AV.ptr y0 :: Env.sp 2 (AV.ptr (some (y1, (0 : Nat))) :: Env.sp 31 (AV.ptr (some (y2, (3 : Nat))) :: AV.str y3 :: AV.int IntKind.i64 y4 :: AV.bool y5 :: Env.sp 20 []))
def f25e14 (y0 : Option (Nat × Nat)) (y1 : Nat) (y2 : Bool) : Env := AV.ptr y0 :: Env.sp 2 (AV.ptr (some (y1, (0 : Nat))) :: Env.sp 34 (AV.bool y2 :: Env.sp 20 []))
def f25e15 (y0 : Option (Nat × Nat)) (y1 : Nat) (y2 : Bool) (y3 : Int) (y4 : Bool) : Env := AV.ptr y0 :: Env.sp 2 (AV.ptr (some (y1, (0 : Nat))) :: AV.bool y2 :: AV.int IntKind.i64 y3 :: Env.sp 32 (AV.bool y4 :: Env.sp 20 []))
def f25e16 (y0 : Option (Nat × Nat)) (y1 : Nat) (y2 : Nat) (y3 : Bool) (y4 : Int) (y5 : Int) (y6 : ByteArray) (y7 : ByteArray) (y8 : Bool) (y9 : Option (Nat × Nat)) (y10 : Nat) (y11 : Int) (y12 : Nat) (y13 : Int) (y14 : Int) (y15 : Int) (y16 : ByteArray) (y17 : ByteArray) (y18 : Bool) (y19 : Int) (y20 : Int) (y21 : ByteArray) (y22 : ByteArray) (y23 : Bool) : Env := AV.ptr y0 :: Env.sp 2 (AV.ptr (some (y1, (0 : Nat))) :: Env.sp 2 (AV.ptr (some (y2, (0 : Nat))) :: AV.bool y3 :: Env.sp 31 (AV.tuple [AV.agg [AV.int IntKind.i64 y4, AV.int IntKind.i64 y5, AV.str y6, AV.str y7], AV.bool y8] :: AV.ptr y9 :: AV.ptr (some (y10, (0 : Nat))) :: AV.int IntKind.i64 y11 :: AV.ptr (some (y12, (1 : Nat))) :: AV.int IntKind.i64 y13 :: AV.tuple [AV.agg [AV.int IntKind.i64 y14, AV.int IntKind.i64 y15, AV.str y16, AV.str y17], AV.bool y18] :: AV.agg [AV.int IntKind.i64 y19, AV.int IntKind.i64 y20, AV.str y21, AV.str y22] :: AV.bool y23 :: Env.sp 11 [])))
def f25e17 (y0 : Option (Nat × Nat)) (y1 : Nat) (y2 : Bool) : Env := AV.ptr y0 :: Env.sp 2 (AV.ptr (some (y1, (0 : Nat))) :: Env.sp 3 (AV.bool y2 :: Env.sp 51 []))
def f25e18 (y0 : Option (Nat × Nat)) (y1 : Nat) (y2 : Bool) (y3 : Bool) : Env := AV.ptr y0 :: Env.sp 2 (AV.ptr (some (y1, (0 : Nat))) :: Env.sp 3 (AV.bool y2 :: Env.sp 40 (AV.bool y3 :: Env.sp 10 [])))
def f25e19 (y0 : Option (Nat × Nat)) (y1 : Nat) (y2 : Bool) : Env := AV.ptr y0 :: Env.sp 2 (AV.ptr (some (y1, (0 : Nat))) :: Env.sp 44 (AV.bool y2 :: Env.sp 10 []))
def f25e20 (y0 : Option (Nat × Nat)) (y1 : Nat) (y2 : Bool) (y3 : Int) (y4 : Bool) : Env := AV.ptr y0 :: Env.sp 2 (AV.ptr (some (y1, (0 : Nat))) :: AV.bool y2 :: AV.int IntKind.i64 y3 :: Env.sp 42 (AV.bool y4 :: Env.sp 10 []))
def f25e21 (y0 : Option (Nat × Nat)) (y1 : Nat) (y2 : Option (Nat × Nat)) (y3 : Option (Nat × Nat)) (y4 : Option (Nat × Nat)) (y5 : Option (Nat × Nat)) (y6 : Option (Nat × Nat)) (y7 : Nat) (y8 : Option Nat) (y9 : Int) (y10 : Int) (y11 : ByteArray) (y12 : ByteArray) (y13 : Option (Nat × Nat)) (y14 : Nat) (y15 : Option Nat) (y16 : Option (Nat × Nat)) (y17 : Nat) (y18 : Option Nat) (y19 : Option (Nat × Nat)) (y20 : Option (Nat × Nat)) : Env := AV.ptr y0 :: Env.sp 2 (AV.ptr (some (y1, (0 : Nat))) :: Env.sp 45 (AV.ptr y2 :: AV.ptr y3 :: AV.ptr y4 :: AV.ptr y5 :: AV.slice y6 y7 y8 (4 : Nat) :: AV.agg [AV.int IntKind.i64 y9, AV.int IntKind.i64 y10, AV.str y11, AV.str y12] :: AV.slice y13 y14 y15 (4 : Nat) :: AV.slice y16 y17 y18 (4 : Nat) :: AV.ptr y19 :: AV.ptr y20 :: []))
def f25e22 : Env := Env.sp 59 []

/- function 25 -/
theorem f25_eq {R : Type} (call : CallF R) (N : Nat) (y0 : Option (Nat × Nat)) (y1 : Int) (y2 : Int) (y3 : ByteArray) (y4 : ByteArray) (σ : St) (K : AV → St → Option R) :
    bodyK Try.prog call N ann 25 [AV.ptr y0, AV.agg [AV.int IntKind.i64 y1, AV.int IntKind.i64 y2, AV.str y3, AV.str y4]] σ K = runK Try.prog call N f25c0 f25a0 (bodyC Try.prog f25rs K) (f25e0 y0 y1 y2 y3 y4) σ := bodyK_of (fn := ((Try.prog.funcs[25]?).get rfl)) (by kernel_rfl) (by kernel_rfl) (by kernel_rfl) (by kernel_rfl) (by kernel_rfl) (by kernel_rfl)
theorem f25n0 {R : Type} (call : CallF R) (N : Nat) (J : KF R) (e : Env) (σ : St) : runK Try.prog call N f25c0 f25a0 J e σ = runK Try.prog call N f25c1 f25a1 (seqC (fun K e σ => runK Try.prog call N f25c2 f25a2 K e σ) f25a0 J) e σ := runK_seq' (by kernel_rfl) (by kernel_rfl) (by kernel_rfl)
theorem f25r1_f25e0 {R : Type} (call : CallF R) (N : Nat) (y0 : Option (Nat × Nat)) (y1 : Int) (y2 : Int) (y3 : ByteArray) (y4 : ByteArray) (J : KF R) (σ : St) :
    runK Try.prog call N f25c1 f25a1 J (f25e0 y0 y1 y2 y3 y4) σ =
J Ex.normal (f25e1 y0 y1 y2 y3 y4 (St.next σ) false (0 : Int))
  (St.new σ (Blk.cells [AV.int IntKind.i64 y1, AV.int IntKind.i64 y2, AV.str y3, AV.str y4] true)) := hide (by kernel_rfl)
theorem f25z0_f25e1 (y0 : Option (Nat × Nat)) (y1 : Int) (y2 : Int) (y3 : ByteArray) (y4 : ByteArray) (y5 : Nat) (y6 : Bool) (y7 : Int) : Ann.clr f25a0 (f25e1 y0 y1 y2 y3 y4 y5 y6 y7) = f25e2 y0 y5 := hide (by kernel_rfl)
theorem f25n2 {R : Type} (call : CallF R) (N : Nat) (J : KF R) (e : Env) (σ : St) : runK Try.prog call N f25c2 f25a2 J e σ = runK Try.prog call N f25c3 f25a3 (seqC (fun K e σ => runK Try.prog call N f25c4 f25a4 K e σ) f25a2 J) e σ := runK_seq' (by kernel_rfl) (by kernel_rfl) (by kernel_rfl)
theorem f25n3 {R : Type} (call : CallF R) (N : Nat) (J : KF R) (e : Env) (σ : St) : runK Try.prog call N f25c3 f25a3 J e σ = runK Try.prog call N f25c5 f25a5 (seqC (fun K e σ => runK Try.prog call N f25c6 f25a6 K e σ) f25a3 J) e σ := runK_seq' (by kernel_rfl) (by kernel_rfl) (by kernel_rfl)
theorem f25r5_f25e2 {R : Type} (call : CallF R) (N : Nat) (y0 : Option (Nat × Nat)) (y1 : Nat) (J : KF R) (σ : St) :
    runK Try.prog call N f25c5 f25a5 J (f25e2 y0 y1) σ =
Option.bind (St.ld σ y1 (0 : Nat)) fun v0 =>
  Option.bind (AV.toInt IntKind.i64 v0) fun v1 =>
    if decide (v1 < (1 : Int)) = true then J Ex.normal (f25e3 y0 y1 y1 v1 (decide (v1 < (1 : Int))) true true true true true true) σ
    else
      Option.bind (St.ld σ y1 (0 : Nat)) fun v2 =>
        Option.bind (AV.toInt IntKind.i64 v2) fun v3 =>
          if decide (v3 > (2 : Int)) = true then
            J Ex.normal
              (f25e4 y0 y1 y1 v1 (decide (v1 < (1 : Int))) false y1 v3 (decide (v3 > (2 : Int))) (decide (v3 > (2 : Int))) true true true true) σ
          else
            Option.bind (St.ld σ y1 (1 : Nat)) fun v4 =>
              Option.bind (AV.toInt IntKind.i64 v4) fun v5 =>
                if decide (v5 < (0 : Int)) = true then
                  J Ex.normal
                    (f25e5 y0 y1 y1 v1 (decide (v1 < (1 : Int))) false y1 v3 (decide (v3 > (2 : Int))) (decide (v3 > (2 : Int))) false y1 v5
                      (decide (v5 < (0 : Int))) (decide (v5 < (0 : Int))) true true)
                    σ
                else
                  Option.bind (St.ld σ y1 (1 : Nat)) fun v6 =>
                    Option.bind (AV.toInt IntKind.i64 v6) fun v7 =>
                      Option.bind y0 fun v8 =>
                        Option.bind (St.ld σ (Prod.fst v8) (Prod.snd v8 + (1 : Nat))) fun v9 =>
                          Option.bind (AV.toInt IntKind.i64 v9) fun v10 =>
                            J Ex.normal
                              (f25e6 y0 y1 y1 v1 (decide (v1 < (1 : Int))) false y1 v3 (decide (v3 > (2 : Int))) (decide (v3 > (2 : Int))) false y1 v5
                                (decide (v5 < (0 : Int))) (decide (v5 < (0 : Int))) false y1 v7 y0 (some v8)
                                (some (Prod.fst v8, Prod.snd v8 + (1 : Nat))) v10 (IntKind.wrap IntKind.i64 ((3 : Int) * v10))
                                (decide (v7 > IntKind.wrap IntKind.i64 ((3 : Int) * v10))) (decide (v7 > IntKind.wrap IntKind.i64 ((3 : Int) * v10))))
                              σ := hide (by kernel_rfl)
theorem f25z3_f25e3 (y0 : Option (Nat × Nat)) (y1 : Nat) (y2 : Nat) (y3 : Int) (y4 : Bool) (y5 : Bool) (y6 : Bool) (y7 : Bool) (y8 : Bool) (y9 : Bool) (y10 : Bool) : Ann.clr f25a3 (f25e3 y0 y1 y2 y3 y4 y5 y6 y7 y8 y9 y10) = f25e7 y0 y1 y10 := hide (by kernel_rfl)
theorem f25x6_f25e7 {R : Type} (call : CallF R) (N : Nat) (y0 : Option (Nat × Nat)) (y1 : Nat) (y2 : Bool) (J : KF R) (σ : St) : runK Try.prog call N f25c6 f25a6 J (f25e7 y0 y1 y2) σ = if y2 = true then runK Try.prog call N f25c7 f25a7 (condC f25a6 J) (f25e7 y0 y1 y2) σ else runK Try.prog call N f25c8 f25a8 (condC f25a6 J) (f25e7 y0 y1 y2) σ := runK_cond' (o := Operand.tmp (30 : Nat)) (by kernel_rfl) (by kernel_rfl) (by kernel_rfl) (by kernel_rfl)
theorem f25n7 {R : Type} (call : CallF R) (N : Nat) (J : KF R) (e : Env) (σ : St) : runK Try.prog call N f25c7 f25a7 J e σ = runK Try.prog call N f25c9 f25a9 (seqC (fun K e σ => runK Try.prog call N f25c10 f25a10 K e σ) f25a7 J) e σ := runK_seq' (by kernel_rfl) (by kernel_rfl) (by kernel_rfl)
theorem f25r9_f25e7 {R : Type} (call : CallF R) (N : Nat) (y0 : Option (Nat × Nat)) (y1 : Nat) (y2 : Bool) (J : KF R) (σ : St) :
    runK Try.prog call N f25c9 f25a9 J (f25e7 y0 y1 y2) σ =
J Ex.normal (f25e8 y0 y1 false (1 : Int) y2) σ := hide (by kernel_rfl)
theorem f25z7_f25e8 (y0 : Option (Nat × Nat)) (y1 : Nat) (y2 : Bool) (y3 : Int) (y4 : Bool) : Ann.clr f25a7 (f25e8 y0 y1 y2 y3 y4) = f25e9 y2 y3 := hide (by kernel_rfl)
theorem f25y10_f25e9 {R : Type} (call : CallF R) (N : Nat) (y0 : Bool) (y1 : Int) (J : KF R) (σ : St) : runK Try.prog call N f25c10 f25a10 J (f25e9 y0 y1) σ = J .ret (f25e9 y0 y1) σ := runK_ret' (by kernel_rfl) (by kernel_rfl)
theorem f25n8 {R : Type} (call : CallF R) (N : Nat) (J : KF R) (e : Env) (σ : St) : runK Try.prog call N f25c8 f25a8 J e σ = J .normal e σ := runK_skip' (by kernel_rfl)
theorem f25z6_f25e7 (y0 : Option (Nat × Nat)) (y1 : Nat) (y2 : Bool) : Ann.clr f25a6 (f25e7 y0 y1 y2) = f25e2 y0 y1 := hide (by kernel_rfl)
theorem f25z3_f25e4 (y0 : Option (Nat × Nat)) (y1 : Nat) (y2 : Nat) (y3 : Int) (y4 : Bool) (y5 : Bool) (y6 : Nat) (y7 : Int) (y8 : Bool) (y9 : Bool) (y10 : Bool) (y11 : Bool) (y12 : Bool) (y13 : Bool) : Ann.clr f25a3 (f25e4 y0 y1 y2 y3 y4 y5 y6 y7 y8 y9 y10 y11 y12 y13) = f25e7 y0 y1 y13 := hide (by kernel_rfl)
theorem f25z3_f25e5 (y0 : Option (Nat × Nat)) (y1 : Nat) (y2 : Nat) (y3 : Int) (y4 : Bool) (y5 : Bool) (y6 : Nat) (y7 : Int) (y8 : Bool) (y9 : Bool) (y10 : Bool) (y11 : Nat) (y12 : Int) (y13 : Bool) (y14 : Bool) (y15 : Bool) (y16 : Bool) : Ann.clr f25a3 (f25e5 y0 y1 y2 y3 y4 y5 y6 y7 y8 y9 y10 y11 y12 y13 y14 y15 y16) = f25e7 y0 y1 y16 := hide (by kernel_rfl)
theorem f25z3_f25e6 (y0 : Option (Nat × Nat)) (y1 : Nat) (y2 : Nat) (y3 : Int) (y4 : Bool) (y5 : Bool) (y6 : Nat) (y7 : Int) (y8 : Bool) (y9 : Bool) (y10 : Bool) (y11 : Nat) (y12 : Int) (y13 : Bool) (y14 : Bool) (y15 : Bool) (y16 : Nat) (y17 : Int) (y18 : Option (Nat × Nat)) (y19 : Option (Nat × Nat)) (y20 : Option (Nat × Nat)) (y21 : Int) (y22 : Int) (y23 : Bool) (y24 : Bool) : Ann.clr f25a3 (f25e6 y0 y1 y2 y3 y4 y5 y6 y7 y8 y9 y10 y11 y12 y13 y14 y15 y16 y17 y18 y19 y20 y21 y22 y23 y24) = f25e7 y0 y1 y24 := hide (by kernel_rfl)
theorem f25z2_f25e2 (y0 : Option (Nat × Nat)) (y1 : Nat) : Ann.clr f25a2 (f25e2 y0 y1) = f25e2 y0 y1 := hide (by kernel_rfl)
theorem f25n4 {R : Type} (call : CallF R) (N : Nat) (J : KF R) (e : Env) (σ : St) : runK Try.prog call N f25c4 f25a4 J e σ = runK Try.prog call N f25c11 f25a11 (seqC (fun K e σ => runK Try.prog call N f25c12 f25a12 K e σ) f25a4 J) e σ := runK_seq' (by kernel_rfl) (by kernel_rfl) (by kernel_rfl)
theorem f25n11 {R : Type} (call : CallF R) (N : Nat) (J : KF R) (e : Env) (σ : St) : runK Try.prog call N f25c11 f25a11 J e σ = runK Try.prog call N f25c13 f25a13 (seqC (fun K e σ => runK Try.prog call N f25c14 f25a14 K e σ) f25a11 J) e σ := runK_seq' (by kernel_rfl) (by kernel_rfl) (by kernel_rfl)
theorem f25r13_f25e2 {R : Type} (call : CallF R) (N : Nat) (y0 : Option (Nat × Nat)) (y1 : Nat) (J : KF R) (σ : St) :
    runK Try.prog call N f25c13 f25a13 J (f25e2 y0 y1) σ =
Option.bind (St.ld σ y1 (2 : Nat)) fun v0 =>
  Option.bind (AV.toStr v0) fun v1 =>
    J Ex.normal (f25e10 y0 y1 y1 v1 (↑(ByteArray.size v1) : Int) (decide ((↑(ByteArray.size v1) : Int) > (30000 : Int)))) σ := hide (by kernel_rfl)
theorem f25z11_f25e10 (y0 : Option (Nat × Nat)) (y1 : Nat) (y2 : Nat) (y3 : ByteArray) (y4 : Int) (y5 : Bool) : Ann.clr f25a11 (f25e10 y0 y1 y2 y3 y4 y5) = f25e11 y0 y1 y5 := hide (by kernel_rfl)
theorem f25x14_f25e11 {R : Type} (call : CallF R) (N : Nat) (y0 : Option (Nat × Nat)) (y1 : Nat) (y2 : Bool) (J : KF R) (σ : St) : runK Try.prog call N f25c14 f25a14 J (f25e11 y0 y1 y2) σ = if y2 = true then runK Try.prog call N f25c15 f25a15 (condC f25a14 J) (f25e11 y0 y1 y2) σ else runK Try.prog call N f25c16 f25a16 (condC f25a14 J) (f25e11 y0 y1 y2) σ := runK_cond' (o := Operand.tmp (34 : Nat)) (by kernel_rfl) (by kernel_rfl) (by kernel_rfl) (by kernel_rfl)
theorem f25n15 {R : Type} (call : CallF R) (N : Nat) (J : KF R) (e : Env) (σ : St) : runK Try.prog call N f25c15 f25a15 J e σ = runK Try.prog call N f25c17 f25a17 (seqC (fun K e σ => runK Try.prog call N f25c18 f25a18 K e σ) f25a15 J) e σ := runK_seq' (by kernel_rfl) (by kernel_rfl) (by kernel_rfl)
theorem f25r17_f25e11 {R : Type} (call : CallF R) (N : Nat) (y0 : Option (Nat × Nat)) (y1 : Nat) (y2 : Bool) (J : KF R) (σ : St) :
    runK Try.prog call N f25c17 f25a17 J (f25e11 y0 y1 y2) σ =
J Ex.normal (f25e12 y0 y1 false (2 : Int) y2) σ := hide (by kernel_rfl)
theorem f25z15_f25e12 (y0 : Option (Nat × Nat)) (y1 : Nat) (y2 : Bool) (y3 : Int) (y4 : Bool) : Ann.clr f25a15 (f25e12 y0 y1 y2 y3 y4) = f25e9 y2 y3 := hide (by kernel_rfl)
theorem f25y18_f25e9 {R : Type} (call : CallF R) (N : Nat) (y0 : Bool) (y1 : Int) (J : KF R) (σ : St) : runK Try.prog call N f25c18 f25a18 J (f25e9 y0 y1) σ = J .ret (f25e9 y0 y1) σ := runK_ret' (by kernel_rfl) (by kernel_rfl)
theorem f25n16 {R : Type} (call : CallF R) (N : Nat) (J : KF R) (e : Env) (σ : St) : runK Try.prog call N f25c16 f25a16 J e σ = J .normal e σ := runK_skip' (by kernel_rfl)
theorem f25z14_f25e11 (y0 : Option (Nat × Nat)) (y1 : Nat) (y2 : Bool) : Ann.clr f25a14 (f25e11 y0 y1 y2) = f25e2 y0 y1 := hide (by kernel_rfl)
theorem f25z4_f25e2 (y0 : Option (Nat × Nat)) (y1 : Nat) : Ann.clr f25a4 (f25e2 y0 y1) = f25e2 y0 y1 := hide (by kernel_rfl)
theorem f25n12 {R : Type} (call : CallF R) (N : Nat) (J : KF R) (e : Env) (σ : St) : runK Try.prog call N f25c12 f25a12 J e σ = runK Try.prog call N f25c19 f25a19 (seqC (fun K e σ => runK Try.prog call N f25c20 f25a20 K e σ) f25a12 J) e σ := runK_seq' (by kernel_rfl) (by kernel_rfl) (by kernel_rfl)
theorem f25n19 {R : Type} (call : CallF R) (N : Nat) (J : KF R) (e : Env) (σ : St) : runK Try.prog call N f25c19 f25a19 J e σ = runK Try.prog call N f25c21 f25a21 (seqC (fun K e σ => runK Try.prog call N f25c22 f25a22 K e σ) f25a19 J) e σ := runK_seq' (by kernel_rfl) (by kernel_rfl) (by kernel_rfl)
theorem f25r21_f25e2 {R : Type} (call : CallF R) (N : Nat) (y0 : Option (Nat × Nat)) (y1 : Nat) (J : KF R) (σ : St) :
    runK Try.prog call N f25c21 f25a21 J (f25e2 y0 y1) σ =
Option.bind (St.ld σ y1 (3 : Nat)) fun v0 =>
  Option.bind (AV.toStr v0) fun v1 => J Ex.normal (f25e13 y0 y1 y1 v1 (↑(ByteArray.size v1) : Int) ((↑(ByteArray.size v1) : Int) != (16 : Int))) σ := hide (by kernel_rfl)
theorem f25z19_f25e13 (y0 : Option (Nat × Nat)) (y1 : Nat) (y2 : Nat) (y3 : ByteArray) (y4 : Int) (y5 : Bool) : Ann.clr f25a19 (f25e13 y0 y1 y2 y3 y4 y5) = f25e14 y0 y1 y5 := hide (by kernel_rfl)
theorem f25x22_f25e14 {R : Type} (call : CallF R) (N : Nat) (y0 : Option (Nat × Nat)) (y1 : Nat) (y2 : Bool) (J : KF R) (σ : St) : runK Try.prog call N f25c22 f25a22 J (f25e14 y0 y1 y2) σ = if y2 = true then runK Try.prog call N f25c23 f25a23 (condC f25a22 J) (f25e14 y0 y1 y2) σ else runK Try.prog call N f25c24 f25a24 (condC f25a22 J) (f25e14 y0 y1 y2) σ := runK_cond' (o := Operand.tmp (38 : Nat)) (by kernel_rfl) (by kernel_rfl) (by kernel_rfl) (by kernel_rfl)
theorem f25n23 {R : Type} (call : CallF R) (N : Nat) (J : KF R) (e : Env) (σ : St) : runK Try.prog call N f25c23 f25a23 J e σ = runK Try.prog call N f25c25 f25a25 (seqC (fun K e σ => runK Try.prog call N f25c26 f25a26 K e σ) f25a23 J) e σ := runK_seq' (by kernel_rfl) (by kernel_rfl) (by kernel_rfl)
theorem f25r25_f25e14 {R : Type} (call : CallF R) (N : Nat) (y0 : Option (Nat × Nat)) (y1 : Nat) (y2 : Bool) (J : KF R) (σ : St) :
    runK Try.prog call N f25c25 f25a25 J (f25e14 y0 y1 y2) σ =
J Ex.normal (f25e15 y0 y1 false (4 : Int) y2) σ := hide (by kernel_rfl)
theorem f25z23_f25e15 (y0 : Option (Nat × Nat)) (y1 : Nat) (y2 : Bool) (y3 : Int) (y4 : Bool) : Ann.clr f25a23 (f25e15 y0 y1 y2 y3 y4) = f25e9 y2 y3 := hide (by kernel_rfl)
theorem f25y26_f25e9 {R : Type} (call : CallF R) (N : Nat) (y0 : Bool) (y1 : Int) (J : KF R) (σ : St) : runK Try.prog call N f25c26 f25a26 J (f25e9 y0 y1) σ = J .ret (f25e9 y0 y1) σ := runK_ret' (by kernel_rfl) (by kernel_rfl)
theorem f25n24 {R : Type} (call : CallF R) (N : Nat) (J : KF R) (e : Env) (σ : St) : runK Try.prog call N f25c24 f25a24 J e σ = J .normal e σ := runK_skip' (by kernel_rfl)
theorem f25z22_f25e14 (y0 : Option (Nat × Nat)) (y1 : Nat) (y2 : Bool) : Ann.clr f25a22 (f25e14 y0 y1 y2) = f25e2 y0 y1 := hide (by kernel_rfl)
theorem f25z12_f25e2 (y0 : Option (Nat × Nat)) (y1 : Nat) : Ann.clr f25a12 (f25e2 y0 y1) = f25e2 y0 y1 := hide (by kernel_rfl)
theorem f25n20 {R : Type} (call : CallF R) (N : Nat) (J : KF R) (e : Env) (σ : St) : runK Try.prog call N f25c20 f25a20 J e σ = runK Try.prog call N f25c27 f25a27 (seqC (fun K e σ => runK Try.prog call N f25c28 f25a28 K e σ) f25a20 J) e σ := runK_seq' (by kernel_rfl) (by kernel_rfl) (by kernel_rfl)
theorem f25r27_f25e2 {R : Type} (call : CallF R) (N : Nat) (y0 : Option (Nat × Nat)) (y1 : Nat) (J : KF R) (σ : St) :
    runK Try.prog call N f25c27 f25a27 J (f25e2 y0 y1) σ =
Option.bind (St.ld σ y1 (0 : Nat)) fun v0 =>
  Option.bind (AV.toInt IntKind.i64 v0) fun v1 =>
    Option.bind (St.ld σ y1 (1 : Nat)) fun v2 =>
      Option.bind (AV.toInt IntKind.i64 v2) fun v3 =>
        call (27 : Nat) [AV.ptr y0, AV.int IntKind.i64 v1, AV.int IntKind.i64 v3] σ fun v4 v5 =>
          Option.bind (AV.toTuple v4) fun v6 =>
            if List.length v6 = (2 : Nat) then
              Option.bind (List.head? v6) fun v7 =>
                Option.bind (AV.toAgg v7) fun v8 =>
                  if List.length v8 = (4 : Nat) then
                    Option.bind (List.head? v8) fun v9 =>
                      Option.bind (AV.toInt IntKind.i64 v9) fun v10 =>
                        Option.bind (List.head? (List.tail v8)) fun v11 =>
                          Option.bind (AV.toInt IntKind.i64 v11) fun v12 =>
                            Option.bind (List.head? (List.tail (List.tail v8))) fun v13 =>
                              Option.bind (AV.toStr v13) fun v14 =>
                                Option.bind (List.head? (List.tail (List.tail (List.tail v8)))) fun v15 =>
                                  Option.bind (AV.toStr v15) fun v16 =>
                                    Option.bind (List.head? (List.tail v6)) fun v17 =>
                                      Option.bind (AV.toBool v17) fun v18 =>
                                        Option.bind
                                          (St.st
                                            (St.new v5
                                              (Blk.cells
                                                [AV.int IntKind.i64 (0 : Int), AV.int IntKind.i64 (0 : Int), AV.str (ByteArray.mk #[]),
                                                  AV.str (ByteArray.mk #[])]
                                                true))
                                            (St.next v5) (0 : Nat) [AV.int IntKind.i64 v10, AV.int IntKind.i64 v12, AV.str v14, AV.str v16])
                                          fun v19 =>
                                          J Ex.normal
                                            (f25e16 y0 y1 (St.next v5) v18 v10 v12 v14 v16 v18 y0 y1 v1 y1 v3 v10 v12 v14 v16 v18 v10 v12 v14 v16 v18)
                                            v19
                  else none
            else none := hide (by kernel_rfl)
theorem f25z20_f25e16 (y0 : Option (Nat × Nat)) (y1 : Nat) (y2 : Nat) (y3 : Bool) (y4 : Int) (y5 : Int) (y6 : ByteArray) (y7 : ByteArray) (y8 : Bool) (y9 : Option (Nat × Nat)) (y10 : Nat) (y11 : Int) (y12 : Nat) (y13 : Int) (y14 : Int) (y15 : Int) (y16 : ByteArray) (y17 : ByteArray) (y18 : Bool) (y19 : Int) (y20 : Int) (y21 : ByteArray) (y22 : ByteArray) (y23 : Bool) : Ann.clr f25a20 (f25e16 y0 y1 y2 y3 y4 y5 y6 y7 y8 y9 y10 y11 y12 y13 y14 y15 y16 y17 y18 y19 y20 y21 y22 y23) = f25e17 y0 y1 y3 := hide (by kernel_rfl)
theorem f25n28 {R : Type} (call : CallF R) (N : Nat) (J : KF R) (e : Env) (σ : St) : runK Try.prog call N f25c28 f25a28 J e σ = runK Try.prog call N f25c29 f25a29 (seqC (fun K e σ => runK Try.prog call N f25c30 f25a30 K e σ) f25a28 J) e σ := runK_seq' (by kernel_rfl) (by kernel_rfl) (by kernel_rfl)
theorem f25n29 {R : Type} (call : CallF R) (N : Nat) (J : KF R) (e : Env) (σ : St) : runK Try.prog call N f25c29 f25a29 J e σ = runK Try.prog call N f25c31 f25a31 (seqC (fun K e σ => runK Try.prog call N f25c32 f25a32 K e σ) f25a29 J) e σ := runK_seq' (by kernel_rfl) (by kernel_rfl) (by kernel_rfl)
theorem f25r31_f25e17 {R : Type} (call : CallF R) (N : Nat) (y0 : Option (Nat × Nat)) (y1 : Nat) (y2 : Bool) (J : KF R) (σ : St) :
    runK Try.prog call N f25c31 f25a31 J (f25e17 y0 y1 y2) σ =
J Ex.normal (f25e18 y0 y1 y2 y2) σ := hide (by kernel_rfl)
theorem f25z29_f25e18 (y0 : Option (Nat × Nat)) (y1 : Nat) (y2 : Bool) (y3 : Bool) : Ann.clr f25a29 (f25e18 y0 y1 y2 y3) = f25e19 y0 y1 y3 := hide (by kernel_rfl)
theorem f25x32_f25e19 {R : Type} (call : CallF R) (N : Nat) (y0 : Option (Nat × Nat)) (y1 : Nat) (y2 : Bool) (J : KF R) (σ : St) : runK Try.prog call N f25c32 f25a32 J (f25e19 y0 y1 y2) σ = if y2 = true then runK Try.prog call N f25c33 f25a33 (condC f25a32 J) (f25e19 y0 y1 y2) σ else runK Try.prog call N f25c34 f25a34 (condC f25a32 J) (f25e19 y0 y1 y2) σ := runK_cond' (o := Operand.tmp (48 : Nat)) (by kernel_rfl) (by kernel_rfl) (by kernel_rfl) (by kernel_rfl)
theorem f25n33 {R : Type} (call : CallF R) (N : Nat) (J : KF R) (e : Env) (σ : St) : runK Try.prog call N f25c33 f25a33 J e σ = runK Try.prog call N f25c35 f25a35 (seqC (fun K e σ => runK Try.prog call N f25c36 f25a36 K e σ) f25a33 J) e σ := runK_seq' (by kernel_rfl) (by kernel_rfl) (by kernel_rfl)
theorem f25r35_f25e19 {R : Type} (call : CallF R) (N : Nat) (y0 : Option (Nat × Nat)) (y1 : Nat) (y2 : Bool) (J : KF R) (σ : St) :
    runK Try.prog call N f25c35 f25a35 J (f25e19 y0 y1 y2) σ =
J Ex.normal (f25e20 y0 y1 false (0 : Int) y2) σ := hide (by kernel_rfl)
theorem f25z33_f25e20 (y0 : Option (Nat × Nat)) (y1 : Nat) (y2 : Bool) (y3 : Int) (y4 : Bool) : Ann.clr f25a33 (f25e20 y0 y1 y2 y3 y4) = f25e9 y2 y3 := hide (by kernel_rfl)
theorem f25y36_f25e9 {R : Type} (call : CallF R) (N : Nat) (y0 : Bool) (y1 : Int) (J : KF R) (σ : St) : runK Try.prog call N f25c36 f25a36 J (f25e9 y0 y1) σ = J .ret (f25e9 y0 y1) σ := runK_ret' (by kernel_rfl) (by kernel_rfl)
theorem f25n34 {R : Type} (call : CallF R) (N : Nat) (J : KF R) (e : Env) (σ : St) : runK Try.prog call N f25c34 f25a34 J e σ = J .normal e σ := runK_skip' (by kernel_rfl)
theorem f25z32_f25e19 (y0 : Option (Nat × Nat)) (y1 : Nat) (y2 : Bool) : Ann.clr f25a32 (f25e19 y0 y1 y2) = f25e2 y0 y1 := hide (by kernel_rfl)
theorem f25z28_f25e2 (y0 : Option (Nat × Nat)) (y1 : Nat) : Ann.clr f25a28 (f25e2 y0 y1) = f25e2 y0 y1 := hide (by kernel_rfl)
theorem f25n30 {R : Type} (call : CallF R) (N : Nat) (J : KF R) (e : Env) (σ : St) : runK Try.prog call N f25c30 f25a30 J e σ = runK Try.prog call N f25c37 f25a37 (seqC (fun K e σ => runK Try.prog call N f25c38 f25a38 K e σ) f25a30 J) e σ := runK_seq' (by kernel_rfl) (by kernel_rfl) (by kernel_rfl)
theorem f25r37_f25e2 {R : Type} (call : CallF R) (N : Nat) (y0 : Option (Nat × Nat)) (y1 : Nat) (J : KF R) (σ : St) :
    runK Try.prog call N f25c37 f25a37 J (f25e2 y0 y1) σ =
Option.bind y0 fun v0 =>
  Option.bind (St.ld σ (Prod.fst v0) (Prod.snd v0 + (3 : Nat))) fun v1 =>
    Option.bind (AV.toSl (4 : Nat) v1) fun v2 =>
      Option.bind (St.ld σ y1 (0 : Nat)) fun v3 =>
        Option.bind (AV.toInt IntKind.i64 v3) fun v4 =>
          Option.bind (St.ld σ y1 (1 : Nat)) fun v5 =>
            Option.bind (AV.toInt IntKind.i64 v5) fun v6 =>
              Option.bind (St.ld σ y1 (2 : Nat)) fun v7 =>
                Option.bind (AV.toStr v7) fun v8 =>
                  Option.bind (St.ld σ y1 (3 : Nat)) fun v9 =>
                    Option.bind (AV.toStr v9) fun v10 =>
                      if
                          St.same (St.new σ (Blk.cells [AV.int IntKind.i64 v4, AV.int IntKind.i64 v6, AV.str v8, AV.str v10] true)) (Prod.fst v0)
                              (Prod.snd v0 + (3 : Nat)) [AV.slice (Sl.o v2) (Sl.len v2) (Sl.cap v2) (4 : Nat)] =
                            true then
                        Option.bind
                          (St.elems (St.new σ (Blk.cells [AV.int IntKind.i64 v4, AV.int IntKind.i64 v6, AV.str v8, AV.str v10] true)) (4 : Nat)
                            (Sl.mk (some (St.next σ, (0 : Nat))) (1 : Nat) (some (1 : Nat))) (1 : Nat))
                          fun v11 =>
                          Option.bind
                            (St.app (St.new σ (Blk.cells [AV.int IntKind.i64 v4, AV.int IntKind.i64 v6, AV.str v8, AV.str v10] true)) (4 : Nat)
                              (48 : Nat) (Sl.mk (Sl.o v2) (Sl.len v2) (Sl.cap v2)) (1 : Nat) v11)
                            fun v12 =>
                            Option.bind y0 fun v13 =>
                              Option.bind
                                (St.st (Prod.snd v12) (Prod.fst v13) (Prod.snd v13 + (3 : Nat))
                                  [AV.slice (Sl.o (Prod.fst v12)) (Sl.len (Prod.fst v12)) (Sl.cap (Prod.fst v12)) (4 : Nat)])
                                fun v14 =>
                                J Ex.normal
                                  (f25e21 y0 y1 y0 y0 (some v0) (some (Prod.fst v0, Prod.snd v0 + (3 : Nat))) (Sl.o v2) (Sl.len v2) (Sl.cap v2) v4 v6
                                    v8 v10 (some (St.next σ, (0 : Nat))) (1 : Nat) (some (1 : Nat)) (Sl.o (Prod.fst v12)) (Sl.len (Prod.fst v12))
                                    (Sl.cap (Prod.fst v12)) (some v13) (some (Prod.fst v13, Prod.snd v13 + (3 : Nat))))
                                  v14
                      else none := hide (by kernel_rfl)
theorem f25z30_f25e21 (y0 : Option (Nat × Nat)) (y1 : Nat) (y2 : Option (Nat × Nat)) (y3 : Option (Nat × Nat)) (y4 : Option (Nat × Nat)) (y5 : Option (Nat × Nat)) (y6 : Option (Nat × Nat)) (y7 : Nat) (y8 : Option Nat) (y9 : Int) (y10 : Int) (y11 : ByteArray) (y12 : ByteArray) (y13 : Option (Nat × Nat)) (y14 : Nat) (y15 : Option Nat) (y16 : Option (Nat × Nat)) (y17 : Nat) (y18 : Option Nat) (y19 : Option (Nat × Nat)) (y20 : Option (Nat × Nat)) : Ann.clr f25a30 (f25e21 y0 y1 y2 y3 y4 y5 y6 y7 y8 y9 y10 y11 y12 y13 y14 y15 y16 y17 y18 y19 y20) = f25e22 := hide (by kernel_rfl)
theorem f25n38 {R : Type} (call : CallF R) (N : Nat) (J : KF R) (e : Env) (σ : St) : runK Try.prog call N f25c38 f25a38 J e σ = runK Try.prog call N f25c39 f25a39 (seqC (fun K e σ => runK Try.prog call N f25c40 f25a40 K e σ) f25a38 J) e σ := runK_seq' (by kernel_rfl) (by kernel_rfl) (by kernel_rfl)
theorem f25r39_f25e22 {R : Type} (call : CallF R) (N : Nat) (J : KF R) (σ : St) :
    runK Try.prog call N f25c39 f25a39 J (f25e22) σ =
J Ex.normal (f25e9 true (0 : Int)) σ := hide (by kernel_rfl)
theorem f25z38_f25e9 (y0 : Bool) (y1 : Int) : Ann.clr f25a38 (f25e9 y0 y1) = f25e9 y0 y1 := hide (by kernel_rfl)
theorem f25y40_f25e9 {R : Type} (call : CallF R) (N : Nat) (y0 : Bool) (y1 : Int) (J : KF R) (σ : St) : runK Try.prog call N f25c40 f25a40 J (f25e9 y0 y1) σ = J .ret (f25e9 y0 y1) σ := runK_ret' (by kernel_rfl) (by kernel_rfl)
theorem f25b_f25e9_r {R : Type} (y0 : Bool) (y1 : Int) (σ : St) (K : AV → St → Option R) : bodyC Try.prog f25rs K (Ex.ret) (f25e9 y0 y1) σ =
K (AV.tuple [AV.bool y0, AV.int IntKind.i64 y1]) σ := hide (by kernel_rfl)
attribute [go_sem] f25_eq f25n0 f25r1_f25e0 f25z0_f25e1 f25n2 f25n3 f25r5_f25e2 f25z3_f25e3 f25x6_f25e7 f25n7 f25r9_f25e7 f25z7_f25e8 f25y10_f25e9 f25n8 f25z6_f25e7 f25z3_f25e4 f25z3_f25e5 f25z3_f25e6 f25z2_f25e2 f25n4 f25n11 f25r13_f25e2 f25z11_f25e10 f25x14_f25e11 f25n15 f25r17_f25e11 f25z15_f25e12 f25y18_f25e9 f25n16 f25z14_f25e11 f25z4_f25e2 f25n12 f25n19 f25r21_f25e2 f25z19_f25e13 f25x22_f25e14 f25n23 f25r25_f25e14 f25z23_f25e15 f25y26_f25e9 f25n24 f25z22_f25e14 f25z12_f25e2 f25n20 f25r27_f25e2 f25z20_f25e16 f25n28 f25n29 f25r31_f25e17 f25z29_f25e18 f25x32_f25e19 f25n33 f25r35_f25e19 f25z33_f25e20 f25y36_f25e9 f25n34 f25z32_f25e19 f25z28_f25e2 f25n30 f25r37_f25e2 f25z30_f25e21 f25n38 f25r39_f25e22 f25z38_f25e9 f25y40_f25e9 f25b_f25e9_r

noncomputable def f27rs : List ResultVar := [ResultVar.cell (6 : Nat) (57 : Nat), ResultVar.tmp (7 : Nat)]
noncomputable def f27c0 : Code := subCode [] (bodyOf Try.prog 27)
def f27a0 : Ann := subAnn [] ann27
noncomputable def f27c1 : Code := subCode [0] (bodyOf Try.prog 27)
def f27a1 : Ann := subAnn [0] ann27
noncomputable def f27c2 : Code := subCode [1] (bodyOf Try.prog 27)
def f27a2 : Ann := subAnn [1] ann27
noncomputable def f27c3 : Code := subCode [1, 0] (bodyOf Try.prog 27)
def f27a3 : Ann := subAnn [1, 0] ann27
noncomputable def f27c4 : Code := subCode [1, 1] (bodyOf Try.prog 27)
def f27a4 : Ann := subAnn [1, 1] ann27
noncomputable def f27c5 : Code := subCode [1, 0, 0] (bodyOf Try.prog 27)
def f27a5 : Ann := subAnn [1, 0, 0] ann27
noncomputable def f27c6 : Code := subCode [1, 0, 1] (bodyOf Try.prog 27)
def f27a6 : Ann := subAnn [1, 0, 1] ann27
noncomputable def f27c7 : Code := subCode [1, 0, 1, 0] (bodyOf Try.prog 27)
def f27a7 : Ann := subAnn [1, 0, 1, 0] ann27
noncomputable def f27c8 : Code := subCode [1, 0, 1, 0, 0] (bodyOf Try.prog 27)
def f27a8 : Ann := subAnn [1, 0, 1, 0, 0] ann27
noncomputable def f27c9 : Code := subCode [1, 0, 1, 0, 0, 0] (bodyOf Try.prog 27)
def f27a9 : Ann := subAnn [1, 0, 1, 0, 0, 0] ann27
noncomputable def f27c10 : Code := subCode [1, 0, 1, 0, 0, 1] (bodyOf Try.prog 27)
def f27a10 : Ann := subAnn [1, 0, 1, 0, 0, 1] ann27
noncomputable def f27c11 : Code := subCode [1, 0, 1, 0, 0, 1, 0] (bodyOf Try.prog 27)
def f27a11 : Ann := subAnn [1, 0, 1, 0, 0, 1, 0] ann27
noncomputable def f27c12 : Code := subCode [1, 0, 1, 0, 0, 1, 1] (bodyOf Try.prog 27)
def f27a12 : Ann := subAnn [1, 0, 1, 0, 0, 1, 1] ann27
noncomputable def f27c13 : Code := subCode [1, 0, 1, 0, 0, 1, 0, 0] (bodyOf Try.prog 27)
def f27a13 : Ann := subAnn [1, 0, 1, 0, 0, 1, 0, 0] ann27
noncomputable def f27c14 : Code := subCode [1, 0, 1, 0, 0, 1, 0, 1] (bodyOf Try.prog 27)
def f27a14 : Ann := subAnn [1, 0, 1, 0, 0, 1, 0, 1] ann27
noncomputable def f27c15 : Code := subCode [1, 0, 1, 0, 0, 1, 1, 0] (bodyOf Try.prog 27)
def f27a15 : Ann := subAnn [1, 0, 1, 0, 0, 1, 1, 0] ann27
noncomputable def f27c16 : Code := subCode [1, 0, 1, 0, 0, 1, 1, 1] (bodyOf Try.prog 27)
def f27a16 : Ann := subAnn [1, 0, 1, 0, 0, 1, 1, 1] ann27
noncomputable def f27c17 : Code := subCode [1, 0, 1, 0, 0, 1, 1, 0, 0] (bodyOf Try.prog 27)
def f27a17 : Ann := subAnn [1, 0, 1, 0, 0, 1, 1, 0, 0] ann27
noncomputable def f27c18 : Code := subCode [1, 0, 1, 0, 0, 1, 1, 0, 0, 0] (bodyOf Try.prog 27)
def f27a18 : Ann := subAnn [1, 0, 1, 0, 0, 1, 1, 0, 0, 0] ann27
noncomputable def f27c19 : Code := subCode [1, 0, 1, 0, 0, 1, 1, 0, 0, 1] (bodyOf Try.prog 27)
def f27a19 : Ann := subAnn [1, 0, 1, 0, 0, 1, 1, 0, 0, 1] ann27
noncomputable def f27c20 : Code := subCode [1, 0, 1, 0, 0, 1, 1, 0, 0, 1, 0] (bodyOf Try.prog 27)
def f27a20 : Ann := subAnn [1, 0, 1, 0, 0, 1, 1, 0, 0, 1, 0] ann27
noncomputable def f27c21 : Code := subCode [1, 0, 1, 0, 0, 1, 1, 0, 0, 1, 1] (bodyOf Try.prog 27)
def f27a21 : Ann := subAnn [1, 0, 1, 0, 0, 1, 1, 0, 0, 1, 1] ann27
noncomputable def f27c22 : Code := subCode [1, 0, 1, 0, 0, 1, 1, 0, 0, 1, 1, 0] (bodyOf Try.prog 27)
def f27a22 : Ann := subAnn [1, 0, 1, 0, 0, 1, 1, 0, 0, 1, 1, 0] ann27
noncomputable def f27c23 : Code := subCode [1, 0, 1, 0, 0, 1, 1, 0, 0, 1, 1, 1] (bodyOf Try.prog 27)
def f27a23 : Ann := subAnn [1, 0, 1, 0, 0, 1, 1, 0, 0, 1, 1, 1] ann27
noncomputable def f27c24 : Code := subCode [1, 0, 1, 0, 0, 1, 1, 0, 0, 1, 1, 0, 0] (bodyOf Try.prog 27)
def f27a24 : Ann := subAnn [1, 0, 1, 0, 0, 1, 1, 0, 0, 1, 1, 0, 0] ann27
noncomputable def f27c25 : Code := subCode [1, 0, 1, 0, 0, 1, 1, 0, 0, 1, 1, 0, 1] (bodyOf Try.prog 27)
def f27a25 : Ann := subAnn [1, 0, 1, 0, 0, 1, 1, 0, 0, 1, 1, 0, 1] ann27
noncomputable def f27c26 : Code := subCode [1, 1, 0] (bodyOf Try.prog 27)
def f27a26 : Ann := subAnn [1, 1, 0] ann27
noncomputable def f27c27 : Code := subCode [1, 1, 1] (bodyOf Try.prog 27)
def f27a27 : Ann := subAnn [1, 1, 1] ann27
noncomputable def f27L7 {R : Type} (call : CallF R) (N : Nat) : KF R → Env → St → Option R := fun K e σ => runK Try.prog call N f27c8 f27a8 K e σ
def f27e0 (y0 : Option (Nat × Nat)) (y1 : Int) (y2 : Int) : Env := AV.ptr y0 :: AV.int IntKind.i64 y1 :: AV.int IntKind.i64 y2 :: Env.sp 29 []
def f27e1 (y0 : Option (Nat × Nat)) (y1 : Int) (y2 : Int) (y3 : Nat) (y4 : Bool) : Env := AV.ptr y0 :: AV.int IntKind.i64 y1 :: AV.int IntKind.i64 y2 :: Env.sp 3 (AV.ptr (some (y3, (0 : Nat))) :: AV.bool y4 :: Env.sp 24 [])
def f27e2 (y0 : Option (Nat × Nat)) (y1 : Int) (y2 : Int) (y3 : Nat) : Env := AV.ptr y0 :: AV.int IntKind.i64 y1 :: AV.int IntKind.i64 y2 :: Env.sp 3 (AV.ptr (some (y3, (0 : Nat))) :: Env.sp 25 [])
def f27e3 (y0 : Option (Nat × Nat)) (y1 : Int) (y2 : Int) (y3 : Nat) (y4 : Option (Nat × Nat)) (y5 : Option (Nat × Nat)) (y6 : Option (Nat × Nat)) (y7 : Option (Nat × Nat)) (y8 : Nat) (y9 : Option Nat) (y10 : Int) (y11 : Int) : Env := AV.ptr y0 :: AV.int IntKind.i64 y1 :: AV.int IntKind.i64 y2 :: Env.sp 3 (AV.ptr (some (y3, (0 : Nat))) :: Env.sp 3 (AV.ptr y4 :: AV.ptr y5 :: AV.ptr y6 :: AV.slice y7 y8 y9 (4 : Nat) :: AV.int IntKind.i64 y10 :: AV.int IntKind.i64 y11 :: Env.sp 16 []))
def f27e4 (y0 : Int) (y1 : Int) (y2 : Nat) (y3 : Option (Nat × Nat)) (y4 : Nat) (y5 : Option Nat) (y6 : Int) (y7 : Int) : Env := Env.sp 1 (AV.int IntKind.i64 y0 :: AV.int IntKind.i64 y1 :: Env.sp 3 (AV.ptr (some (y2, (0 : Nat))) :: Env.sp 6 (AV.slice y3 y4 y5 (4 : Nat) :: AV.int IntKind.i64 y6 :: AV.int IntKind.i64 y7 :: Env.sp 16 [])))
def f27e5 (y0 : Int) (y1 : Int) (y2 : Nat) (y3 : Option (Nat × Nat)) (y4 : Nat) (y5 : Option Nat) (y6 : Int) (y7 : Int) (y8 : Bool) : Env := Env.sp 1 (AV.int IntKind.i64 y0 :: AV.int IntKind.i64 y1 :: Env.sp 3 (AV.ptr (some (y2, (0 : Nat))) :: Env.sp 6 (AV.slice y3 y4 y5 (4 : Nat) :: AV.int IntKind.i64 y6 :: AV.int IntKind.i64 y7 :: AV.bool y8 :: Env.sp 15 [])))
def f27e6 (y0 : Nat) : Env := Env.sp 6 (AV.ptr (some (y0, (0 : Nat))) :: Env.sp 25 [])
def f27e7 (y0 : Int) (y1 : Int) (y2 : Nat) (y3 : Nat) (y4 : Option (Nat × Nat)) (y5 : Nat) (y6 : Option Nat) (y7 : Int) (y8 : Int) (y9 : Option (Nat × Nat)) (y10 : Int) (y11 : Int) (y12 : ByteArray) (y13 : ByteArray) : Env := Env.sp 1 (AV.int IntKind.i64 y0 :: AV.int IntKind.i64 y1 :: Env.sp 3 (AV.ptr (some (y2, (0 : Nat))) :: Env.sp 2 (AV.ptr (some (y3, (0 : Nat))) :: Env.sp 3 (AV.slice y4 y5 y6 (4 : Nat) :: AV.int IntKind.i64 y7 :: AV.int IntKind.i64 y8 :: Env.sp 1 (AV.ptr y9 :: AV.agg [AV.int IntKind.i64 y10, AV.int IntKind.i64 y11, AV.str y12, AV.str y13] :: Env.sp 13 [])))))
def f27e8 (y0 : Int) (y1 : Int) (y2 : Nat) (y3 : Nat) (y4 : Option (Nat × Nat)) (y5 : Nat) (y6 : Option Nat) (y7 : Int) (y8 : Int) : Env := Env.sp 1 (AV.int IntKind.i64 y0 :: AV.int IntKind.i64 y1 :: Env.sp 3 (AV.ptr (some (y2, (0 : Nat))) :: Env.sp 2 (AV.ptr (some (y3, (0 : Nat))) :: Env.sp 3 (AV.slice y4 y5 y6 (4 : Nat) :: AV.int IntKind.i64 y7 :: AV.int IntKind.i64 y8 :: Env.sp 16 []))))
def f27e9 (y0 : Int) (y1 : Int) (y2 : Nat) (y3 : Nat) (y4 : Option (Nat × Nat)) (y5 : Nat) (y6 : Option Nat) (y7 : Int) (y8 : Int) (y9 : Nat) (y10 : Int) (y11 : Int) (y12 : Bool) (y13 : Bool) (y14 : Nat) (y15 : Int) (y16 : Int) (y17 : Bool) (y18 : Bool) : Env := Env.sp 1 (AV.int IntKind.i64 y0 :: AV.int IntKind.i64 y1 :: Env.sp 3 (AV.ptr (some (y2, (0 : Nat))) :: Env.sp 2 (AV.ptr (some (y3, (0 : Nat))) :: Env.sp 3 (AV.slice y4 y5 y6 (4 : Nat) :: AV.int IntKind.i64 y7 :: AV.int IntKind.i64 y8 :: Env.sp 3 (AV.ptr (some (y9, (0 : Nat))) :: AV.int IntKind.i64 y10 :: AV.int IntKind.i64 y11 :: AV.bool y12 :: AV.bool y13 :: AV.ptr (some (y14, (1 : Nat))) :: AV.int IntKind.i64 y15 :: AV.int IntKind.i64 y16 :: AV.bool y17 :: AV.bool y18 :: Env.sp 3 [])))))
def f27e10 (y0 : Int) (y1 : Int) (y2 : Nat) (y3 : Nat) (y4 : Option (Nat × Nat)) (y5 : Nat) (y6 : Option Nat) (y7 : Int) (y8 : Int) (y9 : Nat) (y10 : Int) (y11 : Int) (y12 : Bool) (y13 : Bool) (y14 : Bool) : Env := Env.sp 1 (AV.int IntKind.i64 y0 :: AV.int IntKind.i64 y1 :: Env.sp 3 (AV.ptr (some (y2, (0 : Nat))) :: Env.sp 2 (AV.ptr (some (y3, (0 : Nat))) :: Env.sp 3 (AV.slice y4 y5 y6 (4 : Nat) :: AV.int IntKind.i64 y7 :: AV.int IntKind.i64 y8 :: Env.sp 3 (AV.ptr (some (y9, (0 : Nat))) :: AV.int IntKind.i64 y10 :: AV.int IntKind.i64 y11 :: AV.bool y12 :: AV.bool y13 :: AV.tuple [] :: AV.tuple [] :: AV.tuple [] :: AV.tuple [] :: AV.bool y14 :: Env.sp 3 [])))))
def f27e11 (y0 : Int) (y1 : Int) (y2 : Nat) (y3 : Nat) (y4 : Option (Nat × Nat)) (y5 : Nat) (y6 : Option Nat) (y7 : Int) (y8 : Int) (y9 : Bool) : Env := Env.sp 1 (AV.int IntKind.i64 y0 :: AV.int IntKind.i64 y1 :: Env.sp 3 (AV.ptr (some (y2, (0 : Nat))) :: Env.sp 2 (AV.ptr (some (y3, (0 : Nat))) :: Env.sp 3 (AV.slice y4 y5 y6 (4 : Nat) :: AV.int IntKind.i64 y7 :: AV.int IntKind.i64 y8 :: Env.sp 12 (AV.bool y9 :: Env.sp 3 [])))))
def f27e12 (y0 : Int) (y1 : Int) (y2 : Nat) (y3 : Bool) (y4 : Nat) (y5 : Option (Nat × Nat)) (y6 : Nat) (y7 : Option Nat) (y8 : Int) (y9 : Int) (y10 : Bool) (y11 : Int) (y12 : Int) (y13 : ByteArray) (y14 : ByteArray) : Env := Env.sp 1 (AV.int IntKind.i64 y0 :: AV.int IntKind.i64 y1 :: Env.sp 3 (AV.ptr (some (y2, (0 : Nat))) :: AV.bool y3 :: Env.sp 1 (AV.ptr (some (y4, (0 : Nat))) :: Env.sp 3 (AV.slice y5 y6 y7 (4 : Nat) :: AV.int IntKind.i64 y8 :: AV.int IntKind.i64 y9 :: Env.sp 12 (AV.bool y10 :: AV.agg [AV.int IntKind.i64 y11, AV.int IntKind.i64 y12, AV.str y13, AV.str y14] :: Env.sp 2 [])))))
def f27e13 (y0 : Nat) (y1 : Bool) : Env := Env.sp 6 (AV.ptr (some (y0, (0 : Nat))) :: AV.bool y1 :: Env.sp 24 [])
def f27e14 (y0 : Int) (y1 : Int) (y2 : Nat) (y3 : Option (Nat × Nat)) (y4 : Nat) (y5 : Option Nat) (y6 : Int) (y7 : Int) (y8 : Int) : Env := Env.sp 1 (AV.int IntKind.i64 y0 :: AV.int IntKind.i64 y1 :: Env.sp 3 (AV.ptr (some (y2, (0 : Nat))) :: Env.sp 6 (AV.slice y3 y4 y5 (4 : Nat) :: AV.int IntKind.i64 y6 :: AV.int IntKind.i64 y7 :: Env.sp 14 (AV.int IntKind.i64 y8 :: Env.sp 1 []))))
def f27e15 (y0 : Nat) (y1 : Bool) (y2 : Int) (y3 : Int) (y4 : ByteArray) (y5 : ByteArray) : Env := Env.sp 6 (AV.ptr (some (y0, (0 : Nat))) :: AV.bool y1 :: Env.sp 23 (AV.agg [AV.int IntKind.i64 y2, AV.int IntKind.i64 y3, AV.str y4, AV.str y5] :: []))

/- function 27 -/
theorem f27_eq {R : Type} (call : CallF R) (N : Nat) (y0 : Option (Nat × Nat)) (y1 : Int) (y2 : Int) (σ : St) (K : AV → St → Option R) :
    bodyK Try.prog call N ann 27 [AV.ptr y0, AV.int IntKind.i64 y1, AV.int IntKind.i64 y2] σ K = runK Try.prog call N f27c0 f27a0 (bodyC Try.prog f27rs K) (f27e0 y0 y1 y2) σ := bodyK_of (fn := ((Try.prog.funcs[27]?).get rfl)) (by kernel_rfl) (by kernel_rfl) (by kernel_rfl) (by kernel_rfl) (by kernel_rfl) (by kernel_rfl)
theorem f27n0 {R : Type} (call : CallF R) (N : Nat) (J : KF R) (e : Env) (σ : St) : runK Try.prog call N f27c0 f27a0 J e σ = runK Try.prog call N f27c1 f27a1 (seqC (fun K e σ => runK Try.prog call N f27c2 f27a2 K e σ) f27a0 J) e σ := runK_seq' (by kernel_rfl) (by kernel_rfl) (by kernel_rfl)
theorem f27r1_f27e0 {R : Type} (call : CallF R) (N : Nat) (y0 : Option (Nat × Nat)) (y1 : Int) (y2 : Int) (J : KF R) (σ : St) :
    runK Try.prog call N f27c1 f27a1 J (f27e0 y0 y1 y2) σ =
J Ex.normal (f27e1 y0 y1 y2 (St.next σ) false)
  (St.new σ (Blk.cells [AV.int IntKind.i64 (0 : Int), AV.int IntKind.i64 (0 : Int), AV.str (ByteArray.mk #[]), AV.str (ByteArray.mk #[])] true)) := hide (by kernel_rfl)
theorem f27z0_f27e1 (y0 : Option (Nat × Nat)) (y1 : Int) (y2 : Int) (y3 : Nat) (y4 : Bool) : Ann.clr f27a0 (f27e1 y0 y1 y2 y3 y4) = f27e2 y0 y1 y2 y3 := hide (by kernel_rfl)
theorem f27n2 {R : Type} (call : CallF R) (N : Nat) (J : KF R) (e : Env) (σ : St) : runK Try.prog call N f27c2 f27a2 J e σ = runK Try.prog call N f27c3 f27a3 (seqC (fun K e σ => runK Try.prog call N f27c4 f27a4 K e σ) f27a2 J) e σ := runK_seq' (by kernel_rfl) (by kernel_rfl) (by kernel_rfl)
theorem f27n3 {R : Type} (call : CallF R) (N : Nat) (J : KF R) (e : Env) (σ : St) : runK Try.prog call N f27c3 f27a3 J e σ = runK Try.prog call N f27c5 f27a5 (seqC (fun K e σ => runK Try.prog call N f27c6 f27a6 K e σ) f27a3 J) e σ := runK_seq' (by kernel_rfl) (by kernel_rfl) (by kernel_rfl)
theorem f27r5_f27e2 {R : Type} (call : CallF R) (N : Nat) (y0 : Option (Nat × Nat)) (y1 : Int) (y2 : Int) (y3 : Nat) (J : KF R) (σ : St) :
    runK Try.prog call N f27c5 f27a5 J (f27e2 y0 y1 y2 y3) σ =
Option.bind y0 fun v0 =>
  Option.bind (St.ld σ (Prod.fst v0) (Prod.snd v0 + (3 : Nat))) fun v1 =>
    Option.bind (AV.toSl (4 : Nat) v1) fun v2 =>
      J Ex.normal
        (f27e3 y0 y1 y2 y3 y0 (some v0) (some (Prod.fst v0, Prod.snd v0 + (3 : Nat))) (Sl.o v2) (Sl.len v2) (Sl.cap v2) (↑(Sl.len v2) : Int)
          (0 : Int))
        σ := hide (by kernel_rfl)
theorem f27z3_f27e3 (y0 : Option (Nat × Nat)) (y1 : Int) (y2 : Int) (y3 : Nat) (y4 : Option (Nat × Nat)) (y5 : Option (Nat × Nat)) (y6 : Option (Nat × Nat)) (y7 : Option (Nat × Nat)) (y8 : Nat) (y9 : Option Nat) (y10 : Int) (y11 : Int) : Ann.clr f27a3 (f27e3 y0 y1 y2 y3 y4 y5 y6 y7 y8 y9 y10 y11) = f27e4 y1 y2 y3 y7 y8 y9 y10 y11 := hide (by kernel_rfl)
theorem f27n6 {R : Type} (call : CallF R) (N : Nat) (J : KF R) (e : Env) (σ : St) : runK Try.prog call N f27c6 f27a6 J e σ = runK Try.prog call N f27c7 f27a7 (blockC 0 f27a6 J) e σ := runK_block' (by kernel_rfl) (by kernel_rfl)
theorem f27L7_eq {R : Type} (call : CallF R) (N : Nat) (J : KF R) (e : Env) (σ : St) : f27L7 call N J e σ = runK Try.prog call N f27c8 f27a8 J e σ := hide rfl
theorem f27z7_f27e4 (y0 : Int) (y1 : Int) (y2 : Nat) (y3 : Option (Nat × Nat)) (y4 : Nat) (y5 : Option Nat) (y6 : Int) (y7 : Int) : Ann.clr f27a7 (f27e4 y0 y1 y2 y3 y4 y5 y6 y7) = f27e4 y0 y1 y2 y3 y4 y5 y6 y7 := hide (by kernel_rfl)
theorem f27l7_f27e4 {R : Type} (call : CallF R) (N : Nat) (y0 : Int) (y1 : Int) (y2 : Nat) (y3 : Option (Nat × Nat)) (y4 : Nat) (y5 : Option Nat) (y6 : Int) (y7 : Int) (J : KF R) (σ : St) : runK Try.prog call N f27c7 f27a7 J (f27e4 y0 y1 y2 y3 y4 y5 y6 y7) σ = loopK (f27L7 call N) f27a7 N J (f27e4 y0 y1 y2 y3 y4 y5 y6 y7) σ := runK_loop' (by kernel_rfl) (by kernel_rfl) (by kernel_rfl)
theorem f27n8 {R : Type} (call : CallF R) (N : Nat) (J : KF R) (e : Env) (σ : St) : runK Try.prog call N f27c8 f27a8 J e σ = runK Try.prog call N f27c9 f27a9 (seqC (fun K e σ => runK Try.prog call N f27c10 f27a10 K e σ) f27a8 J) e σ := runK_seq' (by kernel_rfl) (by kernel_rfl) (by kernel_rfl)
theorem f27r9_f27e4 {R : Type} (call : CallF R) (N : Nat) (y0 : Int) (y1 : Int) (y2 : Nat) (y3 : Option (Nat × Nat)) (y4 : Nat) (y5 : Option Nat) (y6 : Int) (y7 : Int) (J : KF R) (σ : St) :
    runK Try.prog call N f27c9 f27a9 J (f27e4 y0 y1 y2 y3 y4 y5 y6 y7) σ =
J Ex.normal (f27e5 y0 y1 y2 y3 y4 y5 y6 y7 (decide (y7 < y6))) σ := hide (by kernel_rfl)
theorem f27z8_f27e5 (y0 : Int) (y1 : Int) (y2 : Nat) (y3 : Option (Nat × Nat)) (y4 : Nat) (y5 : Option Nat) (y6 : Int) (y7 : Int) (y8 : Bool) : Ann.clr f27a8 (f27e5 y0 y1 y2 y3 y4 y5 y6 y7 y8) = f27e5 y0 y1 y2 y3 y4 y5 y6 y7 y8 := hide (by kernel_rfl)
theorem f27n10 {R : Type} (call : CallF R) (N : Nat) (J : KF R) (e : Env) (σ : St) : runK Try.prog call N f27c10 f27a10 J e σ = runK Try.prog call N f27c11 f27a11 (seqC (fun K e σ => runK Try.prog call N f27c12 f27a12 K e σ) f27a10 J) e σ := runK_seq' (by kernel_rfl) (by kernel_rfl) (by kernel_rfl)
theorem f27x11_f27e5 {R : Type} (call : CallF R) (N : Nat) (y0 : Int) (y1 : Int) (y2 : Nat) (y3 : Option (Nat × Nat)) (y4 : Nat) (y5 : Option Nat) (y6 : Int) (y7 : Int) (y8 : Bool) (J : KF R) (σ : St) : runK Try.prog call N f27c11 f27a11 J (f27e5 y0 y1 y2 y3 y4 y5 y6 y7 y8) σ = if y8 = true then runK Try.prog call N f27c13 f27a13 (condC f27a11 J) (f27e5 y0 y1 y2 y3 y4 y5 y6 y7 y8) σ else runK Try.prog call N f27c14 f27a14 (condC f27a11 J) (f27e5 y0 y1 y2 y3 y4 y5 y6 y7 y8) σ := runK_cond' (o := Operand.tmp (16 : Nat)) (by kernel_rfl) (by kernel_rfl) (by kernel_rfl) (by kernel_rfl)
theorem f27n13 {R : Type} (call : CallF R) (N : Nat) (J : KF R) (e : Env) (σ : St) : runK Try.prog call N f27c13 f27a13 J e σ = J .normal e σ := runK_skip' (by kernel_rfl)
theorem f27z11_f27e5 (y0 : Int) (y1 : Int) (y2 : Nat) (y3 : Option (Nat × Nat)) (y4 : Nat) (y5 : Option Nat) (y6 : Int) (y7 : Int) (y8 : Bool) : Ann.clr f27a11 (f27e5 y0 y1 y2 y3 y4 y5 y6 y7 y8) = f27e4 y0 y1 y2 y3 y4 y5 y6 y7 := hide (by kernel_rfl)
theorem f27y14_f27e5 {R : Type} (call : CallF R) (N : Nat) (y0 : Int) (y1 : Int) (y2 : Nat) (y3 : Option (Nat × Nat)) (y4 : Nat) (y5 : Option Nat) (y6 : Int) (y7 : Int) (y8 : Bool) (J : KF R) (σ : St) : runK Try.prog call N f27c14 f27a14 J (f27e5 y0 y1 y2 y3 y4 y5 y6 y7 y8) σ = J (.exit 0) (f27e6 y2) σ := runK_exit' (by kernel_rfl) (by kernel_rfl)
theorem f27z10_f27e4 (y0 : Int) (y1 : Int) (y2 : Nat) (y3 : Option (Nat × Nat)) (y4 : Nat) (y5 : Option Nat) (y6 : Int) (y7 : Int) : Ann.clr f27a10 (f27e4 y0 y1 y2 y3 y4 y5 y6 y7) = f27e4 y0 y1 y2 y3 y4 y5 y6 y7 := hide (by kernel_rfl)
theorem f27n12 {R : Type} (call : CallF R) (N : Nat) (J : KF R) (e : Env) (σ : St) : runK Try.prog call N f27c12 f27a12 J e σ = runK Try.prog call N f27c15 f27a15 (seqC (fun K e σ => runK Try.prog call N f27c16 f27a16 K e σ) f27a12 J) e σ := runK_seq' (by kernel_rfl) (by kernel_rfl) (by kernel_rfl)
theorem f27n15 {R : Type} (call : CallF R) (N : Nat) (J : KF R) (e : Env) (σ : St) : runK Try.prog call N f27c15 f27a15 J e σ = runK Try.prog call N f27c17 f27a17 (blockC 1 f27a15 J) e σ := runK_block' (by kernel_rfl) (by kernel_rfl)
theorem f27n17 {R : Type} (call : CallF R) (N : Nat) (J : KF R) (e : Env) (σ : St) : runK Try.prog call N f27c17 f27a17 J e σ = runK Try.prog call N f27c18 f27a18 (seqC (fun K e σ => runK Try.prog call N f27c19 f27a19 K e σ) f27a17 J) e σ := runK_seq' (by kernel_rfl) (by kernel_rfl) (by kernel_rfl)
theorem f27r18_f27e4 {R : Type} (call : CallF R) (N : Nat) (y0 : Int) (y1 : Int) (y2 : Nat) (y3 : Option (Nat × Nat)) (y4 : Nat) (y5 : Option Nat) (y6 : Int) (y7 : Int) (J : KF R) (σ : St) :
    runK Try.prog call N f27c18 f27a18 J (f27e4 y0 y1 y2 y3 y4 y5 y6 y7) σ =
if (0 : Int) ≤ y7 ∧ y7 < (↑y4 : Int) then
  Option.bind y3 fun v0 =>
    Option.bind (St.ld σ (Prod.fst v0) (Prod.snd v0 + Int.toNat y7 * (4 : Nat))) fun v1 =>
      Option.bind (AV.toInt IntKind.i64 v1) fun v2 =>
        Option.bind (St.ld σ (Prod.fst v0) (Prod.snd v0 + Int.toNat y7 * (4 : Nat) + (1 : Nat))) fun v3 =>
          Option.bind (AV.toInt IntKind.i64 v3) fun v4 =>
            Option.bind (St.ld σ (Prod.fst v0) (Prod.snd v0 + Int.toNat y7 * (4 : Nat) + (2 : Nat))) fun v5 =>
              Option.bind (AV.toStr v5) fun v6 =>
                Option.bind (St.ld σ (Prod.fst v0) (Prod.snd v0 + Int.toNat y7 * (4 : Nat) + (3 : Nat))) fun v7 =>
                  Option.bind (AV.toStr v7) fun v8 =>
                    Option.bind
                      (St.st
                        (St.new σ
                          (Blk.cells
                            [AV.int IntKind.i64 (0 : Int), AV.int IntKind.i64 (0 : Int), AV.str (ByteArray.mk #[]), AV.str (ByteArray.mk #[])] true))
                        (St.next σ) (0 : Nat) [AV.int IntKind.i64 v2, AV.int IntKind.i64 v4, AV.str v6, AV.str v8])
                      fun v9 =>
                      J Ex.normal (f27e7 y0 y1 y2 (St.next σ) y3 y4 y5 y6 y7 (some (Prod.fst v0, Prod.snd v0 + Int.toNat y7 * (4 : Nat))) v2 v4 v6 v8)
                        v9
else none := hide (by kernel_rfl)
theorem f27z17_f27e7 (y0 : Int) (y1 : Int) (y2 : Nat) (y3 : Nat) (y4 : Option (Nat × Nat)) (y5 : Nat) (y6 : Option Nat) (y7 : Int) (y8 : Int) (y9 : Option (Nat × Nat)) (y10 : Int) (y11 : Int) (y12 : ByteArray) (y13 : ByteArray) : Ann.clr f27a17 (f27e7 y0 y1 y2 y3 y4 y5 y6 y7 y8 y9 y10 y11 y12 y13) = f27e8 y0 y1 y2 y3 y4 y5 y6 y7 y8 := hide (by kernel_rfl)
theorem f27n19 {R : Type} (call : CallF R) (N : Nat) (J : KF R) (e : Env) (σ : St) : runK Try.prog call N f27c19 f27a19 J e σ = runK Try.prog call N f27c20 f27a20 (seqC (fun K e σ => runK Try.prog call N f27c21 f27a21 K e σ) f27a19 J) e σ := runK_seq' (by kernel_rfl) (by kernel_rfl) (by kernel_rfl)
theorem f27r20_f27e8 {R : Type} (call : CallF R) (N : Nat) (y0 : Int) (y1 : Int) (y2 : Nat) (y3 : Nat) (y4 : Option (Nat × Nat)) (y5 : Nat) (y6 : Option Nat) (y7 : Int) (y8 : Int) (J : KF R) (σ : St) :
    runK Try.prog call N f27c20 f27a20 J (f27e8 y0 y1 y2 y3 y4 y5 y6 y7 y8) σ =
Option.bind (St.ld σ y3 (0 : Nat)) fun v0 =>
  Option.bind (AV.toInt IntKind.i64 v0) fun v1 =>
    if (v1 == y0) = true then
      Option.bind (St.ld σ y3 (1 : Nat)) fun v2 =>
        Option.bind (AV.toInt IntKind.i64 v2) fun v3 =>
          J Ex.normal (f27e9 y0 y1 y2 y3 y4 y5 y6 y7 y8 y3 v1 y0 (v1 == y0) true y3 v3 y1 (v3 == y1) (v3 == y1)) σ
    else J Ex.normal (f27e10 y0 y1 y2 y3 y4 y5 y6 y7 y8 y3 v1 y0 (v1 == y0) false false) σ := hide (by kernel_rfl)
theorem f27z19_f27e9 (y0 : Int) (y1 : Int) (y2 : Nat) (y3 : Nat) (y4 : Option (Nat × Nat)) (y5 : Nat) (y6 : Option Nat) (y7 : Int) (y8 : Int) (y9 : Nat) (y10 : Int) (y11 : Int) (y12 : Bool) (y13 : Bool) (y14 : Nat) (y15 : Int) (y16 : Int) (y17 : Bool) (y18 : Bool) : Ann.clr f27a19 (f27e9 y0 y1 y2 y3 y4 y5 y6 y7 y8 y9 y10 y11 y12 y13 y14 y15 y16 y17 y18) = f27e11 y0 y1 y2 y3 y4 y5 y6 y7 y8 y18 := hide (by kernel_rfl)
theorem f27x21_f27e11 {R : Type} (call : CallF R) (N : Nat) (y0 : Int) (y1 : Int) (y2 : Nat) (y3 : Nat) (y4 : Option (Nat × Nat)) (y5 : Nat) (y6 : Option Nat) (y7 : Int) (y8 : Int) (y9 : Bool) (J : KF R) (σ : St) : runK Try.prog call N f27c21 f27a21 J (f27e11 y0 y1 y2 y3 y4 y5 y6 y7 y8 y9) σ = if y9 = true then runK Try.prog call N f27c22 f27a22 (condC f27a21 J) (f27e11 y0 y1 y2 y3 y4 y5 y6 y7 y8 y9) σ else runK Try.prog call N f27c23 f27a23 (condC f27a21 J) (f27e11 y0 y1 y2 y3 y4 y5 y6 y7 y8 y9) σ := runK_cond' (o := Operand.tmp (28 : Nat)) (by kernel_rfl) (by kernel_rfl) (by kernel_rfl) (by kernel_rfl)
theorem f27n22 {R : Type} (call : CallF R) (N : Nat) (J : KF R) (e : Env) (σ : St) : runK Try.prog call N f27c22 f27a22 J e σ = runK Try.prog call N f27c24 f27a24 (seqC (fun K e σ => runK Try.prog call N f27c25 f27a25 K e σ) f27a22 J) e σ := runK_seq' (by kernel_rfl) (by kernel_rfl) (by kernel_rfl)
theorem f27r24_f27e11 {R : Type} (call : CallF R) (N : Nat) (y0 : Int) (y1 : Int) (y2 : Nat) (y3 : Nat) (y4 : Option (Nat × Nat)) (y5 : Nat) (y6 : Option Nat) (y7 : Int) (y8 : Int) (y9 : Bool) (J : KF R) (σ : St) :
    runK Try.prog call N f27c24 f27a24 J (f27e11 y0 y1 y2 y3 y4 y5 y6 y7 y8 y9) σ =
Option.bind (St.ld σ y3 (0 : Nat)) fun v0 =>
  Option.bind (AV.toInt IntKind.i64 v0) fun v1 =>
    Option.bind (St.ld σ y3 (1 : Nat)) fun v2 =>
      Option.bind (AV.toInt IntKind.i64 v2) fun v3 =>
        Option.bind (St.ld σ y3 (2 : Nat)) fun v4 =>
          Option.bind (AV.toStr v4) fun v5 =>
            Option.bind (St.ld σ y3 (3 : Nat)) fun v6 =>
              Option.bind (AV.toStr v6) fun v7 =>
                Option.bind (St.st σ y2 (0 : Nat) [AV.int IntKind.i64 v1, AV.int IntKind.i64 v3, AV.str v5, AV.str v7]) fun v8 =>
                  J Ex.normal (f27e12 y0 y1 y2 true y3 y4 y5 y6 y7 y8 y9 v1 v3 v5 v7) v8 := hide (by kernel_rfl)
theorem f27z22_f27e12 (y0 : Int) (y1 : Int) (y2 : Nat) (y3 : Bool) (y4 : Nat) (y5 : Option (Nat × Nat)) (y6 : Nat) (y7 : Option Nat) (y8 : Int) (y9 : Int) (y10 : Bool) (y11 : Int) (y12 : Int) (y13 : ByteArray) (y14 : ByteArray) : Ann.clr f27a22 (f27e12 y0 y1 y2 y3 y4 y5 y6 y7 y8 y9 y10 y11 y12 y13 y14) = f27e13 y2 y3 := hide (by kernel_rfl)
theorem f27y25_f27e13 {R : Type} (call : CallF R) (N : Nat) (y0 : Nat) (y1 : Bool) (J : KF R) (σ : St) : runK Try.prog call N f27c25 f27a25 J (f27e13 y0 y1) σ = J .ret (f27e13 y0 y1) σ := runK_ret' (by kernel_rfl) (by kernel_rfl)
theorem f27n23 {R : Type} (call : CallF R) (N : Nat) (J : KF R) (e : Env) (σ : St) : runK Try.prog call N f27c23 f27a23 J e σ = J .normal e σ := runK_skip' (by kernel_rfl)
theorem f27z21_f27e11 (y0 : Int) (y1 : Int) (y2 : Nat) (y3 : Nat) (y4 : Option (Nat × Nat)) (y5 : Nat) (y6 : Option Nat) (y7 : Int) (y8 : Int) (y9 : Bool) : Ann.clr f27a21 (f27e11 y0 y1 y2 y3 y4 y5 y6 y7 y8 y9) = f27e4 y0 y1 y2 y4 y5 y6 y7 y8 := hide (by kernel_rfl)
theorem f27z19_f27e10 (y0 : Int) (y1 : Int) (y2 : Nat) (y3 : Nat) (y4 : Option (Nat × Nat)) (y5 : Nat) (y6 : Option Nat) (y7 : Int) (y8 : Int) (y9 : Nat) (y10 : Int) (y11 : Int) (y12 : Bool) (y13 : Bool) (y14 : Bool) : Ann.clr f27a19 (f27e10 y0 y1 y2 y3 y4 y5 y6 y7 y8 y9 y10 y11 y12 y13 y14) = f27e11 y0 y1 y2 y3 y4 y5 y6 y7 y8 y14 := hide (by kernel_rfl)
theorem f27z15_f27e4 (y0 : Int) (y1 : Int) (y2 : Nat) (y3 : Option (Nat × Nat)) (y4 : Nat) (y5 : Option Nat) (y6 : Int) (y7 : Int) : Ann.clr f27a15 (f27e4 y0 y1 y2 y3 y4 y5 y6 y7) = f27e4 y0 y1 y2 y3 y4 y5 y6 y7 := hide (by kernel_rfl)
theorem f27z12_f27e4 (y0 : Int) (y1 : Int) (y2 : Nat) (y3 : Option (Nat × Nat)) (y4 : Nat) (y5 : Option Nat) (y6 : Int) (y7 : Int) : Ann.clr f27a12 (f27e4 y0 y1 y2 y3 y4 y5 y6 y7) = f27e4 y0 y1 y2 y3 y4 y5 y6 y7 := hide (by kernel_rfl)
theorem f27r16_f27e4 {R : Type} (call : CallF R) (N : Nat) (y0 : Int) (y1 : Int) (y2 : Nat) (y3 : Option (Nat × Nat)) (y4 : Nat) (y5 : Option Nat) (y6 : Int) (y7 : Int) (J : KF R) (σ : St) :
    runK Try.prog call N f27c16 f27a16 J (f27e4 y0 y1 y2 y3 y4 y5 y6 y7) σ =
J Ex.normal (f27e14 y0 y1 y2 y3 y4 y5 y6 (IntKind.wrap IntKind.i64 (y7 + (1 : Int))) (IntKind.wrap IntKind.i64 (y7 + (1 : Int)))) σ := hide (by kernel_rfl)
theorem f27z7_f27e14 (y0 : Int) (y1 : Int) (y2 : Nat) (y3 : Option (Nat × Nat)) (y4 : Nat) (y5 : Option Nat) (y6 : Int) (y7 : Int) (y8 : Int) : Ann.clr f27a7 (f27e14 y0 y1 y2 y3 y4 y5 y6 y7 y8) = f27e4 y0 y1 y2 y3 y4 y5 y6 y7 := hide (by kernel_rfl)
theorem f27z6_f27e6 (y0 : Nat) : Ann.clr f27a6 (f27e6 y0) = f27e6 y0 := hide (by kernel_rfl)
theorem f27z2_f27e6 (y0 : Nat) : Ann.clr f27a2 (f27e6 y0) = f27e6 y0 := hide (by kernel_rfl)
theorem f27n4 {R : Type} (call : CallF R) (N : Nat) (J : KF R) (e : Env) (σ : St) : runK Try.prog call N f27c4 f27a4 J e σ = runK Try.prog call N f27c26 f27a26 (seqC (fun K e σ => runK Try.prog call N f27c27 f27a27 K e σ) f27a4 J) e σ := runK_seq' (by kernel_rfl) (by kernel_rfl) (by kernel_rfl)
theorem f27r26_f27e6 {R : Type} (call : CallF R) (N : Nat) (y0 : Nat) (J : KF R) (σ : St) :
    runK Try.prog call N f27c26 f27a26 J (f27e6 y0) σ =
Option.bind (St.st σ y0 (0 : Nat) [AV.int IntKind.i64 (0 : Int), AV.int IntKind.i64 (0 : Int), AV.str (ByteArray.mk #[]), AV.str (ByteArray.mk #[])])
  fun v0 => J Ex.normal (f27e15 y0 false (0 : Int) (0 : Int) (ByteArray.mk #[]) (ByteArray.mk #[])) v0 := hide (by kernel_rfl)
theorem f27z4_f27e15 (y0 : Nat) (y1 : Bool) (y2 : Int) (y3 : Int) (y4 : ByteArray) (y5 : ByteArray) : Ann.clr f27a4 (f27e15 y0 y1 y2 y3 y4 y5) = f27e13 y0 y1 := hide (by kernel_rfl)
theorem f27y27_f27e13 {R : Type} (call : CallF R) (N : Nat) (y0 : Nat) (y1 : Bool) (J : KF R) (σ : St) : runK Try.prog call N f27c27 f27a27 J (f27e13 y0 y1) σ = J .ret (f27e13 y0 y1) σ := runK_ret' (by kernel_rfl) (by kernel_rfl)
theorem f27b_f27e13_r {R : Type} (y0 : Nat) (y1 : Bool) (σ : St) (K : AV → St → Option R) : bodyC Try.prog f27rs K (Ex.ret) (f27e13 y0 y1) σ =
Option.bind (St.ld σ y0 (0 : Nat)) fun v0 =>
  Option.bind (AV.toInt IntKind.i64 v0) fun v1 =>
    Option.bind (St.ld σ y0 (1 : Nat)) fun v2 =>
      Option.bind (AV.toInt IntKind.i64 v2) fun v3 =>
        Option.bind (St.ld σ y0 (2 : Nat)) fun v4 =>
          Option.bind (AV.toStr v4) fun v5 =>
            Option.bind (St.ld σ y0 (3 : Nat)) fun v6 =>
              Option.bind (AV.toStr v6) fun v7 =>
                K (AV.tuple [AV.agg [AV.int IntKind.i64 v1, AV.int IntKind.i64 v3, AV.str v5, AV.str v7], AV.bool y1]) σ := hide (by kernel_rfl)
attribute [go_sem] f27_eq f27n0 f27r1_f27e0 f27z0_f27e1 f27n2 f27n3 f27r5_f27e2 f27z3_f27e3 f27n6 f27L7_eq f27z7_f27e4 f27l7_f27e4 f27n8 f27r9_f27e4 f27z8_f27e5 f27n10 f27x11_f27e5 f27n13 f27z11_f27e5 f27y14_f27e5 f27z10_f27e4 f27n12 f27n15 f27n17 f27r18_f27e4 f27z17_f27e7 f27n19 f27r20_f27e8 f27z19_f27e9 f27x21_f27e11 f27n22 f27r24_f27e11 f27z22_f27e12 f27y25_f27e13 f27n23 f27z21_f27e11 f27z19_f27e10 f27z15_f27e4 f27z12_f27e4 f27r16_f27e4 f27z7_f27e14 f27z6_f27e6 f27z2_f27e6 f27n4 f27r26_f27e6 f27z4_f27e15 f27y27_f27e13 f27b_f27e13_r

noncomputable def f28rs : List ResultVar := [ResultVar.cell (4 : Nat) (67 : Nat), ResultVar.tmp (5 : Nat)]
noncomputable def f28c0 : Code := subCode [] (bodyOf Try.prog 28)
def f28a0 : Ann := subAnn [] ann28
noncomputable def f28c1 : Code := subCode [0] (bodyOf Try.prog 28)
def f28a1 : Ann := subAnn [0] ann28
noncomputable def f28c2 : Code := subCode [1] (bodyOf Try.prog 28)
def f28a2 : Ann := subAnn [1] ann28
noncomputable def f28c3 : Code := subCode [1, 0] (bodyOf Try.prog 28)
def f28a3 : Ann := subAnn [1, 0] ann28
noncomputable def f28c4 : Code := subCode [1, 1] (bodyOf Try.prog 28)
def f28a4 : Ann := subAnn [1, 1] ann28
noncomputable def f28c5 : Code := subCode [1, 0, 0] (bodyOf Try.prog 28)
def f28a5 : Ann := subAnn [1, 0, 0] ann28
noncomputable def f28c6 : Code := subCode [1, 0, 1] (bodyOf Try.prog 28)
def f28a6 : Ann := subAnn [1, 0, 1] ann28
noncomputable def f28c7 : Code := subCode [1, 0, 1, 0] (bodyOf Try.prog 28)
def f28a7 : Ann := subAnn [1, 0, 1, 0] ann28
noncomputable def f28c8 : Code := subCode [1, 0, 1, 0, 0] (bodyOf Try.prog 28)
def f28a8 : Ann := subAnn [1, 0, 1, 0, 0] ann28
noncomputable def f28c9 : Code := subCode [1, 0, 1, 0, 0, 0] (bodyOf Try.prog 28)
def f28a9 : Ann := subAnn [1, 0, 1, 0, 0, 0] ann28
noncomputable def f28c10 : Code := subCode [1, 0, 1, 0, 0, 1] (bodyOf Try.prog 28)
def f28a10 : Ann := subAnn [1, 0, 1, 0, 0, 1] ann28
noncomputable def f28c11 : Code := subCode [1, 0, 1, 0, 0, 1, 0] (bodyOf Try.prog 28)
def f28a11 : Ann := subAnn [1, 0, 1, 0, 0, 1, 0] ann28
noncomputable def f28c12 : Code := subCode [1, 0, 1, 0, 0, 1, 1] (bodyOf Try.prog 28)
def f28a12 : Ann := subAnn [1, 0, 1, 0, 0, 1, 1] ann28
noncomputable def f28c13 : Code := subCode [1, 0, 1, 0, 0, 1, 0, 0] (bodyOf Try.prog 28)
def f28a13 : Ann := subAnn [1, 0, 1, 0, 0, 1, 0, 0] ann28
noncomputable def f28c14 : Code := subCode [1, 0, 1, 0, 0, 1, 0, 1] (bodyOf Try.prog 28)
def f28a14 : Ann := subAnn [1, 0, 1, 0, 0, 1, 0, 1] ann28
noncomputable def f28c15 : Code := subCode [1, 0, 1, 0, 0, 1, 1, 0] (bodyOf Try.prog 28)
def f28a15 : Ann := subAnn [1, 0, 1, 0, 0, 1, 1, 0] ann28
noncomputable def f28c16 : Code := subCode [1, 0, 1, 0, 0, 1, 1, 1] (bodyOf Try.prog 28)
def f28a16 : Ann := subAnn [1, 0, 1, 0, 0, 1, 1, 1] ann28
noncomputable def f28c17 : Code := subCode [1, 0, 1, 0, 0, 1, 1, 0, 0] (bodyOf Try.prog 28)
def f28a17 : Ann := subAnn [1, 0, 1, 0, 0, 1, 1, 0, 0] ann28
noncomputable def f28c18 : Code := subCode [1, 0, 1, 0, 0, 1, 1, 0, 0, 0] (bodyOf Try.prog 28)
def f28a18 : Ann := subAnn [1, 0, 1, 0, 0, 1, 1, 0, 0, 0] ann28
noncomputable def f28c19 : Code := subCode [1, 0, 1, 0, 0, 1, 1, 0, 0, 1] (bodyOf Try.prog 28)
def f28a19 : Ann := subAnn [1, 0, 1, 0, 0, 1, 1, 0, 0, 1] ann28
noncomputable def f28c20 : Code := subCode [1, 0, 1, 0, 0, 1, 1, 0, 0, 1, 0] (bodyOf Try.prog 28)
def f28a20 : Ann := subAnn [1, 0, 1, 0, 0, 1, 1, 0, 0, 1, 0] ann28
noncomputable def f28c21 : Code := subCode [1, 0, 1, 0, 0, 1, 1, 0, 0, 1, 1] (bodyOf Try.prog 28)
def f28a21 : Ann := subAnn [1, 0, 1, 0, 0, 1, 1, 0, 0, 1, 1] ann28
noncomputable def f28c22 : Code := subCode [1, 0, 1, 0, 0, 1, 1, 0, 0, 1, 0, 0] (bodyOf Try.prog 28)
def f28a22 : Ann := subAnn [1, 0, 1, 0, 0, 1, 1, 0, 0, 1, 0, 0] ann28
noncomputable def f28c23 : Code := subCode [1, 0, 1, 0, 0, 1, 1, 0, 0, 1, 0, 1] (bodyOf Try.prog 28)
def f28a23 : Ann := subAnn [1, 0, 1, 0, 0, 1, 1, 0, 0, 1, 0, 1] ann28
noncomputable def f28c24 : Code := subCode [1, 0, 1, 0, 0, 1, 1, 0, 0, 1, 0, 1, 0] (bodyOf Try.prog 28)
def f28a24 : Ann := subAnn [1, 0, 1, 0, 0, 1, 1, 0, 0, 1, 0, 1, 0] ann28
noncomputable def f28c25 : Code := subCode [1, 0, 1, 0, 0, 1, 1, 0, 0, 1, 0, 1, 1] (bodyOf Try.prog 28)
def f28a25 : Ann := subAnn [1, 0, 1, 0, 0, 1, 1, 0, 0, 1, 0, 1, 1] ann28
noncomputable def f28c26 : Code := subCode [1, 0, 1, 0, 0, 1, 1, 0, 0, 1, 1, 0] (bodyOf Try.prog 28)
def f28a26 : Ann := subAnn [1, 0, 1, 0, 0, 1, 1, 0, 0, 1, 1, 0] ann28
noncomputable def f28c27 : Code := subCode [1, 0, 1, 0, 0, 1, 1, 0, 0, 1, 1, 1] (bodyOf Try.prog 28)
def f28a27 : Ann := subAnn [1, 0, 1, 0, 0, 1, 1, 0, 0, 1, 1, 1] ann28
noncomputable def f28c28 : Code := subCode [1, 0, 1, 0, 0, 1, 1, 0, 0, 1, 1, 1, 0] (bodyOf Try.prog 28)
def f28a28 : Ann := subAnn [1, 0, 1, 0, 0, 1, 1, 0, 0, 1, 1, 1, 0] ann28
noncomputable def f28c29 : Code := subCode [1, 0, 1, 0, 0, 1, 1, 0, 0, 1, 1, 1, 1] (bodyOf Try.prog 28)
def f28a29 : Ann := subAnn [1, 0, 1, 0, 0, 1, 1, 0, 0, 1, 1, 1, 1] ann28
noncomputable def f28c30 : Code := subCode [1, 0, 1, 0, 0, 1, 1, 0, 0, 1, 1, 1, 1, 0] (bodyOf Try.prog 28)
def f28a30 : Ann := subAnn [1, 0, 1, 0, 0, 1, 1, 0, 0, 1, 1, 1, 1, 0] ann28
noncomputable def f28c31 : Code := subCode [1, 0, 1, 0, 0, 1, 1, 0, 0, 1, 1, 1, 1, 1] (bodyOf Try.prog 28)
def f28a31 : Ann := subAnn [1, 0, 1, 0, 0, 1, 1, 0, 0, 1, 1, 1, 1, 1] ann28
noncomputable def f28c32 : Code := subCode [1, 0, 1, 0, 0, 1, 1, 0, 0, 1, 1, 1, 1, 0, 0] (bodyOf Try.prog 28)
def f28a32 : Ann := subAnn [1, 0, 1, 0, 0, 1, 1, 0, 0, 1, 1, 1, 1, 0, 0] ann28
noncomputable def f28c33 : Code := subCode [1, 0, 1, 0, 0, 1, 1, 0, 0, 1, 1, 1, 1, 0, 1] (bodyOf Try.prog 28)
def f28a33 : Ann := subAnn [1, 0, 1, 0, 0, 1, 1, 0, 0, 1, 1, 1, 1, 0, 1] ann28
noncomputable def f28c34 : Code := subCode [1, 1, 0] (bodyOf Try.prog 28)
def f28a34 : Ann := subAnn [1, 1, 0] ann28
noncomputable def f28c35 : Code := subCode [1, 1, 1] (bodyOf Try.prog 28)
def f28a35 : Ann := subAnn [1, 1, 1] ann28
noncomputable def f28L7 {R : Type} (call : CallF R) (N : Nat) : KF R → Env → St → Option R := fun K e σ => runK Try.prog call N f28c8 f28a8 K e σ
def f28e0 (y0 : Option (Nat × Nat)) (y1 : Int) : Env := AV.ptr y0 :: AV.int IntKind.i64 y1 :: Env.sp 51 []
def f28e1 (y0 : Option (Nat × Nat)) (y1 : Int) (y2 : Nat) (y3 : Bool) : Env := AV.ptr y0 :: AV.int IntKind.i64 y1 :: Env.sp 2 (AV.ptr (some (y2, (0 : Nat))) :: AV.bool y3 :: Env.sp 47 [])
def f28e2 (y0 : Option (Nat × Nat)) (y1 : Int) (y2 : Nat) : Env := AV.ptr y0 :: AV.int IntKind.i64 y1 :: Env.sp 2 (AV.ptr (some (y2, (0 : Nat))) :: Env.sp 48 [])
def f28e3 (y0 : Option (Nat × Nat)) (y1 : Int) (y2 : Nat) (y3 : Option (Nat × Nat)) (y4 : Option (Nat × Nat)) (y5 : Option (Nat × Nat)) (y6 : Option (Nat × Nat)) (y7 : Nat) (y8 : Option Nat) (y9 : Int) (y10 : Int) : Env := AV.ptr y0 :: AV.int IntKind.i64 y1 :: Env.sp 2 (AV.ptr (some (y2, (0 : Nat))) :: Env.sp 4 (AV.ptr y3 :: AV.ptr y4 :: AV.ptr y5 :: AV.slice y6 y7 y8 (4 : Nat) :: AV.int IntKind.i64 y9 :: AV.int IntKind.i64 y10 :: Env.sp 38 []))
def f28e4 (y0 : Option (Nat × Nat)) (y1 : Int) (y2 : Nat) (y3 : Option (Nat × Nat)) (y4 : Nat) (y5 : Option Nat) (y6 : Int) (y7 : Int) : Env := AV.ptr y0 :: AV.int IntKind.i64 y1 :: Env.sp 2 (AV.ptr (some (y2, (0 : Nat))) :: Env.sp 7 (AV.slice y3 y4 y5 (4 : Nat) :: AV.int IntKind.i64 y6 :: AV.int IntKind.i64 y7 :: Env.sp 38 []))
def f28e5 (y0 : Option (Nat × Nat)) (y1 : Int) (y2 : Nat) (y3 : Option (Nat × Nat)) (y4 : Nat) (y5 : Option Nat) (y6 : Int) (y7 : Int) (y8 : Bool) : Env := AV.ptr y0 :: AV.int IntKind.i64 y1 :: Env.sp 2 (AV.ptr (some (y2, (0 : Nat))) :: Env.sp 7 (AV.slice y3 y4 y5 (4 : Nat) :: AV.int IntKind.i64 y6 :: AV.int IntKind.i64 y7 :: AV.bool y8 :: Env.sp 37 []))
def f28e6 (y0 : Nat) : Env := Env.sp 4 (AV.ptr (some (y0, (0 : Nat))) :: Env.sp 48 [])
def f28e7 (y0 : Option (Nat × Nat)) (y1 : Int) (y2 : Nat) (y3 : Nat) (y4 : Option (Nat × Nat)) (y5 : Nat) (y6 : Option Nat) (y7 : Int) (y8 : Int) (y9 : Option (Nat × Nat)) (y10 : Int) (y11 : Int) (y12 : ByteArray) (y13 : ByteArray) : Env := AV.ptr y0 :: AV.int IntKind.i64 y1 :: Env.sp 2 (AV.ptr (some (y2, (0 : Nat))) :: Env.sp 2 (AV.ptr (some (y3, (0 : Nat))) :: Env.sp 4 (AV.slice y4 y5 y6 (4 : Nat) :: AV.int IntKind.i64 y7 :: AV.int IntKind.i64 y8 :: Env.sp 1 (AV.ptr y9 :: AV.agg [AV.int IntKind.i64 y10, AV.int IntKind.i64 y11, AV.str y12, AV.str y13] :: Env.sp 35 []))))
def f28e8 (y0 : Option (Nat × Nat)) (y1 : Int) (y2 : Nat) (y3 : Nat) (y4 : Option (Nat × Nat)) (y5 : Nat) (y6 : Option Nat) (y7 : Int) (y8 : Int) : Env := AV.ptr y0 :: AV.int IntKind.i64 y1 :: Env.sp 2 (AV.ptr (some (y2, (0 : Nat))) :: Env.sp 2 (AV.ptr (some (y3, (0 : Nat))) :: Env.sp 4 (AV.slice y4 y5 y6 (4 : Nat) :: AV.int IntKind.i64 y7 :: AV.int IntKind.i64 y8 :: Env.sp 38 [])))
def f28e9 (y0 : Option (Nat × Nat)) (y1 : Int) (y2 : Nat) (y3 : Nat) (y4 : Option (Nat × Nat)) (y5 : Nat) (y6 : Option Nat) (y7 : Int) (y8 : Int) (y9 : Nat) (y10 : Int) (y11 : Int) (y12 : Bool) (y13 : Bool) (y14 : Bool) : Env := AV.ptr y0 :: AV.int IntKind.i64 y1 :: Env.sp 2 (AV.ptr (some (y2, (0 : Nat))) :: Env.sp 2 (AV.ptr (some (y3, (0 : Nat))) :: Env.sp 4 (AV.slice y4 y5 y6 (4 : Nat) :: AV.int IntKind.i64 y7 :: AV.int IntKind.i64 y8 :: Env.sp 3 (AV.ptr (some (y9, (0 : Nat))) :: AV.int IntKind.i64 y10 :: AV.int IntKind.i64 y11 :: AV.bool y12 :: AV.bool y13 :: AV.tuple [] :: AV.tuple [] :: AV.tuple [] :: AV.tuple [] :: AV.tuple [] :: AV.tuple [] :: AV.tuple [] :: AV.tuple [] :: AV.tuple [] :: AV.tuple [] :: AV.tuple [] :: AV.bool y14 :: Env.sp 18 []))))
def f28e10 (y0 : Option (Nat × Nat)) (y1 : Int) (y2 : Nat) (y3 : Nat) (y4 : Option (Nat × Nat)) (y5 : Nat) (y6 : Option Nat) (y7 : Int) (y8 : Int) (y9 : Nat) (y10 : Int) (y11 : Int) (y12 : Bool) (y13 : Bool) (y14 : Int) (y15 : Bool) (y16 : Bool) (y17 : Nat) (y18 : Int) (y19 : Option (Nat × Nat)) (y20 : Option (Nat × Nat)) (y21 : Option (Nat × Nat)) (y22 : Int) (y23 : Bool) (y24 : Bool) (y25 : Bool) : Env := AV.ptr y0 :: AV.int IntKind.i64 y1 :: Env.sp 2 (AV.ptr (some (y2, (0 : Nat))) :: Env.sp 2 (AV.ptr (some (y3, (0 : Nat))) :: Env.sp 4 (AV.slice y4 y5 y6 (4 : Nat) :: AV.int IntKind.i64 y7 :: AV.int IntKind.i64 y8 :: Env.sp 3 (AV.ptr (some (y9, (0 : Nat))) :: AV.int IntKind.i64 y10 :: AV.int IntKind.i64 y11 :: AV.bool y12 :: AV.bool y13 :: AV.int IntKind.i64 y14 :: AV.bool y15 :: AV.bool y16 :: AV.ptr (some (y17, (1 : Nat))) :: AV.int IntKind.i64 y18 :: AV.ptr y19 :: AV.ptr y20 :: AV.ptr y21 :: AV.int IntKind.i64 y22 :: AV.bool y23 :: AV.bool y24 :: AV.bool y25 :: Env.sp 18 []))))
def f28e11 (y0 : Option (Nat × Nat)) (y1 : Int) (y2 : Nat) (y3 : Nat) (y4 : Option (Nat × Nat)) (y5 : Nat) (y6 : Option Nat) (y7 : Int) (y8 : Int) (y9 : Nat) (y10 : Int) (y11 : Int) (y12 : Bool) (y13 : Bool) (y14 : Int) (y15 : Bool) (y16 : Bool) (y17 : Bool) (y18 : Bool) : Env := AV.ptr y0 :: AV.int IntKind.i64 y1 :: Env.sp 2 (AV.ptr (some (y2, (0 : Nat))) :: Env.sp 2 (AV.ptr (some (y3, (0 : Nat))) :: Env.sp 4 (AV.slice y4 y5 y6 (4 : Nat) :: AV.int IntKind.i64 y7 :: AV.int IntKind.i64 y8 :: Env.sp 3 (AV.ptr (some (y9, (0 : Nat))) :: AV.int IntKind.i64 y10 :: AV.int IntKind.i64 y11 :: AV.bool y12 :: AV.bool y13 :: AV.int IntKind.i64 y14 :: AV.bool y15 :: AV.bool y16 :: AV.tuple [] :: AV.tuple [] :: AV.tuple [] :: AV.tuple [] :: AV.tuple [] :: AV.tuple [] :: AV.tuple [] :: AV.bool y17 :: AV.bool y18 :: Env.sp 18 []))))
def f28e12 (y0 : Option (Nat × Nat)) (y1 : Int) (y2 : Nat) (y3 : Nat) (y4 : Option (Nat × Nat)) (y5 : Nat) (y6 : Option Nat) (y7 : Int) (y8 : Int) (y9 : Bool) : Env := AV.ptr y0 :: AV.int IntKind.i64 y1 :: Env.sp 2 (AV.ptr (some (y2, (0 : Nat))) :: Env.sp 2 (AV.ptr (some (y3, (0 : Nat))) :: Env.sp 4 (AV.slice y4 y5 y6 (4 : Nat) :: AV.int IntKind.i64 y7 :: AV.int IntKind.i64 y8 :: Env.sp 19 (AV.bool y9 :: Env.sp 18 []))))
def f28e13 (y0 : Option (Nat × Nat)) (y1 : Int) (y2 : Nat) (y3 : Nat) (y4 : Nat) (y5 : Option (Nat × Nat)) (y6 : Nat) (y7 : Option Nat) (y8 : Int) (y9 : Int) (y10 : Option (Nat × Nat)) (y11 : Int) (y12 : Nat) (y13 : ByteArray) (y14 : ByteArray) (y15 : Int) (y16 : Option (Nat × Nat)) (y17 : Nat) (y18 : Option Nat) : Env := AV.ptr y0 :: AV.int IntKind.i64 y1 :: Env.sp 2 (AV.ptr (some (y2, (0 : Nat))) :: Env.sp 2 (AV.ptr (some (y3, (0 : Nat))) :: AV.ptr (some (y4, (0 : Nat))) :: Env.sp 3 (AV.slice y5 y6 y7 (4 : Nat) :: AV.int IntKind.i64 y8 :: AV.int IntKind.i64 y9 :: Env.sp 20 (AV.ptr y10 :: AV.int IntKind.i64 y11 :: AV.ptr (some (y12, (2 : Nat))) :: AV.str y13 :: AV.agg [AV.str y14, AV.int IntKind.i64 y15, AV.slice y16 y17 y18 (2 : Nat)] :: Env.sp 13 []))))
def f28e14 (y0 : Option (Nat × Nat)) (y1 : Int) (y2 : Nat) (y3 : Nat) (y4 : Option (Nat × Nat)) (y5 : Nat) (y6 : Option Nat) (y7 : Int) (y8 : Int) : Env := AV.ptr y0 :: AV.int IntKind.i64 y1 :: Env.sp 2 (AV.ptr (some (y2, (0 : Nat))) :: Env.sp 3 (AV.ptr (some (y3, (0 : Nat))) :: Env.sp 3 (AV.slice y4 y5 y6 (4 : Nat) :: AV.int IntKind.i64 y7 :: AV.int IntKind.i64 y8 :: Env.sp 38 [])))
def f28e15 (y0 : Option (Nat × Nat)) (y1 : Int) (y2 : Nat) (y3 : Nat) (y4 : Option (Nat × Nat)) (y5 : Nat) (y6 : Option Nat) (y7 : Int) (y8 : Int) (y9 : Nat) (y10 : Option (Nat × Nat)) (y11 : Nat) (y12 : Option Nat) (y13 : Int) (y14 : Option (Nat × Nat)) (y15 : Option (Nat × Nat)) (y16 : Option (Nat × Nat)) (y17 : Int) (y18 : Int) (y19 : Int) (y20 : Bool) : Env := AV.ptr y0 :: AV.int IntKind.i64 y1 :: Env.sp 2 (AV.ptr (some (y2, (0 : Nat))) :: Env.sp 3 (AV.ptr (some (y3, (0 : Nat))) :: Env.sp 3 (AV.slice y4 y5 y6 (4 : Nat) :: AV.int IntKind.i64 y7 :: AV.int IntKind.i64 y8 :: Env.sp 25 (AV.ptr (some (y9, (2 : Nat))) :: AV.slice y10 y11 y12 (2 : Nat) :: AV.int IntKind.i64 y13 :: AV.ptr y14 :: AV.ptr y15 :: AV.ptr y16 :: AV.int IntKind.i64 y17 :: AV.int IntKind.i64 y18 :: AV.int IntKind.i64 y19 :: AV.bool y20 :: Env.sp 3 []))))
def f28e16 (y0 : Option (Nat × Nat)) (y1 : Int) (y2 : Nat) (y3 : Nat) (y4 : Option (Nat × Nat)) (y5 : Nat) (y6 : Option Nat) (y7 : Int) (y8 : Int) (y9 : Bool) : Env := AV.ptr y0 :: AV.int IntKind.i64 y1 :: Env.sp 2 (AV.ptr (some (y2, (0 : Nat))) :: Env.sp 3 (AV.ptr (some (y3, (0 : Nat))) :: Env.sp 3 (AV.slice y4 y5 y6 (4 : Nat) :: AV.int IntKind.i64 y7 :: AV.int IntKind.i64 y8 :: Env.sp 34 (AV.bool y9 :: Env.sp 3 []))))
def f28e17 (y0 : Option (Nat × Nat)) (y1 : Int) (y2 : Nat) (y3 : Bool) (y4 : Nat) (y5 : Option (Nat × Nat)) (y6 : Nat) (y7 : Option Nat) (y8 : Int) (y9 : Int) (y10 : Bool) (y11 : ByteArray) (y12 : Int) (y13 : Option (Nat × Nat)) (y14 : Nat) (y15 : Option Nat) : Env := AV.ptr y0 :: AV.int IntKind.i64 y1 :: Env.sp 2 (AV.ptr (some (y2, (0 : Nat))) :: AV.bool y3 :: Env.sp 2 (AV.ptr (some (y4, (0 : Nat))) :: Env.sp 3 (AV.slice y5 y6 y7 (4 : Nat) :: AV.int IntKind.i64 y8 :: AV.int IntKind.i64 y9 :: Env.sp 34 (AV.bool y10 :: AV.agg [AV.str y11, AV.int IntKind.i64 y12, AV.slice y13 y14 y15 (2 : Nat)] :: Env.sp 2 []))))
def f28e18 (y0 : Nat) (y1 : Bool) : Env := Env.sp 4 (AV.ptr (some (y0, (0 : Nat))) :: AV.bool y1 :: Env.sp 47 [])
def f28e19 (y0 : Option (Nat × Nat)) (y1 : Int) (y2 : Nat) (y3 : Option (Nat × Nat)) (y4 : Nat) (y5 : Option Nat) (y6 : Int) (y7 : Int) (y8 : Int) : Env := AV.ptr y0 :: AV.int IntKind.i64 y1 :: Env.sp 2 (AV.ptr (some (y2, (0 : Nat))) :: Env.sp 7 (AV.slice y3 y4 y5 (4 : Nat) :: AV.int IntKind.i64 y6 :: AV.int IntKind.i64 y7 :: Env.sp 36 (AV.int IntKind.i64 y8 :: Env.sp 1 [])))
def f28e20 (y0 : Nat) (y1 : Bool) (y2 : ByteArray) (y3 : Int) (y4 : Option (Nat × Nat)) (y5 : Nat) (y6 : Option Nat) : Env := Env.sp 4 (AV.ptr (some (y0, (0 : Nat))) :: AV.bool y1 :: Env.sp 46 (AV.agg [AV.str y2, AV.int IntKind.i64 y3, AV.slice y4 y5 y6 (2 : Nat)] :: []))

/- function 28 -/
theorem f28_eq {R : Type} (call : CallF R) (N : Nat) (y0 : Option (Nat × Nat)) (y1 : Int) (σ : St) (K : AV → St → Option R) :
    bodyK Try.prog call N ann 28 [AV.ptr y0, AV.int IntKind.i64 y1] σ K = runK Try.prog call N f28c0 f28a0 (bodyC Try.prog f28rs K) (f28e0 y0 y1) σ := bodyK_of (fn := ((Try.prog.funcs[28]?).get rfl)) (by kernel_rfl) (by kernel_rfl) (by kernel_rfl) (by kernel_rfl) (by kernel_rfl) (by kernel_rfl)
theorem f28n0 {R : Type} (call : CallF R) (N : Nat) (J : KF R) (e : Env) (σ : St) : runK Try.prog call N f28c0 f28a0 J e σ = runK Try.prog call N f28c1 f28a1 (seqC (fun K e σ => runK Try.prog call N f28c2 f28a2 K e σ) f28a0 J) e σ := runK_seq' (by kernel_rfl) (by kernel_rfl) (by kernel_rfl)
theorem f28r1_f28e0 {R : Type} (call : CallF R) (N : Nat) (y0 : Option (Nat × Nat)) (y1 : Int) (J : KF R) (σ : St) :
    runK Try.prog call N f28c1 f28a1 J (f28e0 y0 y1) σ =
J Ex.normal (f28e1 y0 y1 (St.next σ) false)
  (St.new σ (Blk.cells [AV.str (ByteArray.mk #[]), AV.int IntKind.i64 (0 : Int), AV.slice none (0 : Nat) (some (0 : Nat)) (2 : Nat)] true)) := hide (by kernel_rfl)
theorem f28z0_f28e1 (y0 : Option (Nat × Nat)) (y1 : Int) (y2 : Nat) (y3 : Bool) : Ann.clr f28a0 (f28e1 y0 y1 y2 y3) = f28e2 y0 y1 y2 := hide (by kernel_rfl)
theorem f28n2 {R : Type} (call : CallF R) (N : Nat) (J : KF R) (e : Env) (σ : St) : runK Try.prog call N f28c2 f28a2 J e σ = runK Try.prog call N f28c3 f28a3 (seqC (fun K e σ => runK Try.prog call N f28c4 f28a4 K e σ) f28a2 J) e σ := runK_seq' (by kernel_rfl) (by kernel_rfl) (by kernel_rfl)
theorem f28n3 {R : Type} (call : CallF R) (N : Nat) (J : KF R) (e : Env) (σ : St) : runK Try.prog call N f28c3 f28a3 J e σ = runK Try.prog call N f28c5 f28a5 (seqC (fun K e σ => runK Try.prog call N f28c6 f28a6 K e σ) f28a3 J) e σ := runK_seq' (by kernel_rfl) (by kernel_rfl) (by kernel_rfl)
theorem f28r5_f28e2 {R : Type} (call : CallF R) (N : Nat) (y0 : Option (Nat × Nat)) (y1 : Int) (y2 : Nat) (J : KF R) (σ : St) :
    runK Try.prog call N f28c5 f28a5 J (f28e2 y0 y1 y2) σ =
Option.bind y0 fun v0 =>
  Option.bind (St.ld σ (Prod.fst v0) (Prod.snd v0 + (3 : Nat))) fun v1 =>
    Option.bind (AV.toSl (4 : Nat) v1) fun v2 =>
      J Ex.normal
        (f28e3 y0 y1 y2 y0 (some v0) (some (Prod.fst v0, Prod.snd v0 + (3 : Nat))) (Sl.o v2) (Sl.len v2) (Sl.cap v2) (↑(Sl.len v2) : Int) (0 : Int)) σ := hide (by kernel_rfl)
theorem f28z3_f28e3 (y0 : Option (Nat × Nat)) (y1 : Int) (y2 : Nat) (y3 : Option (Nat × Nat)) (y4 : Option (Nat × Nat)) (y5 : Option (Nat × Nat)) (y6 : Option (Nat × Nat)) (y7 : Nat) (y8 : Option Nat) (y9 : Int) (y10 : Int) : Ann.clr f28a3 (f28e3 y0 y1 y2 y3 y4 y5 y6 y7 y8 y9 y10) = f28e4 y0 y1 y2 y6 y7 y8 y9 y10 := hide (by kernel_rfl)
theorem f28n6 {R : Type} (call : CallF R) (N : Nat) (J : KF R) (e : Env) (σ : St) : runK Try.prog call N f28c6 f28a6 J e σ = runK Try.prog call N f28c7 f28a7 (blockC 0 f28a6 J) e σ := runK_block' (by kernel_rfl) (by kernel_rfl)
theorem f28L7_eq {R : Type} (call : CallF R) (N : Nat) (J : KF R) (e : Env) (σ : St) : f28L7 call N J e σ = runK Try.prog call N f28c8 f28a8 J e σ := hide rfl
theorem f28z7_f28e4 (y0 : Option (Nat × Nat)) (y1 : Int) (y2 : Nat) (y3 : Option (Nat × Nat)) (y4 : Nat) (y5 : Option Nat) (y6 : Int) (y7 : Int) : Ann.clr f28a7 (f28e4 y0 y1 y2 y3 y4 y5 y6 y7) = f28e4 y0 y1 y2 y3 y4 y5 y6 y7 := hide (by kernel_rfl)
theorem f28l7_f28e4 {R : Type} (call : CallF R) (N : Nat) (y0 : Option (Nat × Nat)) (y1 : Int) (y2 : Nat) (y3 : Option (Nat × Nat)) (y4 : Nat) (y5 : Option Nat) (y6 : Int) (y7 : Int) (J : KF R) (σ : St) : runK Try.prog call N f28c7 f28a7 J (f28e4 y0 y1 y2 y3 y4 y5 y6 y7) σ = loopK (f28L7 call N) f28a7 N J (f28e4 y0 y1 y2 y3 y4 y5 y6 y7) σ := runK_loop' (by kernel_rfl) (by kernel_rfl) (by kernel_rfl)
theorem f28n8 {R : Type} (call : CallF R) (N : Nat) (J : KF R) (e : Env) (σ : St) : runK Try.prog call N f28c8 f28a8 J e σ = runK Try.prog call N f28c9 f28a9 (seqC (fun K e σ => runK Try.prog call N f28c10 f28a10 K e σ) f28a8 J) e σ := runK_seq' (by kernel_rfl) (by kernel_rfl) (by kernel_rfl)
theorem f28r9_f28e4 {R : Type} (call : CallF R) (N : Nat) (y0 : Option (Nat × Nat)) (y1 : Int) (y2 : Nat) (y3 : Option (Nat × Nat)) (y4 : Nat) (y5 : Option Nat) (y6 : Int) (y7 : Int) (J : KF R) (σ : St) :
    runK Try.prog call N f28c9 f28a9 J (f28e4 y0 y1 y2 y3 y4 y5 y6 y7) σ =
J Ex.normal (f28e5 y0 y1 y2 y3 y4 y5 y6 y7 (decide (y7 < y6))) σ := hide (by kernel_rfl)
theorem f28z8_f28e5 (y0 : Option (Nat × Nat)) (y1 : Int) (y2 : Nat) (y3 : Option (Nat × Nat)) (y4 : Nat) (y5 : Option Nat) (y6 : Int) (y7 : Int) (y8 : Bool) : Ann.clr f28a8 (f28e5 y0 y1 y2 y3 y4 y5 y6 y7 y8) = f28e5 y0 y1 y2 y3 y4 y5 y6 y7 y8 := hide (by kernel_rfl)
theorem f28n10 {R : Type} (call : CallF R) (N : Nat) (J : KF R) (e : Env) (σ : St) : runK Try.prog call N f28c10 f28a10 J e σ = runK Try.prog call N f28c11 f28a11 (seqC (fun K e σ => runK Try.prog call N f28c12 f28a12 K e σ) f28a10 J) e σ := runK_seq' (by kernel_rfl) (by kernel_rfl) (by kernel_rfl)
theorem f28x11_f28e5 {R : Type} (call : CallF R) (N : Nat) (y0 : Option (Nat × Nat)) (y1 : Int) (y2 : Nat) (y3 : Option (Nat × Nat)) (y4 : Nat) (y5 : Option Nat) (y6 : Int) (y7 : Int) (y8 : Bool) (J : KF R) (σ : St) : runK Try.prog call N f28c11 f28a11 J (f28e5 y0 y1 y2 y3 y4 y5 y6 y7 y8) σ = if y8 = true then runK Try.prog call N f28c13 f28a13 (condC f28a11 J) (f28e5 y0 y1 y2 y3 y4 y5 y6 y7 y8) σ else runK Try.prog call N f28c14 f28a14 (condC f28a11 J) (f28e5 y0 y1 y2 y3 y4 y5 y6 y7 y8) σ := runK_cond' (o := Operand.tmp (15 : Nat)) (by kernel_rfl) (by kernel_rfl) (by kernel_rfl) (by kernel_rfl)
theorem f28n13 {R : Type} (call : CallF R) (N : Nat) (J : KF R) (e : Env) (σ : St) : runK Try.prog call N f28c13 f28a13 J e σ = J .normal e σ := runK_skip' (by kernel_rfl)
theorem f28z11_f28e5 (y0 : Option (Nat × Nat)) (y1 : Int) (y2 : Nat) (y3 : Option (Nat × Nat)) (y4 : Nat) (y5 : Option Nat) (y6 : Int) (y7 : Int) (y8 : Bool) : Ann.clr f28a11 (f28e5 y0 y1 y2 y3 y4 y5 y6 y7 y8) = f28e4 y0 y1 y2 y3 y4 y5 y6 y7 := hide (by kernel_rfl)
theorem f28y14_f28e5 {R : Type} (call : CallF R) (N : Nat) (y0 : Option (Nat × Nat)) (y1 : Int) (y2 : Nat) (y3 : Option (Nat × Nat)) (y4 : Nat) (y5 : Option Nat) (y6 : Int) (y7 : Int) (y8 : Bool) (J : KF R) (σ : St) : runK Try.prog call N f28c14 f28a14 J (f28e5 y0 y1 y2 y3 y4 y5 y6 y7 y8) σ = J (.exit 0) (f28e6 y2) σ := runK_exit' (by kernel_rfl) (by kernel_rfl)
theorem f28z10_f28e4 (y0 : Option (Nat × Nat)) (y1 : Int) (y2 : Nat) (y3 : Option (Nat × Nat)) (y4 : Nat) (y5 : Option Nat) (y6 : Int) (y7 : Int) : Ann.clr f28a10 (f28e4 y0 y1 y2 y3 y4 y5 y6 y7) = f28e4 y0 y1 y2 y3 y4 y5 y6 y7 := hide (by kernel_rfl)
theorem f28n12 {R : Type} (call : CallF R) (N : Nat) (J : KF R) (e : Env) (σ : St) : runK Try.prog call N f28c12 f28a12 J e σ = runK Try.prog call N f28c15 f28a15 (seqC (fun K e σ => runK Try.prog call N f28c16 f28a16 K e σ) f28a12 J) e σ := runK_seq' (by kernel_rfl) (by kernel_rfl) (by kernel_rfl)
theorem f28n15 {R : Type} (call : CallF R) (N : Nat) (J : KF R) (e : Env) (σ : St) : runK Try.prog call N f28c15 f28a15 J e σ = runK Try.prog call N f28c17 f28a17 (blockC 1 f28a15 J) e σ := runK_block' (by kernel_rfl) (by kernel_rfl)
theorem f28n17 {R : Type} (call : CallF R) (N : Nat) (J : KF R) (e : Env) (σ : St) : runK Try.prog call N f28c17 f28a17 J e σ = runK Try.prog call N f28c18 f28a18 (seqC (fun K e σ => runK Try.prog call N f28c19 f28a19 K e σ) f28a17 J) e σ := runK_seq' (by kernel_rfl) (by kernel_rfl) (by kernel_rfl)
theorem f28r18_f28e4 {R : Type} (call : CallF R) (N : Nat) (y0 : Option (Nat × Nat)) (y1 : Int) (y2 : Nat) (y3 : Option (Nat × Nat)) (y4 : Nat) (y5 : Option Nat) (y6 : Int) (y7 : Int) (J : KF R) (σ : St) :
    runK Try.prog call N f28c18 f28a18 J (f28e4 y0 y1 y2 y3 y4 y5 y6 y7) σ =
if (0 : Int) ≤ y7 ∧ y7 < (↑y4 : Int) then
  Option.bind y3 fun v0 =>
    Option.bind (St.ld σ (Prod.fst v0) (Prod.snd v0 + Int.toNat y7 * (4 : Nat))) fun v1 =>
      Option.bind (AV.toInt IntKind.i64 v1) fun v2 =>
        Option.bind (St.ld σ (Prod.fst v0) (Prod.snd v0 + Int.toNat y7 * (4 : Nat) + (1 : Nat))) fun v3 =>
          Option.bind (AV.toInt IntKind.i64 v3) fun v4 =>
            Option.bind (St.ld σ (Prod.fst v0) (Prod.snd v0 + Int.toNat y7 * (4 : Nat) + (2 : Nat))) fun v5 =>
              Option.bind (AV.toStr v5) fun v6 =>
                Option.bind (St.ld σ (Prod.fst v0) (Prod.snd v0 + Int.toNat y7 * (4 : Nat) + (3 : Nat))) fun v7 =>
                  Option.bind (AV.toStr v7) fun v8 =>
                    Option.bind
                      (St.st
                        (St.new σ
                          (Blk.cells
                            [AV.int IntKind.i64 (0 : Int), AV.int IntKind.i64 (0 : Int), AV.str (ByteArray.mk #[]), AV.str (ByteArray.mk #[])] true))
                        (St.next σ) (0 : Nat) [AV.int IntKind.i64 v2, AV.int IntKind.i64 v4, AV.str v6, AV.str v8])
                      fun v9 =>
                      J Ex.normal (f28e7 y0 y1 y2 (St.next σ) y3 y4 y5 y6 y7 (some (Prod.fst v0, Prod.snd v0 + Int.toNat y7 * (4 : Nat))) v2 v4 v6 v8)
                        v9
else none := hide (by kernel_rfl)
theorem f28z17_f28e7 (y0 : Option (Nat × Nat)) (y1 : Int) (y2 : Nat) (y3 : Nat) (y4 : Option (Nat × Nat)) (y5 : Nat) (y6 : Option Nat) (y7 : Int) (y8 : Int) (y9 : Option (Nat × Nat)) (y10 : Int) (y11 : Int) (y12 : ByteArray) (y13 : ByteArray) : Ann.clr f28a17 (f28e7 y0 y1 y2 y3 y4 y5 y6 y7 y8 y9 y10 y11 y12 y13) = f28e8 y0 y1 y2 y3 y4 y5 y6 y7 y8 := hide (by kernel_rfl)
theorem f28n19 {R : Type} (call : CallF R) (N : Nat) (J : KF R) (e : Env) (σ : St) : runK Try.prog call N f28c19 f28a19 J e σ = runK Try.prog call N f28c20 f28a20 (seqC (fun K e σ => runK Try.prog call N f28c21 f28a21 K e σ) f28a19 J) e σ := runK_seq' (by kernel_rfl) (by kernel_rfl) (by kernel_rfl)
theorem f28n20 {R : Type} (call : CallF R) (N : Nat) (J : KF R) (e : Env) (σ : St) : runK Try.prog call N f28c20 f28a20 J e σ = runK Try.prog call N f28c22 f28a22 (seqC (fun K e σ => runK Try.prog call N f28c23 f28a23 K e σ) f28a20 J) e σ := runK_seq' (by kernel_rfl) (by kernel_rfl) (by kernel_rfl)
theorem f28r22_f28e8 {R : Type} (call : CallF R) (N : Nat) (y0 : Option (Nat × Nat)) (y1 : Int) (y2 : Nat) (y3 : Nat) (y4 : Option (Nat × Nat)) (y5 : Nat) (y6 : Option Nat) (y7 : Int) (y8 : Int) (J : KF R) (σ : St) :
    runK Try.prog call N f28c22 f28a22 J (f28e8 y0 y1 y2 y3 y4 y5 y6 y7 y8) σ =
Option.bind (St.ld σ y3 (0 : Nat)) fun v0 =>
  Option.bind (AV.toInt IntKind.i64 v0) fun v1 =>
    if (v1 != y1) = true then J Ex.normal (f28e9 y0 y1 y2 y3 y4 y5 y6 y7 y8 y3 v1 y1 (v1 != y1) true true) σ
    else
      if (y1 == (1 : Int)) = true then
        Option.bind (St.ld σ y3 (1 : Nat)) fun v2 =>
          Option.bind (AV.toInt IntKind.i64 v2) fun v3 =>
            Option.bind y0 fun v4 =>
              Option.bind (St.ld σ (Prod.fst v4) (Prod.snd v4 + (2 : Nat))) fun v5 =>
                Option.bind (AV.toInt IntKind.i64 v5) fun v6 =>
                  J Ex.normal
                    (f28e10 y0 y1 y2 y3 y4 y5 y6 y7 y8 y3 v1 y1 (v1 != y1) false y1 (y1 == (1 : Int)) true y3 v3 y0 (some v4)
                      (some (Prod.fst v4, Prod.snd v4 + (2 : Nat))) v6 (v3 != v6) (v3 != v6) (v3 != v6))
                    σ
      else J Ex.normal (f28e11 y0 y1 y2 y3 y4 y5 y6 y7 y8 y3 v1 y1 (v1 != y1) false y1 (y1 == (1 : Int)) false false false) σ := hide (by kernel_rfl)
theorem f28z20_f28e9 (y0 : Option (Nat × Nat)) (y1 : Int) (y2 : Nat) (y3 : Nat) (y4 : Option (Nat × Nat)) (y5 : Nat) (y6 : Option Nat) (y7 : Int) (y8 : Int) (y9 : Nat) (y10 : Int) (y11 : Int) (y12 : Bool) (y13 : Bool) (y14 : Bool) : Ann.clr f28a20 (f28e9 y0 y1 y2 y3 y4 y5 y6 y7 y8 y9 y10 y11 y12 y13 y14) = f28e12 y0 y1 y2 y3 y4 y5 y6 y7 y8 y14 := hide (by kernel_rfl)
theorem f28x23_f28e12 {R : Type} (call : CallF R) (N : Nat) (y0 : Option (Nat × Nat)) (y1 : Int) (y2 : Nat) (y3 : Nat) (y4 : Option (Nat × Nat)) (y5 : Nat) (y6 : Option Nat) (y7 : Int) (y8 : Int) (y9 : Bool) (J : KF R) (σ : St) : runK Try.prog call N f28c23 f28a23 J (f28e12 y0 y1 y2 y3 y4 y5 y6 y7 y8 y9) σ = if y9 = true then runK Try.prog call N f28c24 f28a24 (condC f28a23 J) (f28e12 y0 y1 y2 y3 y4 y5 y6 y7 y8 y9) σ else runK Try.prog call N f28c25 f28a25 (condC f28a23 J) (f28e12 y0 y1 y2 y3 y4 y5 y6 y7 y8 y9) σ := runK_cond' (o := Operand.tmp (34 : Nat)) (by kernel_rfl) (by kernel_rfl) (by kernel_rfl) (by kernel_rfl)
theorem f28y24_f28e12 {R : Type} (call : CallF R) (N : Nat) (y0 : Option (Nat × Nat)) (y1 : Int) (y2 : Nat) (y3 : Nat) (y4 : Option (Nat × Nat)) (y5 : Nat) (y6 : Option Nat) (y7 : Int) (y8 : Int) (y9 : Bool) (J : KF R) (σ : St) : runK Try.prog call N f28c24 f28a24 J (f28e12 y0 y1 y2 y3 y4 y5 y6 y7 y8 y9) σ = J (.exit 1) (f28e4 y0 y1 y2 y4 y5 y6 y7 y8) σ := runK_exit' (by kernel_rfl) (by kernel_rfl)
theorem f28n25 {R : Type} (call : CallF R) (N : Nat) (J : KF R) (e : Env) (σ : St) : runK Try.prog call N f28c25 f28a25 J e σ = J .normal e σ := runK_skip' (by kernel_rfl)
theorem f28z23_f28e12 (y0 : Option (Nat × Nat)) (y1 : Int) (y2 : Nat) (y3 : Nat) (y4 : Option (Nat × Nat)) (y5 : Nat) (y6 : Option Nat) (y7 : Int) (y8 : Int) (y9 : Bool) : Ann.clr f28a23 (f28e12 y0 y1 y2 y3 y4 y5 y6 y7 y8 y9) = f28e8 y0 y1 y2 y3 y4 y5 y6 y7 y8 := hide (by kernel_rfl)
theorem f28z20_f28e10 (y0 : Option (Nat × Nat)) (y1 : Int) (y2 : Nat) (y3 : Nat) (y4 : Option (Nat × Nat)) (y5 : Nat) (y6 : Option Nat) (y7 : Int) (y8 : Int) (y9 : Nat) (y10 : Int) (y11 : Int) (y12 : Bool) (y13 : Bool) (y14 : Int) (y15 : Bool) (y16 : Bool) (y17 : Nat) (y18 : Int) (y19 : Option (Nat × Nat)) (y20 : Option (Nat × Nat)) (y21 : Option (Nat × Nat)) (y22 : Int) (y23 : Bool) (y24 : Bool) (y25 : Bool) : Ann.clr f28a20 (f28e10 y0 y1 y2 y3 y4 y5 y6 y7 y8 y9 y10 y11 y12 y13 y14 y15 y16 y17 y18 y19 y20 y21 y22 y23 y24 y25) = f28e12 y0 y1 y2 y3 y4 y5 y6 y7 y8 y25 := hide (by kernel_rfl)
theorem f28z20_f28e11 (y0 : Option (Nat × Nat)) (y1 : Int) (y2 : Nat) (y3 : Nat) (y4 : Option (Nat × Nat)) (y5 : Nat) (y6 : Option Nat) (y7 : Int) (y8 : Int) (y9 : Nat) (y10 : Int) (y11 : Int) (y12 : Bool) (y13 : Bool) (y14 : Int) (y15 : Bool) (y16 : Bool) (y17 : Bool) (y18 : Bool) : Ann.clr f28a20 (f28e11 y0 y1 y2 y3 y4 y5 y6 y7 y8 y9 y10 y11 y12 y13 y14 y15 y16 y17 y18) = f28e12 y0 y1 y2 y3 y4 y5 y6 y7 y8 y18 := hide (by kernel_rfl)
theorem f28z19_f28e8 (y0 : Option (Nat × Nat)) (y1 : Int) (y2 : Nat) (y3 : Nat) (y4 : Option (Nat × Nat)) (y5 : Nat) (y6 : Option Nat) (y7 : Int) (y8 : Int) : Ann.clr f28a19 (f28e8 y0 y1 y2 y3 y4 y5 y6 y7 y8) = f28e8 y0 y1 y2 y3 y4 y5 y6 y7 y8 := hide (by kernel_rfl)
theorem f28n21 {R : Type} (call : CallF R) (N : Nat) (J : KF R) (e : Env) (σ : St) : runK Try.prog call N f28c21 f28a21 J e σ = runK Try.prog call N f28c26 f28a26 (seqC (fun K e σ => runK Try.prog call N f28c27 f28a27 K e σ) f28a21 J) e σ := runK_seq' (by kernel_rfl) (by kernel_rfl) (by kernel_rfl)
theorem f28r26_f28e8 {R : Type} (call : CallF R) (N : Nat) (y0 : Option (Nat × Nat)) (y1 : Int) (y2 : Nat) (y3 : Nat) (y4 : Option (Nat × Nat)) (y5 : Nat) (y6 : Option Nat) (y7 : Int) (y8 : Int) (J : KF R) (σ : St) :
    runK Try.prog call N f28c26 f28a26 J (f28e8 y0 y1 y2 y3 y4 y5 y6 y7 y8) σ =
Option.bind (St.ld σ y3 (2 : Nat)) fun v0 =>
  Option.bind (AV.toStr v0) fun v1 =>
    call (49 : Nat) [AV.ptr y0, AV.int IntKind.i64 y1, AV.str v1] σ fun v2 v3 =>
      Option.bind (AV.toAgg v2) fun v4 =>
        if List.length v4 = (3 : Nat) then
          Option.bind (List.head? v4) fun v5 =>
            Option.bind (AV.toStr v5) fun v6 =>
              Option.bind (List.head? (List.tail v4)) fun v7 =>
                Option.bind (AV.toInt IntKind.i64 v7) fun v8 =>
                  Option.bind (List.head? (List.tail (List.tail v4))) fun v9 =>
                    Option.bind (AV.toSl (2 : Nat) v9) fun v10 =>
                      Option.bind
                        (St.st
                          (St.new v3
                            (Blk.cells [AV.str (ByteArray.mk #[]), AV.int IntKind.i64 (0 : Int), AV.slice none (0 : Nat) (some (0 : Nat)) (2 : Nat)]
                              true))
                          (St.next v3) (0 : Nat) [AV.str v6, AV.int IntKind.i64 v8, AV.slice (Sl.o v10) (Sl.len v10) (Sl.cap v10) (2 : Nat)])
                        fun v11 =>
                        J Ex.normal (f28e13 y0 y1 y2 y3 (St.next v3) y4 y5 y6 y7 y8 y0 y1 y3 v1 v6 v8 (Sl.o v10) (Sl.len v10) (Sl.cap v10)) v11
        else none := hide (by kernel_rfl)
theorem f28z21_f28e13 (y0 : Option (Nat × Nat)) (y1 : Int) (y2 : Nat) (y3 : Nat) (y4 : Nat) (y5 : Option (Nat × Nat)) (y6 : Nat) (y7 : Option Nat) (y8 : Int) (y9 : Int) (y10 : Option (Nat × Nat)) (y11 : Int) (y12 : Nat) (y13 : ByteArray) (y14 : ByteArray) (y15 : Int) (y16 : Option (Nat × Nat)) (y17 : Nat) (y18 : Option Nat) : Ann.clr f28a21 (f28e13 y0 y1 y2 y3 y4 y5 y6 y7 y8 y9 y10 y11 y12 y13 y14 y15 y16 y17 y18) = f28e14 y0 y1 y2 y4 y5 y6 y7 y8 y9 := hide (by kernel_rfl)
theorem f28n27 {R : Type} (call : CallF R) (N : Nat) (J : KF R) (e : Env) (σ : St) : runK Try.prog call N f28c27 f28a27 J e σ = runK Try.prog call N f28c28 f28a28 (seqC (fun K e σ => runK Try.prog call N f28c29 f28a29 K e σ) f28a27 J) e σ := runK_seq' (by kernel_rfl) (by kernel_rfl) (by kernel_rfl)
theorem f28r28_f28e14 {R : Type} (call : CallF R) (N : Nat) (y0 : Option (Nat × Nat)) (y1 : Int) (y2 : Nat) (y3 : Nat) (y4 : Option (Nat × Nat)) (y5 : Nat) (y6 : Option Nat) (y7 : Int) (y8 : Int) (J : KF R) (σ : St) :
    runK Try.prog call N f28c28 f28a28 J (f28e14 y0 y1 y2 y3 y4 y5 y6 y7 y8) σ =
Option.bind (St.ld σ y3 (2 : Nat)) fun v0 =>
  Option.bind (AV.toSl (2 : Nat) v0) fun v1 =>
    Option.bind y0 fun v2 =>
      Option.bind (St.ld σ (Prod.fst v2) (Prod.snd v2 + (1 : Nat))) fun v3 =>
        Option.bind (AV.toInt IntKind.i64 v3) fun v4 =>
          J Ex.normal
            (f28e15 y0 y1 y2 y3 y4 y5 y6 y7 y8 y3 (Sl.o v1) (Sl.len v1) (Sl.cap v1) (↑(Sl.len v1) : Int) y0 (some v2)
              (some (Prod.fst v2, Prod.snd v2 + (1 : Nat))) v4 (IntKind.wrap IntKind.i64 ((2 : Int) * v4))
              (IntKind.wrap IntKind.i64 (IntKind.wrap IntKind.i64 ((2 : Int) * v4) + (1 : Int)))
              (decide ((↑(Sl.len v1) : Int) ≥ IntKind.wrap IntKind.i64 (IntKind.wrap IntKind.i64 ((2 : Int) * v4) + (1 : Int)))))
            σ := hide (by kernel_rfl)
theorem f28z27_f28e15 (y0 : Option (Nat × Nat)) (y1 : Int) (y2 : Nat) (y3 : Nat) (y4 : Option (Nat × Nat)) (y5 : Nat) (y6 : Option Nat) (y7 : Int) (y8 : Int) (y9 : Nat) (y10 : Option (Nat × Nat)) (y11 : Nat) (y12 : Option Nat) (y13 : Int) (y14 : Option (Nat × Nat)) (y15 : Option (Nat × Nat)) (y16 : Option (Nat × Nat)) (y17 : Int) (y18 : Int) (y19 : Int) (y20 : Bool) : Ann.clr f28a27 (f28e15 y0 y1 y2 y3 y4 y5 y6 y7 y8 y9 y10 y11 y12 y13 y14 y15 y16 y17 y18 y19 y20) = f28e16 y0 y1 y2 y3 y4 y5 y6 y7 y8 y20 := hide (by kernel_rfl)
theorem f28x29_f28e16 {R : Type} (call : CallF R) (N : Nat) (y0 : Option (Nat × Nat)) (y1 : Int) (y2 : Nat) (y3 : Nat) (y4 : Option (Nat × Nat)) (y5 : Nat) (y6 : Option Nat) (y7 : Int) (y8 : Int) (y9 : Bool) (J : KF R) (σ : St) : runK Try.prog call N f28c29 f28a29 J (f28e16 y0 y1 y2 y3 y4 y5 y6 y7 y8 y9) σ = if y9 = true then runK Try.prog call N f28c30 f28a30 (condC f28a29 J) (f28e16 y0 y1 y2 y3 y4 y5 y6 y7 y8 y9) σ else runK Try.prog call N f28c31 f28a31 (condC f28a29 J) (f28e16 y0 y1 y2 y3 y4 y5 y6 y7 y8 y9) σ := runK_cond' (o := Operand.tmp (49 : Nat)) (by kernel_rfl) (by kernel_rfl) (by kernel_rfl) (by kernel_rfl)
theorem f28n30 {R : Type} (call : CallF R) (N : Nat) (J : KF R) (e : Env) (σ : St) : runK Try.prog call N f28c30 f28a30 J e σ = runK Try.prog call N f28c32 f28a32 (seqC (fun K e σ => runK Try.prog call N f28c33 f28a33 K e σ) f28a30 J) e σ := runK_seq' (by kernel_rfl) (by kernel_rfl) (by kernel_rfl)
theorem f28r32_f28e16 {R : Type} (call : CallF R) (N : Nat) (y0 : Option (Nat × Nat)) (y1 : Int) (y2 : Nat) (y3 : Nat) (y4 : Option (Nat × Nat)) (y5 : Nat) (y6 : Option Nat) (y7 : Int) (y8 : Int) (y9 : Bool) (J : KF R) (σ : St) :
    runK Try.prog call N f28c32 f28a32 J (f28e16 y0 y1 y2 y3 y4 y5 y6 y7 y8 y9) σ =
Option.bind (St.ld σ y3 (0 : Nat)) fun v0 =>
  Option.bind (AV.toStr v0) fun v1 =>
    Option.bind (St.ld σ y3 (1 : Nat)) fun v2 =>
      Option.bind (AV.toInt IntKind.i64 v2) fun v3 =>
        Option.bind (St.ld σ y3 (2 : Nat)) fun v4 =>
          Option.bind (AV.toSl (2 : Nat) v4) fun v5 =>
            Option.bind (St.st σ y2 (0 : Nat) [AV.str v1, AV.int IntKind.i64 v3, AV.slice (Sl.o v5) (Sl.len v5) (Sl.cap v5) (2 : Nat)]) fun v6 =>
              J Ex.normal (f28e17 y0 y1 y2 true y3 y4 y5 y6 y7 y8 y9 v1 v3 (Sl.o v5) (Sl.len v5) (Sl.cap v5)) v6 := hide (by kernel_rfl)
theorem f28z30_f28e17 (y0 : Option (Nat × Nat)) (y1 : Int) (y2 : Nat) (y3 : Bool) (y4 : Nat) (y5 : Option (Nat × Nat)) (y6 : Nat) (y7 : Option Nat) (y8 : Int) (y9 : Int) (y10 : Bool) (y11 : ByteArray) (y12 : Int) (y13 : Option (Nat × Nat)) (y14 : Nat) (y15 : Option Nat) : Ann.clr f28a30 (f28e17 y0 y1 y2 y3 y4 y5 y6 y7 y8 y9 y10 y11 y12 y13 y14 y15) = f28e18 y2 y3 := hide (by kernel_rfl)
theorem f28y33_f28e18 {R : Type} (call : CallF R) (N : Nat) (y0 : Nat) (y1 : Bool) (J : KF R) (σ : St) : runK Try.prog call N f28c33 f28a33 J (f28e18 y0 y1) σ = J .ret (f28e18 y0 y1) σ := runK_ret' (by kernel_rfl) (by kernel_rfl)
theorem f28n31 {R : Type} (call : CallF R) (N : Nat) (J : KF R) (e : Env) (σ : St) : runK Try.prog call N f28c31 f28a31 J e σ = J .normal e σ := runK_skip' (by kernel_rfl)
theorem f28z29_f28e16 (y0 : Option (Nat × Nat)) (y1 : Int) (y2 : Nat) (y3 : Nat) (y4 : Option (Nat × Nat)) (y5 : Nat) (y6 : Option Nat) (y7 : Int) (y8 : Int) (y9 : Bool) : Ann.clr f28a29 (f28e16 y0 y1 y2 y3 y4 y5 y6 y7 y8 y9) = f28e4 y0 y1 y2 y4 y5 y6 y7 y8 := hide (by kernel_rfl)
theorem f28z15_f28e4 (y0 : Option (Nat × Nat)) (y1 : Int) (y2 : Nat) (y3 : Option (Nat × Nat)) (y4 : Nat) (y5 : Option Nat) (y6 : Int) (y7 : Int) : Ann.clr f28a15 (f28e4 y0 y1 y2 y3 y4 y5 y6 y7) = f28e4 y0 y1 y2 y3 y4 y5 y6 y7 := hide (by kernel_rfl)
theorem f28z12_f28e4 (y0 : Option (Nat × Nat)) (y1 : Int) (y2 : Nat) (y3 : Option (Nat × Nat)) (y4 : Nat) (y5 : Option Nat) (y6 : Int) (y7 : Int) : Ann.clr f28a12 (f28e4 y0 y1 y2 y3 y4 y5 y6 y7) = f28e4 y0 y1 y2 y3 y4 y5 y6 y7 := hide (by kernel_rfl)
theorem f28r16_f28e4 {R : Type} (call : CallF R) (N : Nat) (y0 : Option (Nat × Nat)) (y1 : Int) (y2 : Nat) (y3 : Option (Nat × Nat)) (y4 : Nat) (y5 : Option Nat) (y6 : Int) (y7 : Int) (J : KF R) (σ : St) :
    runK Try.prog call N f28c16 f28a16 J (f28e4 y0 y1 y2 y3 y4 y5 y6 y7) σ =
J Ex.normal (f28e19 y0 y1 y2 y3 y4 y5 y6 (IntKind.wrap IntKind.i64 (y7 + (1 : Int))) (IntKind.wrap IntKind.i64 (y7 + (1 : Int)))) σ := hide (by kernel_rfl)
theorem f28z7_f28e19 (y0 : Option (Nat × Nat)) (y1 : Int) (y2 : Nat) (y3 : Option (Nat × Nat)) (y4 : Nat) (y5 : Option Nat) (y6 : Int) (y7 : Int) (y8 : Int) : Ann.clr f28a7 (f28e19 y0 y1 y2 y3 y4 y5 y6 y7 y8) = f28e4 y0 y1 y2 y3 y4 y5 y6 y7 := hide (by kernel_rfl)
theorem f28z6_f28e6 (y0 : Nat) : Ann.clr f28a6 (f28e6 y0) = f28e6 y0 := hide (by kernel_rfl)
theorem f28z2_f28e6 (y0 : Nat) : Ann.clr f28a2 (f28e6 y0) = f28e6 y0 := hide (by kernel_rfl)
theorem f28n4 {R : Type} (call : CallF R) (N : Nat) (J : KF R) (e : Env) (σ : St) : runK Try.prog call N f28c4 f28a4 J e σ = runK Try.prog call N f28c34 f28a34 (seqC (fun K e σ => runK Try.prog call N f28c35 f28a35 K e σ) f28a4 J) e σ := runK_seq' (by kernel_rfl) (by kernel_rfl) (by kernel_rfl)
theorem f28r34_f28e6 {R : Type} (call : CallF R) (N : Nat) (y0 : Nat) (J : KF R) (σ : St) :
    runK Try.prog call N f28c34 f28a34 J (f28e6 y0) σ =
Option.bind (St.st σ y0 (0 : Nat) [AV.str (ByteArray.mk #[]), AV.int IntKind.i64 (0 : Int), AV.slice none (0 : Nat) (some (0 : Nat)) (2 : Nat)])
  fun v0 => J Ex.normal (f28e20 y0 false (ByteArray.mk #[]) (0 : Int) none (0 : Nat) (some (0 : Nat))) v0 := hide (by kernel_rfl)
theorem f28z4_f28e20 (y0 : Nat) (y1 : Bool) (y2 : ByteArray) (y3 : Int) (y4 : Option (Nat × Nat)) (y5 : Nat) (y6 : Option Nat) : Ann.clr f28a4 (f28e20 y0 y1 y2 y3 y4 y5 y6) = f28e18 y0 y1 := hide (by kernel_rfl)
theorem f28y35_f28e18 {R : Type} (call : CallF R) (N : Nat) (y0 : Nat) (y1 : Bool) (J : KF R) (σ : St) : runK Try.prog call N f28c35 f28a35 J (f28e18 y0 y1) σ = J .ret (f28e18 y0 y1) σ := runK_ret' (by kernel_rfl) (by kernel_rfl)
theorem f28b_f28e18_r {R : Type} (y0 : Nat) (y1 : Bool) (σ : St) (K : AV → St → Option R) : bodyC Try.prog f28rs K (Ex.ret) (f28e18 y0 y1) σ =
Option.bind (St.ld σ y0 (0 : Nat)) fun v0 =>
  Option.bind (AV.toStr v0) fun v1 =>
    Option.bind (St.ld σ y0 (1 : Nat)) fun v2 =>
      Option.bind (AV.toInt IntKind.i64 v2) fun v3 =>
        Option.bind (St.ld σ y0 (2 : Nat)) fun v4 =>
          Option.bind (AV.toSl (2 : Nat) v4) fun v5 =>
            K (AV.tuple [AV.agg [AV.str v1, AV.int IntKind.i64 v3, AV.slice (Sl.o v5) (Sl.len v5) (Sl.cap v5) (2 : Nat)], AV.bool y1]) σ := hide (by kernel_rfl)
attribute [go_sem] f28_eq f28n0 f28r1_f28e0 f28z0_f28e1 f28n2 f28n3 f28r5_f28e2 f28z3_f28e3 f28n6 f28L7_eq f28z7_f28e4 f28l7_f28e4 f28n8 f28r9_f28e4 f28z8_f28e5 f28n10 f28x11_f28e5 f28n13 f28z11_f28e5 f28y14_f28e5 f28z10_f28e4 f28n12 f28n15 f28n17 f28r18_f28e4 f28z17_f28e7 f28n19 f28n20 f28r22_f28e8 f28z20_f28e9 f28x23_f28e12 f28y24_f28e12 f28n25 f28z23_f28e12 f28z20_f28e10 f28z20_f28e11 f28z19_f28e8 f28n21 f28r26_f28e8 f28z21_f28e13 f28n27 f28r28_f28e14 f28z27_f28e15 f28x29_f28e16 f28n30 f28r32_f28e16 f28z30_f28e17 f28y33_f28e18 f28n31 f28z29_f28e16 f28z15_f28e4 f28z12_f28e4 f28r16_f28e4 f28z7_f28e19 f28z6_f28e6 f28z2_f28e6 f28n4 f28r34_f28e6 f28z4_f28e20 f28y35_f28e18 f28b_f28e18_r

noncomputable def f32rs : List ResultVar := [ResultVar.tmp (4 : Nat)]
noncomputable def f32c0 : Code := subCode [] (bodyOf Try.prog 32)
def f32a0 : Ann := subAnn [] ann32
noncomputable def f32c1 : Code := subCode [0] (bodyOf Try.prog 32)
def f32a1 : Ann := subAnn [0] ann32
noncomputable def f32c2 : Code := subCode [1] (bodyOf Try.prog 32)
def f32a2 : Ann := subAnn [1] ann32
noncomputable def f32c3 : Code := subCode [1, 0] (bodyOf Try.prog 32)
def f32a3 : Ann := subAnn [1, 0] ann32
noncomputable def f32c4 : Code := subCode [1, 1] (bodyOf Try.prog 32)
def f32a4 : Ann := subAnn [1, 1] ann32
noncomputable def f32c5 : Code := subCode [1, 1, 0] (bodyOf Try.prog 32)
def f32a5 : Ann := subAnn [1, 1, 0] ann32
noncomputable def f32c6 : Code := subCode [1, 1, 1] (bodyOf Try.prog 32)
def f32a6 : Ann := subAnn [1, 1, 1] ann32
noncomputable def f32c7 : Code := subCode [1, 1, 0, 0] (bodyOf Try.prog 32)
def f32a7 : Ann := subAnn [1, 1, 0, 0] ann32
noncomputable def f32c8 : Code := subCode [1, 1, 0, 1] (bodyOf Try.prog 32)
def f32a8 : Ann := subAnn [1, 1, 0, 1] ann32
noncomputable def f32c9 : Code := subCode [1, 1, 0, 1, 0] (bodyOf Try.prog 32)
def f32a9 : Ann := subAnn [1, 1, 0, 1, 0] ann32
noncomputable def f32c10 : Code := subCode [1, 1, 0, 1, 0, 0] (bodyOf Try.prog 32)
def f32a10 : Ann := subAnn [1, 1, 0, 1, 0, 0] ann32
noncomputable def f32c11 : Code := subCode [1, 1, 0, 1, 0, 0, 0] (bodyOf Try.prog 32)
def f32a11 : Ann := subAnn [1, 1, 0, 1, 0, 0, 0] ann32
noncomputable def f32c12 : Code := subCode [1, 1, 0, 1, 0, 0, 1] (bodyOf Try.prog 32)
def f32a12 : Ann := subAnn [1, 1, 0, 1, 0, 0, 1] ann32
noncomputable def f32c13 : Code := subCode [1, 1, 0, 1, 0, 0, 1, 0] (bodyOf Try.prog 32)
def f32a13 : Ann := subAnn [1, 1, 0, 1, 0, 0, 1, 0] ann32
noncomputable def f32c14 : Code := subCode [1, 1, 0, 1, 0, 0, 1, 1] (bodyOf Try.prog 32)
def f32a14 : Ann := subAnn [1, 1, 0, 1, 0, 0, 1, 1] ann32
noncomputable def f32c15 : Code := subCode [1, 1, 0, 1, 0, 0, 1, 0, 0] (bodyOf Try.prog 32)
def f32a15 : Ann := subAnn [1, 1, 0, 1, 0, 0, 1, 0, 0] ann32
noncomputable def f32c16 : Code := subCode [1, 1, 0, 1, 0, 0, 1, 0, 1] (bodyOf Try.prog 32)
def f32a16 : Ann := subAnn [1, 1, 0, 1, 0, 0, 1, 0, 1] ann32
noncomputable def f32c17 : Code := subCode [1, 1, 0, 1, 0, 0, 1, 1, 0] (bodyOf Try.prog 32)
def f32a17 : Ann := subAnn [1, 1, 0, 1, 0, 0, 1, 1, 0] ann32
noncomputable def f32c18 : Code := subCode [1, 1, 0, 1, 0, 0, 1, 1, 1] (bodyOf Try.prog 32)
def f32a18 : Ann := subAnn [1, 1, 0, 1, 0, 0, 1, 1, 1] ann32
noncomputable def f32c19 : Code := subCode [1, 1, 0, 1, 0, 0, 1, 1, 0, 0] (bodyOf Try.prog 32)
def f32a19 : Ann := subAnn [1, 1, 0, 1, 0, 0, 1, 1, 0, 0] ann32
noncomputable def f32c20 : Code := subCode [1, 1, 0, 1, 0, 0, 1, 1, 0, 0, 0] (bodyOf Try.prog 32)
def f32a20 : Ann := subAnn [1, 1, 0, 1, 0, 0, 1, 1, 0, 0, 0] ann32
noncomputable def f32c21 : Code := subCode [1, 1, 0, 1, 0, 0, 1, 1, 0, 0, 1] (bodyOf Try.prog 32)
def f32a21 : Ann := subAnn [1, 1, 0, 1, 0, 0, 1, 1, 0, 0, 1] ann32
noncomputable def f32c22 : Code := subCode [1, 1, 0, 1, 0, 0, 1, 1, 0, 0, 1, 0] (bodyOf Try.prog 32)
def f32a22 : Ann := subAnn [1, 1, 0, 1, 0, 0, 1, 1, 0, 0, 1, 0] ann32
noncomputable def f32c23 : Code := subCode [1, 1, 0, 1, 0, 0, 1, 1, 0, 0, 1, 1] (bodyOf Try.prog 32)
def f32a23 : Ann := subAnn [1, 1, 0, 1, 0, 0, 1, 1, 0, 0, 1, 1] ann32
noncomputable def f32c24 : Code := subCode [1, 1, 0, 1, 0, 0, 1, 1, 0, 0, 1, 1, 0] (bodyOf Try.prog 32)
def f32a24 : Ann := subAnn [1, 1, 0, 1, 0, 0, 1, 1, 0, 0, 1, 1, 0] ann32
noncomputable def f32c25 : Code := subCode [1, 1, 0, 1, 0, 0, 1, 1, 0, 0, 1, 1, 1] (bodyOf Try.prog 32)
def f32a25 : Ann := subAnn [1, 1, 0, 1, 0, 0, 1, 1, 0, 0, 1, 1, 1] ann32
noncomputable def f32c26 : Code := subCode [1, 1, 1, 0] (bodyOf Try.prog 32)
def f32a26 : Ann := subAnn [1, 1, 1, 0] ann32
noncomputable def f32c27 : Code := subCode [1, 1, 1, 1] (bodyOf Try.prog 32)
def f32a27 : Ann := subAnn [1, 1, 1, 1] ann32
noncomputable def f32L9 {R : Type} (call : CallF R) (N : Nat) : KF R → Env → St → Option R := fun K e σ => runK Try.prog call N f32c10 f32a10 K e σ
def f32e0 (y0 : Option (Nat × Nat)) (y1 : Int) : Env := AV.ptr y0 :: AV.int IntKind.i64 y1 :: Env.sp 23 []
def f32e1 (y0 : Option (Nat × Nat)) (y1 : Int) (y2 : Int) : Env := AV.ptr y0 :: AV.int IntKind.i64 y1 :: Env.sp 2 (AV.int IntKind.i64 y2 :: Env.sp 20 [])
def f32e2 (y0 : Option (Nat × Nat)) (y1 : Int) (y2 : Int) : Env := AV.ptr y0 :: AV.int IntKind.i64 y1 :: Env.sp 3 (AV.int IntKind.i64 y2 :: Env.sp 19 [])
def f32e3 (y0 : Option (Nat × Nat)) (y1 : Int) (y2 : Int) (y3 : Option (Nat × Nat)) (y4 : Option (Nat × Nat)) (y5 : Option (Nat × Nat)) (y6 : Option (Nat × Nat)) (y7 : Nat) (y8 : Option Nat) (y9 : Int) (y10 : Int) : Env := AV.ptr y0 :: AV.int IntKind.i64 y1 :: Env.sp 3 (AV.int IntKind.i64 y2 :: Env.sp 2 (AV.ptr y3 :: AV.ptr y4 :: AV.ptr y5 :: AV.slice y6 y7 y8 (4 : Nat) :: AV.int IntKind.i64 y9 :: AV.int IntKind.i64 y10 :: Env.sp 11 []))
def f32e4 (y0 : Int) (y1 : Int) (y2 : Option (Nat × Nat)) (y3 : Nat) (y4 : Option Nat) (y5 : Int) (y6 : Int) : Env := Env.sp 1 (AV.int IntKind.i64 y0 :: Env.sp 3 (AV.int IntKind.i64 y1 :: Env.sp 5 (AV.slice y2 y3 y4 (4 : Nat) :: AV.int IntKind.i64 y5 :: AV.int IntKind.i64 y6 :: Env.sp 11 [])))
def f32e5 (y0 : Int) (y1 : Int) (y2 : Option (Nat × Nat)) (y3 : Nat) (y4 : Option Nat) (y5 : Int) (y6 : Int) (y7 : Bool) : Env := Env.sp 1 (AV.int IntKind.i64 y0 :: Env.sp 3 (AV.int IntKind.i64 y1 :: Env.sp 5 (AV.slice y2 y3 y4 (4 : Nat) :: AV.int IntKind.i64 y5 :: AV.int IntKind.i64 y6 :: AV.bool y7 :: Env.sp 10 [])))
def f32e6 (y0 : Int) : Env := Env.sp 5 (AV.int IntKind.i64 y0 :: Env.sp 19 [])
def f32e7 (y0 : Int) (y1 : Int) (y2 : Nat) (y3 : Option (Nat × Nat)) (y4 : Nat) (y5 : Option Nat) (y6 : Int) (y7 : Int) (y8 : Option (Nat × Nat)) (y9 : Int) (y10 : Int) (y11 : ByteArray) (y12 : ByteArray) : Env := Env.sp 1 (AV.int IntKind.i64 y0 :: Env.sp 3 (AV.int IntKind.i64 y1 :: Env.sp 1 (AV.ptr (some (y2, (0 : Nat))) :: Env.sp 3 (AV.slice y3 y4 y5 (4 : Nat) :: AV.int IntKind.i64 y6 :: AV.int IntKind.i64 y7 :: Env.sp 1 (AV.ptr y8 :: AV.agg [AV.int IntKind.i64 y9, AV.int IntKind.i64 y10, AV.str y11, AV.str y12] :: Env.sp 8 [])))))
def f32e8 (y0 : Int) (y1 : Int) (y2 : Nat) (y3 : Option (Nat × Nat)) (y4 : Nat) (y5 : Option Nat) (y6 : Int) (y7 : Int) : Env := Env.sp 1 (AV.int IntKind.i64 y0 :: Env.sp 3 (AV.int IntKind.i64 y1 :: Env.sp 1 (AV.ptr (some (y2, (0 : Nat))) :: Env.sp 3 (AV.slice y3 y4 y5 (4 : Nat) :: AV.int IntKind.i64 y6 :: AV.int IntKind.i64 y7 :: Env.sp 11 []))))
def f32e9 (y0 : Int) (y1 : Int) (y2 : Nat) (y3 : Option (Nat × Nat)) (y4 : Nat) (y5 : Option Nat) (y6 : Int) (y7 : Int) (y8 : Nat) (y9 : Int) (y10 : Int) (y11 : Bool) : Env := Env.sp 1 (AV.int IntKind.i64 y0 :: Env.sp 3 (AV.int IntKind.i64 y1 :: Env.sp 1 (AV.ptr (some (y2, (0 : Nat))) :: Env.sp 3 (AV.slice y3 y4 y5 (4 : Nat) :: AV.int IntKind.i64 y6 :: AV.int IntKind.i64 y7 :: Env.sp 3 (AV.ptr (some (y8, (0 : Nat))) :: AV.int IntKind.i64 y9 :: AV.int IntKind.i64 y10 :: AV.bool y11 :: Env.sp 4 [])))))
def f32e10 (y0 : Int) (y1 : Int) (y2 : Option (Nat × Nat)) (y3 : Nat) (y4 : Option Nat) (y5 : Int) (y6 : Int) (y7 : Bool) : Env := Env.sp 1 (AV.int IntKind.i64 y0 :: Env.sp 3 (AV.int IntKind.i64 y1 :: Env.sp 5 (AV.slice y2 y3 y4 (4 : Nat) :: AV.int IntKind.i64 y5 :: AV.int IntKind.i64 y6 :: Env.sp 6 (AV.bool y7 :: Env.sp 4 []))))
def f32e11 (y0 : Int) (y1 : Int) (y2 : Option (Nat × Nat)) (y3 : Nat) (y4 : Option Nat) (y5 : Int) (y6 : Int) (y7 : Bool) (y8 : Int) (y9 : Int) : Env := Env.sp 1 (AV.int IntKind.i64 y0 :: Env.sp 3 (AV.int IntKind.i64 y1 :: Env.sp 5 (AV.slice y2 y3 y4 (4 : Nat) :: AV.int IntKind.i64 y5 :: AV.int IntKind.i64 y6 :: Env.sp 6 (AV.bool y7 :: AV.int IntKind.i64 y8 :: AV.int IntKind.i64 y9 :: Env.sp 2 []))))
def f32e12 (y0 : Int) (y1 : Int) (y2 : Option (Nat × Nat)) (y3 : Nat) (y4 : Option Nat) (y5 : Int) (y6 : Int) (y7 : Int) : Env := Env.sp 1 (AV.int IntKind.i64 y0 :: Env.sp 3 (AV.int IntKind.i64 y1 :: Env.sp 5 (AV.slice y2 y3 y4 (4 : Nat) :: AV.int IntKind.i64 y5 :: AV.int IntKind.i64 y6 :: Env.sp 9 (AV.int IntKind.i64 y7 :: Env.sp 1 []))))
def f32e13 (y0 : Int) (y1 : Int) (y2 : Int) : Env := Env.sp 4 (AV.int IntKind.i64 y0 :: AV.int IntKind.i64 y1 :: Env.sp 18 (AV.int IntKind.i64 y2 :: []))
def f32e14 (y0 : Int) : Env := Env.sp 4 (AV.int IntKind.i64 y0 :: Env.sp 20 [])

/- function 32 -/
theorem f32_eq {R : Type} (call : CallF R) (N : Nat) (y0 : Option (Nat × Nat)) (y1 : Int) (σ : St) (K : AV → St → Option R) :
    bodyK Try.prog call N ann 32 [AV.ptr y0, AV.int IntKind.i64 y1] σ K = runK Try.prog call N f32c0 f32a0 (bodyC Try.prog f32rs K) (f32e0 y0 y1) σ := bodyK_of (fn := ((Try.prog.funcs[32]?).get rfl)) (by kernel_rfl) (by kernel_rfl) (by kernel_rfl) (by kernel_rfl) (by kernel_rfl) (by kernel_rfl)
theorem f32n0 {R : Type} (call : CallF R) (N : Nat) (J : KF R) (e : Env) (σ : St) : runK Try.prog call N f32c0 f32a0 J e σ = runK Try.prog call N f32c1 f32a1 (seqC (fun K e σ => runK Try.prog call N f32c2 f32a2 K e σ) f32a0 J) e σ := runK_seq' (by kernel_rfl) (by kernel_rfl) (by kernel_rfl)
theorem f32r1_f32e0 {R : Type} (call : CallF R) (N : Nat) (y0 : Option (Nat × Nat)) (y1 : Int) (J : KF R) (σ : St) :
    runK Try.prog call N f32c1 f32a1 J (f32e0 y0 y1) σ =
J Ex.normal (f32e1 y0 y1 (0 : Int)) σ := hide (by kernel_rfl)
theorem f32z0_f32e1 (y0 : Option (Nat × Nat)) (y1 : Int) (y2 : Int) : Ann.clr f32a0 (f32e1 y0 y1 y2) = f32e0 y0 y1 := hide (by kernel_rfl)
theorem f32n2 {R : Type} (call : CallF R) (N : Nat) (J : KF R) (e : Env) (σ : St) : runK Try.prog call N f32c2 f32a2 J e σ = runK Try.prog call N f32c3 f32a3 (seqC (fun K e σ => runK Try.prog call N f32c4 f32a4 K e σ) f32a2 J) e σ := runK_seq' (by kernel_rfl) (by kernel_rfl) (by kernel_rfl)
theorem f32r3_f32e0 {R : Type} (call : CallF R) (N : Nat) (y0 : Option (Nat × Nat)) (y1 : Int) (J : KF R) (σ : St) :
    runK Try.prog call N f32c3 f32a3 J (f32e0 y0 y1) σ =
J Ex.normal (f32e2 y0 y1 (0 : Int)) σ := hide (by kernel_rfl)
theorem f32z2_f32e2 (y0 : Option (Nat × Nat)) (y1 : Int) (y2 : Int) : Ann.clr f32a2 (f32e2 y0 y1 y2) = f32e2 y0 y1 y2 := hide (by kernel_rfl)
theorem f32n4 {R : Type} (call : CallF R) (N : Nat) (J : KF R) (e : Env) (σ : St) : runK Try.prog call N f32c4 f32a4 J e σ = runK Try.prog call N f32c5 f32a5 (seqC (fun K e σ => runK Try.prog call N f32c6 f32a6 K e σ) f32a4 J) e σ := runK_seq' (by kernel_rfl) (by kernel_rfl) (by kernel_rfl)
theorem f32n5 {R : Type} (call : CallF R) (N : Nat) (J : KF R) (e : Env) (σ : St) : runK Try.prog call N f32c5 f32a5 J e σ = runK Try.prog call N f32c7 f32a7 (seqC (fun K e σ => runK Try.prog call N f32c8 f32a8 K e σ) f32a5 J) e σ := runK_seq' (by kernel_rfl) (by kernel_rfl) (by kernel_rfl)
theorem f32r7_f32e2 {R : Type} (call : CallF R) (N : Nat) (y0 : Option (Nat × Nat)) (y1 : Int) (y2 : Int) (J : KF R) (σ : St) :
    runK Try.prog call N f32c7 f32a7 J (f32e2 y0 y1 y2) σ =
Option.bind y0 fun v0 =>
  Option.bind (St.ld σ (Prod.fst v0) (Prod.snd v0 + (3 : Nat))) fun v1 =>
    Option.bind (AV.toSl (4 : Nat) v1) fun v2 =>
      J Ex.normal
        (f32e3 y0 y1 y2 y0 (some v0) (some (Prod.fst v0, Prod.snd v0 + (3 : Nat))) (Sl.o v2) (Sl.len v2) (Sl.cap v2) (↑(Sl.len v2) : Int) (0 : Int)) σ := hide (by kernel_rfl)
theorem f32z5_f32e3 (y0 : Option (Nat × Nat)) (y1 : Int) (y2 : Int) (y3 : Option (Nat × Nat)) (y4 : Option (Nat × Nat)) (y5 : Option (Nat × Nat)) (y6 : Option (Nat × Nat)) (y7 : Nat) (y8 : Option Nat) (y9 : Int) (y10 : Int) : Ann.clr f32a5 (f32e3 y0 y1 y2 y3 y4 y5 y6 y7 y8 y9 y10) = f32e4 y1 y2 y6 y7 y8 y9 y10 := hide (by kernel_rfl)
theorem f32n8 {R : Type} (call : CallF R) (N : Nat) (J : KF R) (e : Env) (σ : St) : runK Try.prog call N f32c8 f32a8 J e σ = runK Try.prog call N f32c9 f32a9 (blockC 0 f32a8 J) e σ := runK_block' (by kernel_rfl) (by kernel_rfl)
theorem f32L9_eq {R : Type} (call : CallF R) (N : Nat) (J : KF R) (e : Env) (σ : St) : f32L9 call N J e σ = runK Try.prog call N f32c10 f32a10 J e σ := hide rfl
theorem f32z9_f32e4 (y0 : Int) (y1 : Int) (y2 : Option (Nat × Nat)) (y3 : Nat) (y4 : Option Nat) (y5 : Int) (y6 : Int) : Ann.clr f32a9 (f32e4 y0 y1 y2 y3 y4 y5 y6) = f32e4 y0 y1 y2 y3 y4 y5 y6 := hide (by kernel_rfl)
theorem f32l9_f32e4 {R : Type} (call : CallF R) (N : Nat) (y0 : Int) (y1 : Int) (y2 : Option (Nat × Nat)) (y3 : Nat) (y4 : Option Nat) (y5 : Int) (y6 : Int) (J : KF R) (σ : St) : runK Try.prog call N f32c9 f32a9 J (f32e4 y0 y1 y2 y3 y4 y5 y6) σ = loopK (f32L9 call N) f32a9 N J (f32e4 y0 y1 y2 y3 y4 y5 y6) σ := runK_loop' (by kernel_rfl) (by kernel_rfl) (by kernel_rfl)
theorem f32n10 {R : Type} (call : CallF R) (N : Nat) (J : KF R) (e : Env) (σ : St) : runK Try.prog call N f32c10 f32a10 J e σ = runK Try.prog call N f32c11 f32a11 (seqC (fun K e σ => runK Try.prog call N f32c12 f32a12 K e σ) f32a10 J) e σ := runK_seq' (by kernel_rfl) (by kernel_rfl) (by kernel_rfl)
theorem f32r11_f32e4 {R : Type} (call : CallF R) (N : Nat) (y0 : Int) (y1 : Int) (y2 : Option (Nat × Nat)) (y3 : Nat) (y4 : Option Nat) (y5 : Int) (y6 : Int) (J : KF R) (σ : St) :
    runK Try.prog call N f32c11 f32a11 J (f32e4 y0 y1 y2 y3 y4 y5 y6) σ =
J Ex.normal (f32e5 y0 y1 y2 y3 y4 y5 y6 (decide (y6 < y5))) σ := hide (by kernel_rfl)
theorem f32z10_f32e5 (y0 : Int) (y1 : Int) (y2 : Option (Nat × Nat)) (y3 : Nat) (y4 : Option Nat) (y5 : Int) (y6 : Int) (y7 : Bool) : Ann.clr f32a10 (f32e5 y0 y1 y2 y3 y4 y5 y6 y7) = f32e5 y0 y1 y2 y3 y4 y5 y6 y7 := hide (by kernel_rfl)
theorem f32n12 {R : Type} (call : CallF R) (N : Nat) (J : KF R) (e : Env) (σ : St) : runK Try.prog call N f32c12 f32a12 J e σ = runK Try.prog call N f32c13 f32a13 (seqC (fun K e σ => runK Try.prog call N f32c14 f32a14 K e σ) f32a12 J) e σ := runK_seq' (by kernel_rfl) (by kernel_rfl) (by kernel_rfl)
theorem f32x13_f32e5 {R : Type} (call : CallF R) (N : Nat) (y0 : Int) (y1 : Int) (y2 : Option (Nat × Nat)) (y3 : Nat) (y4 : Option Nat) (y5 : Int) (y6 : Int) (y7 : Bool) (J : KF R) (σ : St) : runK Try.prog call N f32c13 f32a13 J (f32e5 y0 y1 y2 y3 y4 y5 y6 y7) σ = if y7 = true then runK Try.prog call N f32c15 f32a15 (condC f32a13 J) (f32e5 y0 y1 y2 y3 y4 y5 y6 y7) σ else runK Try.prog call N f32c16 f32a16 (condC f32a13 J) (f32e5 y0 y1 y2 y3 y4 y5 y6 y7) σ := runK_cond' (o := Operand.tmp (14 : Nat)) (by kernel_rfl) (by kernel_rfl) (by kernel_rfl) (by kernel_rfl)
theorem f32n15 {R : Type} (call : CallF R) (N : Nat) (J : KF R) (e : Env) (σ : St) : runK Try.prog call N f32c15 f32a15 J e σ = J .normal e σ := runK_skip' (by kernel_rfl)
theorem f32z13_f32e5 (y0 : Int) (y1 : Int) (y2 : Option (Nat × Nat)) (y3 : Nat) (y4 : Option Nat) (y5 : Int) (y6 : Int) (y7 : Bool) : Ann.clr f32a13 (f32e5 y0 y1 y2 y3 y4 y5 y6 y7) = f32e4 y0 y1 y2 y3 y4 y5 y6 := hide (by kernel_rfl)
theorem f32y16_f32e5 {R : Type} (call : CallF R) (N : Nat) (y0 : Int) (y1 : Int) (y2 : Option (Nat × Nat)) (y3 : Nat) (y4 : Option Nat) (y5 : Int) (y6 : Int) (y7 : Bool) (J : KF R) (σ : St) : runK Try.prog call N f32c16 f32a16 J (f32e5 y0 y1 y2 y3 y4 y5 y6 y7) σ = J (.exit 0) (f32e6 y1) σ := runK_exit' (by kernel_rfl) (by kernel_rfl)
theorem f32z12_f32e4 (y0 : Int) (y1 : Int) (y2 : Option (Nat × Nat)) (y3 : Nat) (y4 : Option Nat) (y5 : Int) (y6 : Int) : Ann.clr f32a12 (f32e4 y0 y1 y2 y3 y4 y5 y6) = f32e4 y0 y1 y2 y3 y4 y5 y6 := hide (by kernel_rfl)
theorem f32n14 {R : Type} (call : CallF R) (N : Nat) (J : KF R) (e : Env) (σ : St) : runK Try.prog call N f32c14 f32a14 J e σ = runK Try.prog call N f32c17 f32a17 (seqC (fun K e σ => runK Try.prog call N f32c18 f32a18 K e σ) f32a14 J) e σ := runK_seq' (by kernel_rfl) (by kernel_rfl) (by kernel_rfl)
theorem f32n17 {R : Type} (call : CallF R) (N : Nat) (J : KF R) (e : Env) (σ : St) : runK Try.prog call N f32c17 f32a17 J e σ = runK Try.prog call N f32c19 f32a19 (blockC 1 f32a17 J) e σ := runK_block' (by kernel_rfl) (by kernel_rfl)
theorem f32n19 {R : Type} (call : CallF R) (N : Nat) (J : KF R) (e : Env) (σ : St) : runK Try.prog call N f32c19 f32a19 J e σ = runK Try.prog call N f32c20 f32a20 (seqC (fun K e σ => runK Try.prog call N f32c21 f32a21 K e σ) f32a19 J) e σ := runK_seq' (by kernel_rfl) (by kernel_rfl) (by kernel_rfl)
theorem f32r20_f32e4 {R : Type} (call : CallF R) (N : Nat) (y0 : Int) (y1 : Int) (y2 : Option (Nat × Nat)) (y3 : Nat) (y4 : Option Nat) (y5 : Int) (y6 : Int) (J : KF R) (σ : St) :
    runK Try.prog call N f32c20 f32a20 J (f32e4 y0 y1 y2 y3 y4 y5 y6) σ =
if (0 : Int) ≤ y6 ∧ y6 < (↑y3 : Int) then
  Option.bind y2 fun v0 =>
    Option.bind (St.ld σ (Prod.fst v0) (Prod.snd v0 + Int.toNat y6 * (4 : Nat))) fun v1 =>
      Option.bind (AV.toInt IntKind.i64 v1) fun v2 =>
        Option.bind (St.ld σ (Prod.fst v0) (Prod.snd v0 + Int.toNat y6 * (4 : Nat) + (1 : Nat))) fun v3 =>
          Option.bind (AV.toInt IntKind.i64 v3) fun v4 =>
            Option.bind (St.ld σ (Prod.fst v0) (Prod.snd v0 + Int.toNat y6 * (4 : Nat) + (2 : Nat))) fun v5 =>
              Option.bind (AV.toStr v5) fun v6 =>
                Option.bind (St.ld σ (Prod.fst v0) (Prod.snd v0 + Int.toNat y6 * (4 : Nat) + (3 : Nat))) fun v7 =>
                  Option.bind (AV.toStr v7) fun v8 =>
                    Option.bind
                      (St.st
                        (St.new σ
                          (Blk.cells
                            [AV.int IntKind.i64 (0 : Int), AV.int IntKind.i64 (0 : Int), AV.str (ByteArray.mk #[]), AV.str (ByteArray.mk #[])] true))
                        (St.next σ) (0 : Nat) [AV.int IntKind.i64 v2, AV.int IntKind.i64 v4, AV.str v6, AV.str v8])
                      fun v9 =>
                      J Ex.normal (f32e7 y0 y1 (St.next σ) y2 y3 y4 y5 y6 (some (Prod.fst v0, Prod.snd v0 + Int.toNat y6 * (4 : Nat))) v2 v4 v6 v8) v9
else none := hide (by kernel_rfl)
theorem f32z19_f32e7 (y0 : Int) (y1 : Int) (y2 : Nat) (y3 : Option (Nat × Nat)) (y4 : Nat) (y5 : Option Nat) (y6 : Int) (y7 : Int) (y8 : Option (Nat × Nat)) (y9 : Int) (y10 : Int) (y11 : ByteArray) (y12 : ByteArray) : Ann.clr f32a19 (f32e7 y0 y1 y2 y3 y4 y5 y6 y7 y8 y9 y10 y11 y12) = f32e8 y0 y1 y2 y3 y4 y5 y6 y7 := hide (by kernel_rfl)
theorem f32n21 {R : Type} (call : CallF R) (N : Nat) (J : KF R) (e : Env) (σ : St) : runK Try.prog call N f32c21 f32a21 J e σ = runK Try.prog call N f32c22 f32a22 (seqC (fun K e σ => runK Try.prog call N f32c23 f32a23 K e σ) f32a21 J) e σ := runK_seq' (by kernel_rfl) (by kernel_rfl) (by kernel_rfl)
theorem f32r22_f32e8 {R : Type} (call : CallF R) (N : Nat) (y0 : Int) (y1 : Int) (y2 : Nat) (y3 : Option (Nat × Nat)) (y4 : Nat) (y5 : Option Nat) (y6 : Int) (y7 : Int) (J : KF R) (σ : St) :
    runK Try.prog call N f32c22 f32a22 J (f32e8 y0 y1 y2 y3 y4 y5 y6 y7) σ =
Option.bind (St.ld σ y2 (0 : Nat)) fun v0 =>
  Option.bind (AV.toInt IntKind.i64 v0) fun v1 => J Ex.normal (f32e9 y0 y1 y2 y3 y4 y5 y6 y7 y2 v1 y0 (v1 == y0)) σ := hide (by kernel_rfl)
theorem f32z21_f32e9 (y0 : Int) (y1 : Int) (y2 : Nat) (y3 : Option (Nat × Nat)) (y4 : Nat) (y5 : Option Nat) (y6 : Int) (y7 : Int) (y8 : Nat) (y9 : Int) (y10 : Int) (y11 : Bool) : Ann.clr f32a21 (f32e9 y0 y1 y2 y3 y4 y5 y6 y7 y8 y9 y10 y11) = f32e10 y0 y1 y3 y4 y5 y6 y7 y11 := hide (by kernel_rfl)
theorem f32x23_f32e10 {R : Type} (call : CallF R) (N : Nat) (y0 : Int) (y1 : Int) (y2 : Option (Nat × Nat)) (y3 : Nat) (y4 : Option Nat) (y5 : Int) (y6 : Int) (y7 : Bool) (J : KF R) (σ : St) : runK Try.prog call N f32c23 f32a23 J (f32e10 y0 y1 y2 y3 y4 y5 y6 y7) σ = if y7 = true then runK Try.prog call N f32c24 f32a24 (condC f32a23 J) (f32e10 y0 y1 y2 y3 y4 y5 y6 y7) σ else runK Try.prog call N f32c25 f32a25 (condC f32a23 J) (f32e10 y0 y1 y2 y3 y4 y5 y6 y7) σ := runK_cond' (o := Operand.tmp (20 : Nat)) (by kernel_rfl) (by kernel_rfl) (by kernel_rfl) (by kernel_rfl)
theorem f32r24_f32e10 {R : Type} (call : CallF R) (N : Nat) (y0 : Int) (y1 : Int) (y2 : Option (Nat × Nat)) (y3 : Nat) (y4 : Option Nat) (y5 : Int) (y6 : Int) (y7 : Bool) (J : KF R) (σ : St) :
    runK Try.prog call N f32c24 f32a24 J (f32e10 y0 y1 y2 y3 y4 y5 y6 y7) σ =
J Ex.normal (f32e11 y0 (IntKind.wrap IntKind.i64 (y1 + (1 : Int))) y2 y3 y4 y5 y6 y7 y1 (IntKind.wrap IntKind.i64 (y1 + (1 : Int)))) σ := hide (by kernel_rfl)
theorem f32z23_f32e11 (y0 : Int) (y1 : Int) (y2 : Option (Nat × Nat)) (y3 : Nat) (y4 : Option Nat) (y5 : Int) (y6 : Int) (y7 : Bool) (y8 : Int) (y9 : Int) : Ann.clr f32a23 (f32e11 y0 y1 y2 y3 y4 y5 y6 y7 y8 y9) = f32e4 y0 y1 y2 y3 y4 y5 y6 := hide (by kernel_rfl)
theorem f32n25 {R : Type} (call : CallF R) (N : Nat) (J : KF R) (e : Env) (σ : St) : runK Try.prog call N f32c25 f32a25 J e σ = J .normal e σ := runK_skip' (by kernel_rfl)
theorem f32z23_f32e10 (y0 : Int) (y1 : Int) (y2 : Option (Nat × Nat)) (y3 : Nat) (y4 : Option Nat) (y5 : Int) (y6 : Int) (y7 : Bool) : Ann.clr f32a23 (f32e10 y0 y1 y2 y3 y4 y5 y6 y7) = f32e4 y0 y1 y2 y3 y4 y5 y6 := hide (by kernel_rfl)
theorem f32z17_f32e4 (y0 : Int) (y1 : Int) (y2 : Option (Nat × Nat)) (y3 : Nat) (y4 : Option Nat) (y5 : Int) (y6 : Int) : Ann.clr f32a17 (f32e4 y0 y1 y2 y3 y4 y5 y6) = f32e4 y0 y1 y2 y3 y4 y5 y6 := hide (by kernel_rfl)
theorem f32z14_f32e4 (y0 : Int) (y1 : Int) (y2 : Option (Nat × Nat)) (y3 : Nat) (y4 : Option Nat) (y5 : Int) (y6 : Int) : Ann.clr f32a14 (f32e4 y0 y1 y2 y3 y4 y5 y6) = f32e4 y0 y1 y2 y3 y4 y5 y6 := hide (by kernel_rfl)
theorem f32r18_f32e4 {R : Type} (call : CallF R) (N : Nat) (y0 : Int) (y1 : Int) (y2 : Option (Nat × Nat)) (y3 : Nat) (y4 : Option Nat) (y5 : Int) (y6 : Int) (J : KF R) (σ : St) :
    runK Try.prog call N f32c18 f32a18 J (f32e4 y0 y1 y2 y3 y4 y5 y6) σ =
J Ex.normal (f32e12 y0 y1 y2 y3 y4 y5 (IntKind.wrap IntKind.i64 (y6 + (1 : Int))) (IntKind.wrap IntKind.i64 (y6 + (1 : Int)))) σ := hide (by kernel_rfl)
theorem f32z9_f32e12 (y0 : Int) (y1 : Int) (y2 : Option (Nat × Nat)) (y3 : Nat) (y4 : Option Nat) (y5 : Int) (y6 : Int) (y7 : Int) : Ann.clr f32a9 (f32e12 y0 y1 y2 y3 y4 y5 y6 y7) = f32e4 y0 y1 y2 y3 y4 y5 y6 := hide (by kernel_rfl)
theorem f32z8_f32e6 (y0 : Int) : Ann.clr f32a8 (f32e6 y0) = f32e6 y0 := hide (by kernel_rfl)
theorem f32z4_f32e6 (y0 : Int) : Ann.clr f32a4 (f32e6 y0) = f32e6 y0 := hide (by kernel_rfl)
theorem f32n6 {R : Type} (call : CallF R) (N : Nat) (J : KF R) (e : Env) (σ : St) : runK Try.prog call N f32c6 f32a6 J e σ = runK Try.prog call N f32c26 f32a26 (seqC (fun K e σ => runK Try.prog call N f32c27 f32a27 K e σ) f32a6 J) e σ := runK_seq' (by kernel_rfl) (by kernel_rfl) (by kernel_rfl)
theorem f32r26_f32e6 {R : Type} (call : CallF R) (N : Nat) (y0 : Int) (J : KF R) (σ : St) :
    runK Try.prog call N f32c26 f32a26 J (f32e6 y0) σ =
J Ex.normal (f32e13 y0 y0 y0) σ := hide (by kernel_rfl)
theorem f32z6_f32e13 (y0 : Int) (y1 : Int) (y2 : Int) : Ann.clr f32a6 (f32e13 y0 y1 y2) = f32e14 y0 := hide (by kernel_rfl)
theorem f32y27_f32e14 {R : Type} (call : CallF R) (N : Nat) (y0 : Int) (J : KF R) (σ : St) : runK Try.prog call N f32c27 f32a27 J (f32e14 y0) σ = J .ret (f32e14 y0) σ := runK_ret' (by kernel_rfl) (by kernel_rfl)
theorem f32b_f32e14_r {R : Type} (y0 : Int) (σ : St) (K : AV → St → Option R) : bodyC Try.prog f32rs K (Ex.ret) (f32e14 y0) σ =
K (AV.int IntKind.i64 y0) σ := hide (by kernel_rfl)
attribute [go_sem] f32_eq f32n0 f32r1_f32e0 f32z0_f32e1 f32n2 f32r3_f32e0 f32z2_f32e2 f32n4 f32n5 f32r7_f32e2 f32z5_f32e3 f32n8 f32L9_eq f32z9_f32e4 f32l9_f32e4 f32n10 f32r11_f32e4 f32z10_f32e5 f32n12 f32x13_f32e5 f32n15 f32z13_f32e5 f32y16_f32e5 f32z12_f32e4 f32n14 f32n17 f32n19 f32r20_f32e4 f32z19_f32e7 f32n21 f32r22_f32e8 f32z21_f32e9 f32x23_f32e10 f32r24_f32e10 f32z23_f32e11 f32n25 f32z23_f32e10 f32z17_f32e4 f32z14_f32e4 f32r18_f32e4 f32z9_f32e12 f32z8_f32e6 f32z4_f32e6 f32n6 f32r26_f32e6 f32z6_f32e13 f32y27_f32e14 f32b_f32e14_r

noncomputable def f49rs : List ResultVar := [ResultVar.cell (6 : Nat) (67 : Nat)]
noncomputable def f49c0 : Code := subCode [] (bodyOf Try.prog 49)
def f49a0 : Ann := subAnn [] ann49
noncomputable def f49c1 : Code := subCode [0] (bodyOf Try.prog 49)
def f49a1 : Ann := subAnn [0] ann49
noncomputable def f49c2 : Code := subCode [1] (bodyOf Try.prog 49)
def f49a2 : Ann := subAnn [1] ann49
noncomputable def f49c3 : Code := subCode [1, 0] (bodyOf Try.prog 49)
def f49a3 : Ann := subAnn [1, 0] ann49
noncomputable def f49c4 : Code := subCode [1, 1] (bodyOf Try.prog 49)
def f49a4 : Ann := subAnn [1, 1] ann49
noncomputable def f49c5 : Code := subCode [1, 1, 0] (bodyOf Try.prog 49)
def f49a5 : Ann := subAnn [1, 1, 0] ann49
noncomputable def f49c6 : Code := subCode [1, 1, 1] (bodyOf Try.prog 49)
def f49a6 : Ann := subAnn [1, 1, 1] ann49
noncomputable def f49c7 : Code := subCode [1, 1, 0, 0] (bodyOf Try.prog 49)
def f49a7 : Ann := subAnn [1, 1, 0, 0] ann49
noncomputable def f49c8 : Code := subCode [1, 1, 0, 1] (bodyOf Try.prog 49)
def f49a8 : Ann := subAnn [1, 1, 0, 1] ann49
noncomputable def f49c9 : Code := subCode [1, 1, 0, 1, 0] (bodyOf Try.prog 49)
def f49a9 : Ann := subAnn [1, 1, 0, 1, 0] ann49
noncomputable def f49c10 : Code := subCode [1, 1, 0, 1, 0, 0] (bodyOf Try.prog 49)
def f49a10 : Ann := subAnn [1, 1, 0, 1, 0, 0] ann49
noncomputable def f49c11 : Code := subCode [1, 1, 0, 1, 0, 0, 0] (bodyOf Try.prog 49)
def f49a11 : Ann := subAnn [1, 1, 0, 1, 0, 0, 0] ann49
noncomputable def f49c12 : Code := subCode [1, 1, 0, 1, 0, 0, 1] (bodyOf Try.prog 49)
def f49a12 : Ann := subAnn [1, 1, 0, 1, 0, 0, 1] ann49
noncomputable def f49c13 : Code := subCode [1, 1, 0, 1, 0, 0, 0, 0] (bodyOf Try.prog 49)
def f49a13 : Ann := subAnn [1, 1, 0, 1, 0, 0, 0, 0] ann49
noncomputable def f49c14 : Code := subCode [1, 1, 0, 1, 0, 0, 0, 1] (bodyOf Try.prog 49)
def f49a14 : Ann := subAnn [1, 1, 0, 1, 0, 0, 0, 1] ann49
noncomputable def f49c15 : Code := subCode [1, 1, 0, 1, 0, 0, 0, 1, 0] (bodyOf Try.prog 49)
def f49a15 : Ann := subAnn [1, 1, 0, 1, 0, 0, 0, 1, 0] ann49
noncomputable def f49c16 : Code := subCode [1, 1, 0, 1, 0, 0, 0, 1, 1] (bodyOf Try.prog 49)
def f49a16 : Ann := subAnn [1, 1, 0, 1, 0, 0, 0, 1, 1] ann49
noncomputable def f49c17 : Code := subCode [1, 1, 0, 1, 0, 0, 1, 0] (bodyOf Try.prog 49)
def f49a17 : Ann := subAnn [1, 1, 0, 1, 0, 0, 1, 0] ann49
noncomputable def f49c18 : Code := subCode [1, 1, 0, 1, 0, 0, 1, 1] (bodyOf Try.prog 49)
def f49a18 : Ann := subAnn [1, 1, 0, 1, 0, 0, 1, 1] ann49
noncomputable def f49c19 : Code := subCode [1, 1, 0, 1, 0, 0, 1, 0, 0] (bodyOf Try.prog 49)
def f49a19 : Ann := subAnn [1, 1, 0, 1, 0, 0, 1, 0, 0] ann49
noncomputable def f49c20 : Code := subCode [1, 1, 0, 1, 0, 0, 1, 0, 0, 0] (bodyOf Try.prog 49)
def f49a20 : Ann := subAnn [1, 1, 0, 1, 0, 0, 1, 0, 0, 0] ann49
noncomputable def f49c21 : Code := subCode [1, 1, 0, 1, 0, 0, 1, 0, 0, 1] (bodyOf Try.prog 49)
def f49a21 : Ann := subAnn [1, 1, 0, 1, 0, 0, 1, 0, 0, 1] ann49
noncomputable def f49c22 : Code := subCode [1, 1, 0, 1, 0, 0, 1, 0, 0, 1, 0] (bodyOf Try.prog 49)
def f49a22 : Ann := subAnn [1, 1, 0, 1, 0, 0, 1, 0, 0, 1, 0] ann49
noncomputable def f49c23 : Code := subCode [1, 1, 0, 1, 0, 0, 1, 0, 0, 1, 1] (bodyOf Try.prog 49)
def f49a23 : Ann := subAnn [1, 1, 0, 1, 0, 0, 1, 0, 0, 1, 1] ann49
noncomputable def f49c24 : Code := subCode [1, 1, 0, 1, 0, 0, 1, 0, 0, 1, 1, 0] (bodyOf Try.prog 49)
def f49a24 : Ann := subAnn [1, 1, 0, 1, 0, 0, 1, 0, 0, 1, 1, 0] ann49
noncomputable def f49c25 : Code := subCode [1, 1, 0, 1, 0, 0, 1, 0, 0, 1, 1, 1] (bodyOf Try.prog 49)
def f49a25 : Ann := subAnn [1, 1, 0, 1, 0, 0, 1, 0, 0, 1, 1, 1] ann49
noncomputable def f49c26 : Code := subCode [1, 1, 1, 0] (bodyOf Try.prog 49)
def f49a26 : Ann := subAnn [1, 1, 1, 0] ann49
noncomputable def f49c27 : Code := subCode [1, 1, 1, 1] (bodyOf Try.prog 49)
def f49a27 : Ann := subAnn [1, 1, 1, 1] ann49
noncomputable def f49L9 {R : Type} (call : CallF R) (N : Nat) : KF R → Env → St → Option R := fun K e σ => runK Try.prog call N f49c10 f49a10 K e σ
def f49e0 (y0 : Option (Nat × Nat)) (y1 : Int) (y2 : ByteArray) : Env := AV.ptr y0 :: AV.int IntKind.i64 y1 :: AV.str y2 :: Env.sp 47 []
def f49e1 (y0 : Option (Nat × Nat)) (y1 : Int) (y2 : ByteArray) (y3 : Nat) : Env := AV.ptr y0 :: AV.int IntKind.i64 y1 :: AV.str y2 :: Env.sp 3 (AV.ptr (some (y3, (0 : Nat))) :: Env.sp 43 [])
def f49e2 (y0 : Option (Nat × Nat)) (y1 : Int) (y2 : ByteArray) (y3 : Nat) (y4 : Nat) (y5 : ByteArray) (y6 : Option (Nat × Nat)) (y7 : Option (Nat × Nat)) (y8 : Option (Nat × Nat)) (y9 : Int) (y10 : ByteArray) (y11 : Int) (y12 : Option (Nat × Nat)) (y13 : Nat) (y14 : Option Nat) : Env := AV.ptr y0 :: AV.int IntKind.i64 y1 :: AV.str y2 :: Env.sp 3 (AV.ptr (some (y3, (0 : Nat))) :: AV.ptr (some (y4, (0 : Nat))) :: Env.sp 3 (AV.str y5 :: AV.ptr y6 :: AV.ptr y7 :: AV.ptr y8 :: AV.int IntKind.i64 y9 :: AV.agg [AV.str y10, AV.int IntKind.i64 y11, AV.slice y12 y13 y14 (2 : Nat)] :: Env.sp 33 []))
def f49e3 (y0 : Option (Nat × Nat)) (y1 : Int) (y2 : ByteArray) (y3 : Nat) (y4 : Nat) : Env := AV.ptr y0 :: AV.int IntKind.i64 y1 :: AV.str y2 :: Env.sp 3 (AV.ptr (some (y3, (0 : Nat))) :: AV.ptr (some (y4, (0 : Nat))) :: Env.sp 42 [])
def f49e4 (y0 : Option (Nat × Nat)) (y1 : Int) (y2 : ByteArray) (y3 : Nat) (y4 : Nat) (y5 : Int) : Env := AV.ptr y0 :: AV.int IntKind.i64 y1 :: AV.str y2 :: Env.sp 3 (AV.ptr (some (y3, (0 : Nat))) :: AV.ptr (some (y4, (0 : Nat))) :: AV.int IntKind.i64 y5 :: Env.sp 41 [])
def f49e5 (y0 : Option (Nat × Nat)) (y1 : Int) (y2 : ByteArray) (y3 : Nat) (y4 : Nat) (y5 : Int) (y6 : Int) (y7 : Option (Nat × Nat)) (y8 : Option (Nat × Nat)) (y9 : Option (Nat × Nat)) (y10 : Int) (y11 : Int) (y12 : Bool) : Env := AV.ptr y0 :: AV.int IntKind.i64 y1 :: AV.str y2 :: Env.sp 3 (AV.ptr (some (y3, (0 : Nat))) :: AV.ptr (some (y4, (0 : Nat))) :: AV.int IntKind.i64 y5 :: Env.sp 8 (AV.int IntKind.i64 y6 :: AV.ptr y7 :: AV.ptr y8 :: AV.ptr y9 :: AV.int IntKind.i64 y10 :: AV.int IntKind.i64 y11 :: AV.bool y12 :: Env.sp 26 []))
def f49e6 (y0 : Option (Nat × Nat)) (y1 : Int) (y2 : ByteArray) (y3 : Nat) (y4 : Nat) (y5 : Int) (y6 : Bool) : Env := AV.ptr y0 :: AV.int IntKind.i64 y1 :: AV.str y2 :: Env.sp 3 (AV.ptr (some (y3, (0 : Nat))) :: AV.ptr (some (y4, (0 : Nat))) :: AV.int IntKind.i64 y5 :: Env.sp 14 (AV.bool y6 :: Env.sp 26 []))
def f49e7 (y0 : Nat) (y1 : Nat) : Env := Env.sp 6 (AV.ptr (some (y0, (0 : Nat))) :: AV.ptr (some (y1, (0 : Nat))) :: Env.sp 42 [])
def f49e8 (y0 : Option (Nat × Nat)) (y1 : Int) (y2 : ByteArray) (y3 : Nat) (y4 : Nat) (y5 : Int) (y6 : Nat) (y7 : Bool) (y8 : Int) (y9 : Int) (y10 : ByteArray) (y11 : ByteArray) (y12 : Bool) (y13 : Option (Nat × Nat)) (y14 : Int) (y15 : Int) (y16 : Int) (y17 : Int) (y18 : ByteArray) (y19 : ByteArray) (y20 : Bool) (y21 : Int) (y22 : Int) (y23 : ByteArray) (y24 : ByteArray) (y25 : Bool) : Env := AV.ptr y0 :: AV.int IntKind.i64 y1 :: AV.str y2 :: Env.sp 3 (AV.ptr (some (y3, (0 : Nat))) :: AV.ptr (some (y4, (0 : Nat))) :: AV.int IntKind.i64 y5 :: AV.ptr (some (y6, (0 : Nat))) :: AV.bool y7 :: Env.sp 15 (AV.tuple [AV.agg [AV.int IntKind.i64 y8, AV.int IntKind.i64 y9, AV.str y10, AV.str y11], AV.bool y12] :: AV.ptr y13 :: AV.int IntKind.i64 y14 :: AV.int IntKind.i64 y15 :: AV.tuple [AV.agg [AV.int IntKind.i64 y16, AV.int IntKind.i64 y17, AV.str y18, AV.str y19], AV.bool y20] :: AV.agg [AV.int IntKind.i64 y21, AV.int IntKind.i64 y22, AV.str y23, AV.str y24] :: AV.bool y25 :: Env.sp 17 []))
def f49e9 (y0 : Option (Nat × Nat)) (y1 : Int) (y2 : ByteArray) (y3 : Nat) (y4 : Nat) (y5 : Int) (y6 : Nat) (y7 : Bool) : Env := AV.ptr y0 :: AV.int IntKind.i64 y1 :: AV.str y2 :: Env.sp 3 (AV.ptr (some (y3, (0 : Nat))) :: AV.ptr (some (y4, (0 : Nat))) :: AV.int IntKind.i64 y5 :: AV.ptr (some (y6, (0 : Nat))) :: AV.bool y7 :: Env.sp 39 [])
def f49e10 (y0 : Option (Nat × Nat)) (y1 : Int) (y2 : ByteArray) (y3 : Nat) (y4 : Nat) (y5 : Int) (y6 : Nat) (y7 : Bool) (y8 : Bool) (y9 : Bool) (y10 : Nat) (y11 : ByteArray) (y12 : ByteArray) (y13 : Bool) (y14 : Bool) : Env := AV.ptr y0 :: AV.int IntKind.i64 y1 :: AV.str y2 :: Env.sp 3 (AV.ptr (some (y3, (0 : Nat))) :: AV.ptr (some (y4, (0 : Nat))) :: AV.int IntKind.i64 y5 :: AV.ptr (some (y6, (0 : Nat))) :: AV.bool y7 :: Env.sp 22 (AV.bool y8 :: AV.bool y9 :: AV.ptr (some (y10, (2 : Nat))) :: AV.str y11 :: AV.str y12 :: AV.bool y13 :: AV.bool y14 :: Env.sp 10 []))
def f49e11 (y0 : Option (Nat × Nat)) (y1 : Int) (y2 : ByteArray) (y3 : Nat) (y4 : Nat) (y5 : Int) (y6 : Nat) (y7 : Bool) (y8 : Bool) (y9 : Bool) (y10 : Bool) : Env := AV.ptr y0 :: AV.int IntKind.i64 y1 :: AV.str y2 :: Env.sp 3 (AV.ptr (some (y3, (0 : Nat))) :: AV.ptr (some (y4, (0 : Nat))) :: AV.int IntKind.i64 y5 :: AV.ptr (some (y6, (0 : Nat))) :: AV.bool y7 :: Env.sp 22 (AV.bool y8 :: AV.bool y9 :: AV.tuple [] :: AV.tuple [] :: AV.tuple [] :: AV.tuple [] :: AV.bool y10 :: Env.sp 10 []))
def f49e12 (y0 : Option (Nat × Nat)) (y1 : Int) (y2 : ByteArray) (y3 : Nat) (y4 : Nat) (y5 : Int) (y6 : Nat) (y7 : Bool) : Env := AV.ptr y0 :: AV.int IntKind.i64 y1 :: AV.str y2 :: Env.sp 3 (AV.ptr (some (y3, (0 : Nat))) :: AV.ptr (some (y4, (0 : Nat))) :: AV.int IntKind.i64 y5 :: AV.ptr (some (y6, (0 : Nat))) :: Env.sp 29 (AV.bool y7 :: Env.sp 10 []))
def f49e13 (y0 : Option (Nat × Nat)) (y1 : Int) (y2 : ByteArray) (y3 : Nat) (y4 : Nat) (y5 : Int) (y6 : Nat) (y7 : Bool) (y8 : Nat) (y9 : Option (Nat × Nat)) (y10 : Nat) (y11 : Option Nat) (y12 : Int) (y13 : Nat) (y14 : ByteArray) (y15 : Int) (y16 : ByteArray) (y17 : Option (Nat × Nat)) (y18 : Nat) (y19 : Option Nat) (y20 : Option (Nat × Nat)) (y21 : Nat) (y22 : Option Nat) (y23 : Nat) : Env := AV.ptr y0 :: AV.int IntKind.i64 y1 :: AV.str y2 :: Env.sp 3 (AV.ptr (some (y3, (0 : Nat))) :: AV.ptr (some (y4, (0 : Nat))) :: AV.int IntKind.i64 y5 :: AV.ptr (some (y6, (0 : Nat))) :: Env.sp 29 (AV.bool y7 :: AV.ptr (some (y8, (2 : Nat))) :: AV.slice y9 y10 y11 (2 : Nat) :: AV.int IntKind.i64 y12 :: AV.ptr (some (y13, (3 : Nat))) :: AV.str y14 :: AV.agg [AV.int IntKind.i64 y15, AV.str y16] :: AV.slice y17 y18 y19 (2 : Nat) :: AV.slice y20 y21 y22 (2 : Nat) :: AV.ptr (some (y23, (2 : Nat))) :: Env.sp 1 []))
def f49e14 (y0 : Option (Nat × Nat)) (y1 : Int) (y2 : ByteArray) (y3 : Nat) (y4 : Nat) (y5 : Int) (y6 : Int) (y7 : Int) : Env := AV.ptr y0 :: AV.int IntKind.i64 y1 :: AV.str y2 :: Env.sp 3 (AV.ptr (some (y3, (0 : Nat))) :: AV.ptr (some (y4, (0 : Nat))) :: AV.int IntKind.i64 y5 :: Env.sp 15 (AV.int IntKind.i64 y6 :: AV.int IntKind.i64 y7 :: Env.sp 24 []))
def f49e15 (y0 : Nat) (y1 : Nat) (y2 : ByteArray) (y3 : Int) (y4 : Option (Nat × Nat)) (y5 : Nat) (y6 : Option Nat) : Env := Env.sp 6 (AV.ptr (some (y0, (0 : Nat))) :: AV.ptr (some (y1, (0 : Nat))) :: Env.sp 41 (AV.agg [AV.str y2, AV.int IntKind.i64 y3, AV.slice y4 y5 y6 (2 : Nat)] :: []))
def f49e16 (y0 : Nat) : Env := Env.sp 6 (AV.ptr (some (y0, (0 : Nat))) :: Env.sp 43 [])

/- function 49 -/
theorem f49_eq {R : Type} (call : CallF R) (N : Nat) (y0 : Option (Nat × Nat)) (y1 : Int) (y2 : ByteArray) (σ : St) (K : AV → St → Option R) :
    bodyK Try.prog call N ann 49 [AV.ptr y0, AV.int IntKind.i64 y1, AV.str y2] σ K = runK Try.prog call N f49c0 f49a0 (bodyC Try.prog f49rs K) (f49e0 y0 y1 y2) σ := bodyK_of (fn := ((Try.prog.funcs[49]?).get rfl)) (by kernel_rfl) (by kernel_rfl) (by kernel_rfl) (by kernel_rfl) (by kernel_rfl) (by kernel_rfl)
theorem f49n0 {R : Type} (call : CallF R) (N : Nat) (J : KF R) (e : Env) (σ : St) : runK Try.prog call N f49c0 f49a0 J e σ = runK Try.prog call N f49c1 f49a1 (seqC (fun K e σ => runK Try.prog call N f49c2 f49a2 K e σ) f49a0 J) e σ := runK_seq' (by kernel_rfl) (by kernel_rfl) (by kernel_rfl)
theorem f49r1_f49e0 {R : Type} (call : CallF R) (N : Nat) (y0 : Option (Nat × Nat)) (y1 : Int) (y2 : ByteArray) (J : KF R) (σ : St) :
    runK Try.prog call N f49c1 f49a1 J (f49e0 y0 y1 y2) σ =
J Ex.normal (f49e1 y0 y1 y2 (St.next σ))
  (St.new σ (Blk.cells [AV.str (ByteArray.mk #[]), AV.int IntKind.i64 (0 : Int), AV.slice none (0 : Nat) (some (0 : Nat)) (2 : Nat)] true)) := hide (by kernel_rfl)
theorem f49z0_f49e1 (y0 : Option (Nat × Nat)) (y1 : Int) (y2 : ByteArray) (y3 : Nat) : Ann.clr f49a0 (f49e1 y0 y1 y2 y3) = f49e1 y0 y1 y2 y3 := hide (by kernel_rfl)
theorem f49n2 {R : Type} (call : CallF R) (N : Nat) (J : KF R) (e : Env) (σ : St) : runK Try.prog call N f49c2 f49a2 J e σ = runK Try.prog call N f49c3 f49a3 (seqC (fun K e σ => runK Try.prog call N f49c4 f49a4 K e σ) f49a2 J) e σ := runK_seq' (by kernel_rfl) (by kernel_rfl) (by kernel_rfl)
theorem f49r3_f49e1 {R : Type} (call : CallF R) (N : Nat) (y0 : Option (Nat × Nat)) (y1 : Int) (y2 : ByteArray) (y3 : Nat) (J : KF R) (σ : St) :
    runK Try.prog call N f49c3 f49a3 J (f49e1 y0 y1 y2 y3) σ =
Option.bind y0 fun v0 =>
  Option.bind (St.ld σ (Prod.fst v0) (Prod.snd v0)) fun v1 =>
    Option.bind (AV.toInt IntKind.i64 v1) fun v2 =>
      Option.bind
        (St.st
          (St.new σ (Blk.cells [AV.str (ByteArray.mk #[]), AV.int IntKind.i64 (0 : Int), AV.slice none (0 : Nat) (some (0 : Nat)) (2 : Nat)] true))
          (St.next σ) (0 : Nat) [AV.str y2, AV.int IntKind.i64 v2, AV.slice none (0 : Nat) (some (0 : Nat)) (2 : Nat)])
        fun v3 =>
        J Ex.normal (f49e2 y0 y1 y2 y3 (St.next σ) y2 y0 (some v0) (some (Prod.fst v0, Prod.snd v0)) v2 y2 v2 none (0 : Nat) (some (0 : Nat))) v3 := hide (by kernel_rfl)
theorem f49z2_f49e2 (y0 : Option (Nat × Nat)) (y1 : Int) (y2 : ByteArray) (y3 : Nat) (y4 : Nat) (y5 : ByteArray) (y6 : Option (Nat × Nat)) (y7 : Option (Nat × Nat)) (y8 : Option (Nat × Nat)) (y9 : Int) (y10 : ByteArray) (y11 : Int) (y12 : Option (Nat × Nat)) (y13 : Nat) (y14 : Option Nat) : Ann.clr f49a2 (f49e2 y0 y1 y2 y3 y4 y5 y6 y7 y8 y9 y10 y11 y12 y13 y14) = f49e3 y0 y1 y2 y3 y4 := hide (by kernel_rfl)
theorem f49n4 {R : Type} (call : CallF R) (N : Nat) (J : KF R) (e : Env) (σ : St) : runK Try.prog call N f49c4 f49a4 J e σ = runK Try.prog call N f49c5 f49a5 (seqC (fun K e σ => runK Try.prog call N f49c6 f49a6 K e σ) f49a4 J) e σ := runK_seq' (by kernel_rfl) (by kernel_rfl) (by kernel_rfl)
theorem f49n5 {R : Type} (call : CallF R) (N : Nat) (J : KF R) (e : Env) (σ : St) : runK Try.prog call N f49c5 f49a5 J e σ = runK Try.prog call N f49c7 f49a7 (seqC (fun K e σ => runK Try.prog call N f49c8 f49a8 K e σ) f49a5 J) e σ := runK_seq' (by kernel_rfl) (by kernel_rfl) (by kernel_rfl)
theorem f49r7_f49e3 {R : Type} (call : CallF R) (N : Nat) (y0 : Option (Nat × Nat)) (y1 : Int) (y2 : ByteArray) (y3 : Nat) (y4 : Nat) (J : KF R) (σ : St) :
    runK Try.prog call N f49c7 f49a7 J (f49e3 y0 y1 y2 y3 y4) σ =
J Ex.normal (f49e4 y0 y1 y2 y3 y4 (0 : Int)) σ := hide (by kernel_rfl)
theorem f49z5_f49e4 (y0 : Option (Nat × Nat)) (y1 : Int) (y2 : ByteArray) (y3 : Nat) (y4 : Nat) (y5 : Int) : Ann.clr f49a5 (f49e4 y0 y1 y2 y3 y4 y5) = f49e4 y0 y1 y2 y3 y4 y5 := hide (by kernel_rfl)
theorem f49n8 {R : Type} (call : CallF R) (N : Nat) (J : KF R) (e : Env) (σ : St) : runK Try.prog call N f49c8 f49a8 J e σ = runK Try.prog call N f49c9 f49a9 (blockC 0 f49a8 J) e σ := runK_block' (by kernel_rfl) (by kernel_rfl)
theorem f49L9_eq {R : Type} (call : CallF R) (N : Nat) (J : KF R) (e : Env) (σ : St) : f49L9 call N J e σ = runK Try.prog call N f49c10 f49a10 J e σ := hide rfl
theorem f49z9_f49e4 (y0 : Option (Nat × Nat)) (y1 : Int) (y2 : ByteArray) (y3 : Nat) (y4 : Nat) (y5 : Int) : Ann.clr f49a9 (f49e4 y0 y1 y2 y3 y4 y5) = f49e4 y0 y1 y2 y3 y4 y5 := hide (by kernel_rfl)
theorem f49l9_f49e4 {R : Type} (call : CallF R) (N : Nat) (y0 : Option (Nat × Nat)) (y1 : Int) (y2 : ByteArray) (y3 : Nat) (y4 : Nat) (y5 : Int) (J : KF R) (σ : St) : runK Try.prog call N f49c9 f49a9 J (f49e4 y0 y1 y2 y3 y4 y5) σ = loopK (f49L9 call N) f49a9 N J (f49e4 y0 y1 y2 y3 y4 y5) σ := runK_loop' (by kernel_rfl) (by kernel_rfl) (by kernel_rfl)
theorem f49n10 {R : Type} (call : CallF R) (N : Nat) (J : KF R) (e : Env) (σ : St) : runK Try.prog call N f49c10 f49a10 J e σ = runK Try.prog call N f49c11 f49a11 (seqC (fun K e σ => runK Try.prog call N f49c12 f49a12 K e σ) f49a10 J) e σ := runK_seq' (by kernel_rfl) (by kernel_rfl) (by kernel_rfl)
theorem f49n11 {R : Type} (call : CallF R) (N : Nat) (J : KF R) (e : Env) (σ : St) : runK Try.prog call N f49c11 f49a11 J e σ = runK Try.prog call N f49c13 f49a13 (seqC (fun K e σ => runK Try.prog call N f49c14 f49a14 K e σ) f49a11 J) e σ := runK_seq' (by kernel_rfl) (by kernel_rfl) (by kernel_rfl)
theorem f49r13_f49e4 {R : Type} (call : CallF R) (N : Nat) (y0 : Option (Nat × Nat)) (y1 : Int) (y2 : ByteArray) (y3 : Nat) (y4 : Nat) (y5 : Int) (J : KF R) (σ : St) :
    runK Try.prog call N f49c13 f49a13 J (f49e4 y0 y1 y2 y3 y4 y5) σ =
Option.bind y0 fun v0 =>
  Option.bind (St.ld σ (Prod.fst v0) (Prod.snd v0 + (1 : Nat))) fun v1 =>
    Option.bind (AV.toInt IntKind.i64 v1) fun v2 =>
      J Ex.normal
        (f49e5 y0 y1 y2 y3 y4 y5 y5 y0 (some v0) (some (Prod.fst v0, Prod.snd v0 + (1 : Nat))) v2 (IntKind.wrap IntKind.i64 ((3 : Int) * v2))
          (decide (y5 ≤ IntKind.wrap IntKind.i64 ((3 : Int) * v2))))
        σ := hide (by kernel_rfl)
theorem f49z11_f49e5 (y0 : Option (Nat × Nat)) (y1 : Int) (y2 : ByteArray) (y3 : Nat) (y4 : Nat) (y5 : Int) (y6 : Int) (y7 : Option (Nat × Nat)) (y8 : Option (Nat × Nat)) (y9 : Option (Nat × Nat)) (y10 : Int) (y11 : Int) (y12 : Bool) : Ann.clr f49a11 (f49e5 y0 y1 y2 y3 y4 y5 y6 y7 y8 y9 y10 y11 y12) = f49e6 y0 y1 y2 y3 y4 y5 y12 := hide (by kernel_rfl)
theorem f49x14_f49e6 {R : Type} (call : CallF R) (N : Nat) (y0 : Option (Nat × Nat)) (y1 : Int) (y2 : ByteArray) (y3 : Nat) (y4 : Nat) (y5 : Int) (y6 : Bool) (J : KF R) (σ : St) : runK Try.prog call N f49c14 f49a14 J (f49e6 y0 y1 y2 y3 y4 y5 y6) σ = if y6 = true then runK Try.prog call N f49c15 f49a15 (condC f49a14 J) (f49e6 y0 y1 y2 y3 y4 y5 y6) σ else runK Try.prog call N f49c16 f49a16 (condC f49a14 J) (f49e6 y0 y1 y2 y3 y4 y5 y6) σ := runK_cond' (o := Operand.tmp (23 : Nat)) (by kernel_rfl) (by kernel_rfl) (by kernel_rfl) (by kernel_rfl)
theorem f49n15 {R : Type} (call : CallF R) (N : Nat) (J : KF R) (e : Env) (σ : St) : runK Try.prog call N f49c15 f49a15 J e σ = J .normal e σ := runK_skip' (by kernel_rfl)
theorem f49z14_f49e6 (y0 : Option (Nat × Nat)) (y1 : Int) (y2 : ByteArray) (y3 : Nat) (y4 : Nat) (y5 : Int) (y6 : Bool) : Ann.clr f49a14 (f49e6 y0 y1 y2 y3 y4 y5 y6) = f49e4 y0 y1 y2 y3 y4 y5 := hide (by kernel_rfl)
theorem f49y16_f49e6 {R : Type} (call : CallF R) (N : Nat) (y0 : Option (Nat × Nat)) (y1 : Int) (y2 : ByteArray) (y3 : Nat) (y4 : Nat) (y5 : Int) (y6 : Bool) (J : KF R) (σ : St) : runK Try.prog call N f49c16 f49a16 J (f49e6 y0 y1 y2 y3 y4 y5 y6) σ = J (.exit 0) (f49e7 y3 y4) σ := runK_exit' (by kernel_rfl) (by kernel_rfl)
theorem f49z10_f49e4 (y0 : Option (Nat × Nat)) (y1 : Int) (y2 : ByteArray) (y3 : Nat) (y4 : Nat) (y5 : Int) : Ann.clr f49a10 (f49e4 y0 y1 y2 y3 y4 y5) = f49e4 y0 y1 y2 y3 y4 y5 := hide (by kernel_rfl)
theorem f49n12 {R : Type} (call : CallF R) (N : Nat) (J : KF R) (e : Env) (σ : St) : runK Try.prog call N f49c12 f49a12 J e σ = runK Try.prog call N f49c17 f49a17 (seqC (fun K e σ => runK Try.prog call N f49c18 f49a18 K e σ) f49a12 J) e σ := runK_seq' (by kernel_rfl) (by kernel_rfl) (by kernel_rfl)
theorem f49n17 {R : Type} (call : CallF R) (N : Nat) (J : KF R) (e : Env) (σ : St) : runK Try.prog call N f49c17 f49a17 J e σ = runK Try.prog call N f49c19 f49a19 (blockC 1 f49a17 J) e σ := runK_block' (by kernel_rfl) (by kernel_rfl)
theorem f49n19 {R : Type} (call : CallF R) (N : Nat) (J : KF R) (e : Env) (σ : St) : runK Try.prog call N f49c19 f49a19 J e σ = runK Try.prog call N f49c20 f49a20 (seqC (fun K e σ => runK Try.prog call N f49c21 f49a21 K e σ) f49a19 J) e σ := runK_seq' (by kernel_rfl) (by kernel_rfl) (by kernel_rfl)
theorem f49r20_f49e4 {R : Type} (call : CallF R) (N : Nat) (y0 : Option (Nat × Nat)) (y1 : Int) (y2 : ByteArray) (y3 : Nat) (y4 : Nat) (y5 : Int) (J : KF R) (σ : St) :
    runK Try.prog call N f49c20 f49a20 J (f49e4 y0 y1 y2 y3 y4 y5) σ =
call (27 : Nat) [AV.ptr y0, AV.int IntKind.i64 y1, AV.int IntKind.i64 y5] σ fun v0 v1 =>
  Option.bind (AV.toTuple v0) fun v2 =>
    if List.length v2 = (2 : Nat) then
      Option.bind (List.head? v2) fun v3 =>
        Option.bind (AV.toAgg v3) fun v4 =>
          if List.length v4 = (4 : Nat) then
            Option.bind (List.head? v4) fun v5 =>
              Option.bind (AV.toInt IntKind.i64 v5) fun v6 =>
                Option.bind (List.head? (List.tail v4)) fun v7 =>
                  Option.bind (AV.toInt IntKind.i64 v7) fun v8 =>
                    Option.bind (List.head? (List.tail (List.tail v4))) fun v9 =>
                      Option.bind (AV.toStr v9) fun v10 =>
                        Option.bind (List.head? (List.tail (List.tail (List.tail v4)))) fun v11 =>
                          Option.bind (AV.toStr v11) fun v12 =>
                            Option.bind (List.head? (List.tail v2)) fun v13 =>
                              Option.bind (AV.toBool v13) fun v14 =>
                                Option.bind
                                  (St.st
                                    (St.new v1
                                      (Blk.cells
                                        [AV.int IntKind.i64 (0 : Int), AV.int IntKind.i64 (0 : Int), AV.str (ByteArray.mk #[]),
                                          AV.str (ByteArray.mk #[])]
                                        true))
                                    (St.next v1) (0 : Nat) [AV.int IntKind.i64 v6, AV.int IntKind.i64 v8, AV.str v10, AV.str v12])
                                  fun v15 =>
                                  J Ex.normal
                                    (f49e8 y0 y1 y2 y3 y4 y5 (St.next v1) v14 v6 v8 v10 v12 v14 y0 y1 y5 v6 v8 v10 v12 v14 v6 v8 v10 v12 v14) v15
          else none
    else none := hide (by kernel_rfl)
theorem f49z19_f49e8 (y0 : Option (Nat × Nat)) (y1 : Int) (y2 : ByteArray) (y3 : Nat) (y4 : Nat) (y5 : Int) (y6 : Nat) (y7 : Bool) (y8 : Int) (y9 : Int) (y10 : ByteArray) (y11 : ByteArray) (y12 : Bool) (y13 : Option (Nat × Nat)) (y14 : Int) (y15 : Int) (y16 : Int) (y17 : Int) (y18 : ByteArray) (y19 : ByteArray) (y20 : Bool) (y21 : Int) (y22 : Int) (y23 : ByteArray) (y24 : ByteArray) (y25 : Bool) : Ann.clr f49a19 (f49e8 y0 y1 y2 y3 y4 y5 y6 y7 y8 y9 y10 y11 y12 y13 y14 y15 y16 y17 y18 y19 y20 y21 y22 y23 y24 y25) = f49e9 y0 y1 y2 y3 y4 y5 y6 y7 := hide (by kernel_rfl)
theorem f49n21 {R : Type} (call : CallF R) (N : Nat) (J : KF R) (e : Env) (σ : St) : runK Try.prog call N f49c21 f49a21 J e σ = runK Try.prog call N f49c22 f49a22 (seqC (fun K e σ => runK Try.prog call N f49c23 f49a23 K e σ) f49a21 J) e σ := runK_seq' (by kernel_rfl) (by kernel_rfl) (by kernel_rfl)
theorem f49r22_f49e9 {R : Type} (call : CallF R) (N : Nat) (y0 : Option (Nat × Nat)) (y1 : Int) (y2 : ByteArray) (y3 : Nat) (y4 : Nat) (y5 : Int) (y6 : Nat) (y7 : Bool) (J : KF R) (σ : St) :
    runK Try.prog call N f49c22 f49a22 J (f49e9 y0 y1 y2 y3 y4 y5 y6 y7) σ =
if y7 = true then
  Option.bind (St.ld σ y6 (2 : Nat)) fun v0 =>
    Option.bind (AV.toStr v0) fun v1 => J Ex.normal (f49e10 y0 y1 y2 y3 y4 y5 y6 y7 y7 true y6 v1 y2 (decide (v1 = y2)) (decide (v1 = y2))) σ
else J Ex.normal (f49e11 y0 y1 y2 y3 y4 y5 y6 y7 y7 false false) σ := hide (by kernel_rfl)
theorem f49z21_f49e10 (y0 : Option (Nat × Nat)) (y1 : Int) (y2 : ByteArray) (y3 : Nat) (y4 : Nat) (y5 : Int) (y6 : Nat) (y7 : Bool) (y8 : Bool) (y9 : Bool) (y10 : Nat) (y11 : ByteArray) (y12 : ByteArray) (y13 : Bool) (y14 : Bool) : Ann.clr f49a21 (f49e10 y0 y1 y2 y3 y4 y5 y6 y7 y8 y9 y10 y11 y12 y13 y14) = f49e12 y0 y1 y2 y3 y4 y5 y6 y14 := hide (by kernel_rfl)
theorem f49x23_f49e12 {R : Type} (call : CallF R) (N : Nat) (y0 : Option (Nat × Nat)) (y1 : Int) (y2 : ByteArray) (y3 : Nat) (y4 : Nat) (y5 : Int) (y6 : Nat) (y7 : Bool) (J : KF R) (σ : St) : runK Try.prog call N f49c23 f49a23 J (f49e12 y0 y1 y2 y3 y4 y5 y6 y7) σ = if y7 = true then runK Try.prog call N f49c24 f49a24 (condC f49a23 J) (f49e12 y0 y1 y2 y3 y4 y5 y6 y7) σ else runK Try.prog call N f49c25 f49a25 (condC f49a23 J) (f49e12 y0 y1 y2 y3 y4 y5 y6 y7) σ := runK_cond' (o := Operand.tmp (39 : Nat)) (by kernel_rfl) (by kernel_rfl) (by kernel_rfl) (by kernel_rfl)
theorem f49r24_f49e12 {R : Type} (call : CallF R) (N : Nat) (y0 : Option (Nat × Nat)) (y1 : Int) (y2 : ByteArray) (y3 : Nat) (y4 : Nat) (y5 : Int) (y6 : Nat) (y7 : Bool) (J : KF R) (σ : St) :
    runK Try.prog call N f49c24 f49a24 J (f49e12 y0 y1 y2 y3 y4 y5 y6 y7) σ =
Option.bind (St.ld σ y4 (2 : Nat)) fun v0 =>
  Option.bind (AV.toSl (2 : Nat) v0) fun v1 =>
    Option.bind (St.ld σ y6 (3 : Nat)) fun v2 =>
      Option.bind (AV.toStr v2) fun v3 =>
        Option.bind
          (St.elems (St.new σ (Blk.cells [AV.int IntKind.i64 y5, AV.str v3] true)) (2 : Nat)
            (Sl.mk (some (St.next σ, (0 : Nat))) (1 : Nat) (some (1 : Nat))) (1 : Nat))
          fun v4 =>
          Option.bind
            (St.app (St.new σ (Blk.cells [AV.int IntKind.i64 y5, AV.str v3] true)) (2 : Nat) (24 : Nat) (Sl.mk (Sl.o v1) (Sl.len v1) (Sl.cap v1))
              (1 : Nat) v4)
            fun v5 =>
            Option.bind (St.st (Prod.snd v5) y4 (2 : Nat) [AV.slice (Sl.o (Prod.fst v5)) (Sl.len (Prod.fst v5)) (Sl.cap (Prod.fst v5)) (2 : Nat)])
              fun v6 =>
              J Ex.normal
                (f49e13 y0 y1 y2 y3 y4 y5 y6 y7 y4 (Sl.o v1) (Sl.len v1) (Sl.cap v1) y5 y6 v3 y5 v3 (some (St.next σ, (0 : Nat))) (1 : Nat)
                  (some (1 : Nat)) (Sl.o (Prod.fst v5)) (Sl.len (Prod.fst v5)) (Sl.cap (Prod.fst v5)) y4)
                v6 := hide (by kernel_rfl)
theorem f49z23_f49e13 (y0 : Option (Nat × Nat)) (y1 : Int) (y2 : ByteArray) (y3 : Nat) (y4 : Nat) (y5 : Int) (y6 : Nat) (y7 : Bool) (y8 : Nat) (y9 : Option (Nat × Nat)) (y10 : Nat) (y11 : Option Nat) (y12 : Int) (y13 : Nat) (y14 : ByteArray) (y15 : Int) (y16 : ByteArray) (y17 : Option (Nat × Nat)) (y18 : Nat) (y19 : Option Nat) (y20 : Option (Nat × Nat)) (y21 : Nat) (y22 : Option Nat) (y23 : Nat) : Ann.clr f49a23 (f49e13 y0 y1 y2 y3 y4 y5 y6 y7 y8 y9 y10 y11 y12 y13 y14 y15 y16 y17 y18 y19 y20 y21 y22 y23) = f49e4 y0 y1 y2 y3 y4 y5 := hide (by kernel_rfl)
theorem f49n25 {R : Type} (call : CallF R) (N : Nat) (J : KF R) (e : Env) (σ : St) : runK Try.prog call N f49c25 f49a25 J e σ = J .normal e σ := runK_skip' (by kernel_rfl)
theorem f49z23_f49e12 (y0 : Option (Nat × Nat)) (y1 : Int) (y2 : ByteArray) (y3 : Nat) (y4 : Nat) (y5 : Int) (y6 : Nat) (y7 : Bool) : Ann.clr f49a23 (f49e12 y0 y1 y2 y3 y4 y5 y6 y7) = f49e4 y0 y1 y2 y3 y4 y5 := hide (by kernel_rfl)
theorem f49z21_f49e11 (y0 : Option (Nat × Nat)) (y1 : Int) (y2 : ByteArray) (y3 : Nat) (y4 : Nat) (y5 : Int) (y6 : Nat) (y7 : Bool) (y8 : Bool) (y9 : Bool) (y10 : Bool) : Ann.clr f49a21 (f49e11 y0 y1 y2 y3 y4 y5 y6 y7 y8 y9 y10) = f49e12 y0 y1 y2 y3 y4 y5 y6 y10 := hide (by kernel_rfl)
theorem f49z17_f49e4 (y0 : Option (Nat × Nat)) (y1 : Int) (y2 : ByteArray) (y3 : Nat) (y4 : Nat) (y5 : Int) : Ann.clr f49a17 (f49e4 y0 y1 y2 y3 y4 y5) = f49e4 y0 y1 y2 y3 y4 y5 := hide (by kernel_rfl)
theorem f49z12_f49e4 (y0 : Option (Nat × Nat)) (y1 : Int) (y2 : ByteArray) (y3 : Nat) (y4 : Nat) (y5 : Int) : Ann.clr f49a12 (f49e4 y0 y1 y2 y3 y4 y5) = f49e4 y0 y1 y2 y3 y4 y5 := hide (by kernel_rfl)
theorem f49r18_f49e4 {R : Type} (call : CallF R) (N : Nat) (y0 : Option (Nat × Nat)) (y1 : Int) (y2 : ByteArray) (y3 : Nat) (y4 : Nat) (y5 : Int) (J : KF R) (σ : St) :
    runK Try.prog call N f49c18 f49a18 J (f49e4 y0 y1 y2 y3 y4 y5) σ =
J Ex.normal (f49e14 y0 y1 y2 y3 y4 (IntKind.wrap IntKind.i64 (y5 + (1 : Int))) y5 (IntKind.wrap IntKind.i64 (y5 + (1 : Int)))) σ := hide (by kernel_rfl)
theorem f49z9_f49e14 (y0 : Option (Nat × Nat)) (y1 : Int) (y2 : ByteArray) (y3 : Nat) (y4 : Nat) (y5 : Int) (y6 : Int) (y7 : Int) : Ann.clr f49a9 (f49e14 y0 y1 y2 y3 y4 y5 y6 y7) = f49e4 y0 y1 y2 y3 y4 y5 := hide (by kernel_rfl)
theorem f49z8_f49e7 (y0 : Nat) (y1 : Nat) : Ann.clr f49a8 (f49e7 y0 y1) = f49e7 y0 y1 := hide (by kernel_rfl)
theorem f49z4_f49e7 (y0 : Nat) (y1 : Nat) : Ann.clr f49a4 (f49e7 y0 y1) = f49e7 y0 y1 := hide (by kernel_rfl)
theorem f49n6 {R : Type} (call : CallF R) (N : Nat) (J : KF R) (e : Env) (σ : St) : runK Try.prog call N f49c6 f49a6 J e σ = runK Try.prog call N f49c26 f49a26 (seqC (fun K e σ => runK Try.prog call N f49c27 f49a27 K e σ) f49a6 J) e σ := runK_seq' (by kernel_rfl) (by kernel_rfl) (by kernel_rfl)
theorem f49r26_f49e7 {R : Type} (call : CallF R) (N : Nat) (y0 : Nat) (y1 : Nat) (J : KF R) (σ : St) :
    runK Try.prog call N f49c26 f49a26 J (f49e7 y0 y1) σ =
Option.bind (St.ld σ y1 (0 : Nat)) fun v0 =>
  Option.bind (AV.toStr v0) fun v1 =>
    Option.bind (St.ld σ y1 (1 : Nat)) fun v2 =>
      Option.bind (AV.toInt IntKind.i64 v2) fun v3 =>
        Option.bind (St.ld σ y1 (2 : Nat)) fun v4 =>
          Option.bind (AV.toSl (2 : Nat) v4) fun v5 =>
            Option.bind (St.st σ y0 (0 : Nat) [AV.str v1, AV.int IntKind.i64 v3, AV.slice (Sl.o v5) (Sl.len v5) (Sl.cap v5) (2 : Nat)]) fun v6 =>
              J Ex.normal (f49e15 y0 y1 v1 v3 (Sl.o v5) (Sl.len v5) (Sl.cap v5)) v6 := hide (by kernel_rfl)
theorem f49z6_f49e15 (y0 : Nat) (y1 : Nat) (y2 : ByteArray) (y3 : Int) (y4 : Option (Nat × Nat)) (y5 : Nat) (y6 : Option Nat) : Ann.clr f49a6 (f49e15 y0 y1 y2 y3 y4 y5 y6) = f49e16 y0 := hide (by kernel_rfl)
theorem f49y27_f49e16 {R : Type} (call : CallF R) (N : Nat) (y0 : Nat) (J : KF R) (σ : St) : runK Try.prog call N f49c27 f49a27 J (f49e16 y0) σ = J .ret (f49e16 y0) σ := runK_ret' (by kernel_rfl) (by kernel_rfl)
theorem f49b_f49e16_r {R : Type} (y0 : Nat) (σ : St) (K : AV → St → Option R) : bodyC Try.prog f49rs K (Ex.ret) (f49e16 y0) σ =
Option.bind (St.ld σ y0 (0 : Nat)) fun v0 =>
  Option.bind (AV.toStr v0) fun v1 =>
    Option.bind (St.ld σ y0 (1 : Nat)) fun v2 =>
      Option.bind (AV.toInt IntKind.i64 v2) fun v3 =>
        Option.bind (St.ld σ y0 (2 : Nat)) fun v4 =>
          Option.bind (AV.toSl (2 : Nat) v4) fun v5 =>
            K (AV.agg [AV.str v1, AV.int IntKind.i64 v3, AV.slice (Sl.o v5) (Sl.len v5) (Sl.cap v5) (2 : Nat)]) σ := hide (by kernel_rfl)
attribute [go_sem] f49_eq f49n0 f49r1_f49e0 f49z0_f49e1 f49n2 f49r3_f49e1 f49z2_f49e2 f49n4 f49n5 f49r7_f49e3 f49z5_f49e4 f49n8 f49L9_eq f49z9_f49e4 f49l9_f49e4 f49n10 f49n11 f49r13_f49e4 f49z11_f49e5 f49x14_f49e6 f49n15 f49z14_f49e6 f49y16_f49e6 f49z10_f49e4 f49n12 f49n17 f49n19 f49r20_f49e4 f49z19_f49e8 f49n21 f49r22_f49e9 f49z21_f49e10 f49x23_f49e12 f49r24_f49e12 f49z23_f49e13 f49n25 f49z23_f49e12 f49z21_f49e11 f49z17_f49e4 f49z12_f49e4 f49r18_f49e4 f49z9_f49e14 f49z8_f49e7 f49z4_f49e7 f49n6 f49r26_f49e7 f49z6_f49e15 f49y27_f49e16 f49b_f49e16_r

end Go.Proofs.Ytmgacgonoodkfaa
