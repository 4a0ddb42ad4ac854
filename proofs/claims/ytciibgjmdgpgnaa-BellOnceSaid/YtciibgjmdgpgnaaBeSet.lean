/- What the machine does with each piece of code, in plain text. PRINTED by a program of this workplace; Lean checks it. -/
import Derived.Test.YtciibgjmdgpgnaaBeAnn
import Derived.Test.YtciibgjmdgpgnaaProg
import Derived.KernelRfl
import Derived.Attr
namespace Go.Proofs.Ytciibgjmdgpgnaa
open Go.AM
set_option maxRecDepth 100000
set_option linter.unusedVariables false
noncomputable def f9rs : List ResultVar := [ResultVar.tmp (6 : Nat)]
noncomputable def f9c0 : Code := subCode [] (bodyOf Try.prog 9)
def f9a0 : Ann := subAnn [] ann9
noncomputable def f9c1 : Code := subCode [0] (bodyOf Try.prog 9)
def f9a1 : Ann := subAnn [0] ann9
noncomputable def f9c2 : Code := subCode [1] (bodyOf Try.prog 9)
def f9a2 : Ann := subAnn [1] ann9
noncomputable def f9c3 : Code := subCode [1, 0] (bodyOf Try.prog 9)
def f9a3 : Ann := subAnn [1, 0] ann9
noncomputable def f9c4 : Code := subCode [1, 1] (bodyOf Try.prog 9)
def f9a4 : Ann := subAnn [1, 1] ann9
noncomputable def f9c5 : Code := subCode [1, 0, 0] (bodyOf Try.prog 9)
def f9a5 : Ann := subAnn [1, 0, 0] ann9
noncomputable def f9c6 : Code := subCode [1, 0, 0, 0] (bodyOf Try.prog 9)
def f9a6 : Ann := subAnn [1, 0, 0, 0] ann9
noncomputable def f9c7 : Code := subCode [1, 0, 0, 1] (bodyOf Try.prog 9)
def f9a7 : Ann := subAnn [1, 0, 0, 1] ann9
noncomputable def f9c8 : Code := subCode [1, 0, 0, 1, 0] (bodyOf Try.prog 9)
def f9a8 : Ann := subAnn [1, 0, 0, 1, 0] ann9
noncomputable def f9c9 : Code := subCode [1, 0, 0, 1, 1] (bodyOf Try.prog 9)
def f9a9 : Ann := subAnn [1, 0, 0, 1, 1] ann9
noncomputable def f9c10 : Code := subCode [1, 0, 0, 1, 0, 0] (bodyOf Try.prog 9)
def f9a10 : Ann := subAnn [1, 0, 0, 1, 0, 0] ann9
noncomputable def f9c11 : Code := subCode [1, 0, 0, 1, 0, 1] (bodyOf Try.prog 9)
def f9a11 : Ann := subAnn [1, 0, 0, 1, 0, 1] ann9
noncomputable def f9c12 : Code := subCode [1, 0, 0, 1, 1, 0] (bodyOf Try.prog 9)
def f9a12 : Ann := subAnn [1, 0, 0, 1, 1, 0] ann9
noncomputable def f9c13 : Code := subCode [1, 0, 0, 1, 1, 1] (bodyOf Try.prog 9)
def f9a13 : Ann := subAnn [1, 0, 0, 1, 1, 1] ann9
noncomputable def f9c14 : Code := subCode [1, 0, 0, 1, 1, 1, 0] (bodyOf Try.prog 9)
def f9a14 : Ann := subAnn [1, 0, 0, 1, 1, 1, 0] ann9
noncomputable def f9c15 : Code := subCode [1, 0, 0, 1, 1, 1, 1] (bodyOf Try.prog 9)
def f9a15 : Ann := subAnn [1, 0, 0, 1, 1, 1, 1] ann9
noncomputable def f9c16 : Code := subCode [1, 0, 0, 1, 1, 1, 0, 0] (bodyOf Try.prog 9)
def f9a16 : Ann := subAnn [1, 0, 0, 1, 1, 1, 0, 0] ann9
noncomputable def f9c17 : Code := subCode [1, 0, 0, 1, 1, 1, 0, 1] (bodyOf Try.prog 9)
def f9a17 : Ann := subAnn [1, 0, 0, 1, 1, 1, 0, 1] ann9
noncomputable def f9c18 : Code := subCode [1, 1, 0] (bodyOf Try.prog 9)
def f9a18 : Ann := subAnn [1, 1, 0] ann9
noncomputable def f9c19 : Code := subCode [1, 1, 1] (bodyOf Try.prog 9)
def f9a19 : Ann := subAnn [1, 1, 1] ann9
noncomputable def f9c20 : Code := subCode [1, 1, 1, 0] (bodyOf Try.prog 9)
def f9a20 : Ann := subAnn [1, 1, 1, 0] ann9
noncomputable def f9c21 : Code := subCode [1, 1, 1, 1] (bodyOf Try.prog 9)
def f9a21 : Ann := subAnn [1, 1, 1, 1] ann9
noncomputable def f9c22 : Code := subCode [1, 1, 1, 1, 0] (bodyOf Try.prog 9)
def f9a22 : Ann := subAnn [1, 1, 1, 1, 0] ann9
noncomputable def f9c23 : Code := subCode [1, 1, 1, 1, 1] (bodyOf Try.prog 9)
def f9a23 : Ann := subAnn [1, 1, 1, 1, 1] ann9
noncomputable def f9c24 : Code := subCode [1, 1, 1, 1, 1, 0] (bodyOf Try.prog 9)
def f9a24 : Ann := subAnn [1, 1, 1, 1, 1, 0] ann9
noncomputable def f9c25 : Code := subCode [1, 1, 1, 1, 1, 1] (bodyOf Try.prog 9)
def f9a25 : Ann := subAnn [1, 1, 1, 1, 1, 1] ann9
def f9e0 (y0 : Option (Nat × Nat)) (y1 : Int) (y2 : Int) : Env := AV.ptr y0 :: AV.int IntKind.i64 y1 :: AV.int IntKind.i64 y2 :: Env.sp 56 []
def f9e1 (y0 : Option (Nat × Nat)) (y1 : Int) (y2 : Int) (y3 : Int) : Env := AV.ptr y0 :: AV.int IntKind.i64 y1 :: AV.int IntKind.i64 y2 :: Env.sp 3 (AV.int IntKind.i64 y3 :: Env.sp 52 [])
def f9e2 (y0 : Option (Nat × Nat)) (y1 : Int) (y2 : Int) (y3 : Bool) (y4 : Int) (y5 : Bool) (y6 : Bool) (y7 : Bool) (y8 : Bool) (y9 : Bool) (y10 : Bool) : Env := AV.ptr y0 :: AV.int IntKind.i64 y1 :: AV.int IntKind.i64 y2 :: Env.sp 4 (AV.bool y3 :: AV.int IntKind.i64 y4 :: AV.bool y5 :: AV.bool y6 :: AV.bool y7 :: AV.tuple [] :: AV.tuple [] :: AV.bool y8 :: AV.bool y9 :: AV.tuple [] :: AV.tuple [] :: AV.bool y10 :: Env.sp 40 [])
def f9e3 (y0 : Option (Nat × Nat)) (y1 : Int) (y2 : Int) (y3 : Bool) (y4 : Int) (y5 : Bool) (y6 : Bool) (y7 : Bool) (y8 : Int) (y9 : Bool) (y10 : Bool) (y11 : Bool) (y12 : Bool) : Env := AV.ptr y0 :: AV.int IntKind.i64 y1 :: AV.int IntKind.i64 y2 :: Env.sp 4 (AV.bool y3 :: AV.int IntKind.i64 y4 :: AV.bool y5 :: AV.bool y6 :: AV.bool y7 :: AV.int IntKind.i64 y8 :: AV.bool y9 :: AV.bool y10 :: AV.bool y11 :: AV.tuple [] :: AV.tuple [] :: AV.bool y12 :: Env.sp 40 [])
def f9e4 (y0 : Option (Nat × Nat)) (y1 : Int) (y2 : Int) (y3 : Bool) (y4 : Int) (y5 : Bool) (y6 : Bool) (y7 : Bool) (y8 : Int) (y9 : Bool) (y10 : Bool) (y11 : Bool) (y12 : Int) (y13 : Bool) (y14 : Bool) : Env := AV.ptr y0 :: AV.int IntKind.i64 y1 :: AV.int IntKind.i64 y2 :: Env.sp 4 (AV.bool y3 :: AV.int IntKind.i64 y4 :: AV.bool y5 :: AV.bool y6 :: AV.bool y7 :: AV.int IntKind.i64 y8 :: AV.bool y9 :: AV.bool y10 :: AV.bool y11 :: AV.int IntKind.i64 y12 :: AV.bool y13 :: AV.bool y14 :: Env.sp 40 [])
def f9e5 (y0 : Option (Nat × Nat)) (y1 : Int) (y2 : Int) (y3 : Bool) : Env := AV.ptr y0 :: AV.int IntKind.i64 y1 :: AV.int IntKind.i64 y2 :: Env.sp 4 (AV.bool y3 :: Env.sp 51 [])
def f9e6 (y0 : Option (Nat × Nat)) (y1 : Int) (y2 : Int) (y3 : Int) (y4 : Bool) : Env := AV.ptr y0 :: AV.int IntKind.i64 y1 :: AV.int IntKind.i64 y2 :: Env.sp 3 (AV.int IntKind.i64 y3 :: AV.bool y4 :: Env.sp 51 [])
def f9e7 (y0 : Int) : Env := Env.sp 6 (AV.int IntKind.i64 y0 :: Env.sp 52 [])
def f9e8 (y0 : Option (Nat × Nat)) (y1 : Int) (y2 : Int) (y3 : Bool) (y4 : Bool) (y5 : Option (Nat × Nat)) (y6 : Bool) : Env := AV.ptr y0 :: AV.int IntKind.i64 y1 :: AV.int IntKind.i64 y2 :: Env.sp 4 (AV.bool y3 :: Env.sp 11 (AV.bool y4 :: AV.ptr y5 :: AV.bool y6 :: Env.sp 37 []))
def f9e9 (y0 : Option (Nat × Nat)) (y1 : Int) (y2 : Int) (y3 : Bool) : Env := AV.ptr y0 :: AV.int IntKind.i64 y1 :: AV.int IntKind.i64 y2 :: Env.sp 16 (AV.bool y3 :: Env.sp 39 [])
def f9e10 (y0 : Option (Nat × Nat)) (y1 : Int) (y2 : Int) (y3 : Int) (y4 : Bool) : Env := AV.ptr y0 :: AV.int IntKind.i64 y1 :: AV.int IntKind.i64 y2 :: Env.sp 3 (AV.int IntKind.i64 y3 :: Env.sp 12 (AV.bool y4 :: Env.sp 39 []))
def f9e11 (y0 : Option (Nat × Nat)) (y1 : Int) (y2 : Int) (y3 : Option (Nat × Nat)) (y4 : Option (Nat × Nat)) (y5 : Option (Nat × Nat)) (y6 : Int) (y7 : Int) (y8 : Option (Nat × Nat)) (y9 : Option (Nat × Nat)) : Env := AV.ptr y0 :: AV.int IntKind.i64 y1 :: AV.int IntKind.i64 y2 :: Env.sp 19 (AV.ptr y3 :: AV.ptr y4 :: AV.ptr y5 :: AV.int IntKind.i64 y6 :: AV.int IntKind.i64 y7 :: AV.ptr y8 :: AV.ptr y9 :: Env.sp 30 [])
def f9e12 (y0 : Option (Nat × Nat)) (y1 : Int) (y2 : Int) (y3 : Option (Nat × Nat)) (y4 : Int) (y5 : Int) (y6 : Option (Nat × Nat)) (y7 : Option (Nat × Nat)) (y8 : Option (Nat × Nat)) (y9 : Int) (y10 : Int) (y11 : Int) (y12 : Int) (y13 : Option (Nat × Nat)) (y14 : Option (Nat × Nat)) (y15 : Option (Nat × Nat)) (y16 : Int) (y17 : Int) (y18 : Int) (y19 : Int) (y20 : Int) (y21 : Option (Nat × Nat)) (y22 : Option (Nat × Nat)) (y23 : Option (Nat × Nat)) : Env := AV.ptr y0 :: AV.int IntKind.i64 y1 :: AV.int IntKind.i64 y2 :: Env.sp 26 (AV.ptr y3 :: AV.int IntKind.i64 y4 :: AV.int IntKind.i64 y5 :: AV.ptr y6 :: AV.ptr y7 :: AV.ptr y8 :: AV.int IntKind.i64 y9 :: AV.int IntKind.i64 y10 :: AV.int IntKind.i64 y11 :: AV.int IntKind.i64 y12 :: AV.ptr y13 :: AV.ptr y14 :: AV.ptr y15 :: AV.int IntKind.i64 y16 :: AV.agg [AV.int IntKind.i64 y17, AV.int IntKind.i64 y18, AV.int IntKind.i64 y19, AV.int IntKind.i64 y20] :: AV.ptr y21 :: AV.ptr y22 :: AV.ptr y23 :: Env.sp 12 [])
def f9e13 (y0 : Option (Nat × Nat)) (y1 : Int) : Env := AV.ptr y0 :: AV.int IntKind.i64 y1 :: Env.sp 57 []
def f9e14 (y0 : Option (Nat × Nat)) (y1 : Int) (y2 : Option (Nat × Nat)) (y3 : Option (Nat × Nat)) (y4 : Option (Nat × Nat)) (y5 : Option (Nat × Nat)) (y6 : Option (Nat × Nat)) (y7 : Int) (y8 : Option (Nat × Nat)) (y9 : Option (Nat × Nat)) (y10 : Option (Nat × Nat)) (y11 : Int) (y12 : Int) (y13 : Int) (y14 : Int) (y15 : Int) (y16 : Int) (y17 : Int) (y18 : Int) : Env := AV.ptr y0 :: AV.int IntKind.i64 y1 :: Env.sp 45 (AV.ptr y2 :: AV.ptr y3 :: AV.ptr y4 :: AV.iface (59 : Nat) (AV.ptr y5) :: AV.ptr y6 :: AV.int IntKind.i64 y7 :: AV.ptr y8 :: AV.ptr y9 :: AV.ptr y10 :: AV.agg [AV.int IntKind.i64 y11, AV.int IntKind.i64 y12, AV.int IntKind.i64 y13, AV.int IntKind.i64 y14] :: AV.iface (52 : Nat) (AV.agg [AV.int IntKind.i64 y15, AV.int IntKind.i64 y16, AV.int IntKind.i64 y17, AV.int IntKind.i64 y18]) :: AV.tuple [] :: [])
def f9e15 : Env := Env.sp 59 []

/- function 9 -/
theorem f9_eq {R : Type} (call : Bool → CallF R) (dem : Bool) (N : Nat) (y0 : Option (Nat × Nat)) (y1 : Int) (y2 : Int) (σ : St) (K : AV → St → Option R) :
    bodyK Try.prog call dem N ann 9 [AV.ptr y0, AV.int IntKind.i64 y1, AV.int IntKind.i64 y2] σ K = runK Try.prog call dem N f9c0 f9a0 (bodyC Try.prog f9rs K) (f9e0 y0 y1 y2) σ := bodyK_of (fn := ((Try.prog.funcs[9]?).get rfl)) (by kernel_rfl) (by kernel_rfl) (by kernel_rfl) (by kernel_rfl) (by kernel_rfl) (by kernel_rfl)
theorem f9n0 {R : Type} (call : Bool → CallF R) (dem : Bool) (N : Nat) (J : KF R) (e : Env) (σ : St) : runK Try.prog call dem N f9c0 f9a0 J e σ = runK Try.prog call dem N f9c1 f9a1 (seqC (fun K e σ => runK Try.prog call dem N f9c2 f9a2 K e σ) f9a0 J) e σ := runK_seq' (by kernel_rfl) (by kernel_rfl) (by kernel_rfl)
theorem f9r1_f9e0 {R : Type} (call : Bool → CallF R) (dem : Bool) (N : Nat) (y0 : Option (Nat × Nat)) (y1 : Int) (y2 : Int) (J : KF R) (σ : St) :
    runK Try.prog call dem N f9c1 f9a1 J (f9e0 y0 y1 y2) σ =
J Ex.normal (f9e1 y0 y1 y2 (0 : Int)) σ := hide (by kernel_rfl)
theorem f9z0_f9e1 (y0 : Option (Nat × Nat)) (y1 : Int) (y2 : Int) (y3 : Int) : Ann.clr f9a0 (f9e1 y0 y1 y2 y3) = f9e0 y0 y1 y2 := hide (by kernel_rfl)
theorem f9n2 {R : Type} (call : Bool → CallF R) (dem : Bool) (N : Nat) (J : KF R) (e : Env) (σ : St) : runK Try.prog call dem N f9c2 f9a2 J e σ = runK Try.prog call dem N f9c3 f9a3 (seqC (fun K e σ => runK Try.prog call dem N f9c4 f9a4 K e σ) f9a2 J) e σ := runK_seq' (by kernel_rfl) (by kernel_rfl) (by kernel_rfl)
theorem f9n3 {R : Type} (call : Bool → CallF R) (dem : Bool) (N : Nat) (J : KF R) (e : Env) (σ : St) : runK Try.prog call dem N f9c3 f9a3 J e σ = runK Try.prog call dem N f9c5 f9a5 (blockC 0 f9a3 J) e σ := runK_block' (by kernel_rfl) (by kernel_rfl)
theorem f9n5 {R : Type} (call : Bool → CallF R) (dem : Bool) (N : Nat) (J : KF R) (e : Env) (σ : St) : runK Try.prog call dem N f9c5 f9a5 J e σ = runK Try.prog call dem N f9c6 f9a6 (seqC (fun K e σ => runK Try.prog call dem N f9c7 f9a7 K e σ) f9a5 J) e σ := runK_seq' (by kernel_rfl) (by kernel_rfl) (by kernel_rfl)
theorem f9r6_f9e0 {R : Type} (call : Bool → CallF R) (dem : Bool) (N : Nat) (y0 : Option (Nat × Nat)) (y1 : Int) (y2 : Int) (J : KF R) (σ : St) :
    runK Try.prog call dem N f9c6 f9a6 J (f9e0 y0 y1 y2) σ =
call dem (20 : Nat) [AV.int IntKind.i64 y1] σ fun v0 v1 =>
  Option.bind (AV.toBool v0) fun v2 =>
    if (!v2) = true then J Ex.normal (f9e2 y0 y1 y2 true y1 v2 (!v2) true true true true) v1
    else
      if decide (y2 < (1 : Int)) = true then
        J Ex.normal (f9e3 y0 y1 y2 true y1 v2 (!v2) false y2 (decide (y2 < (1 : Int))) (decide (y2 < (1 : Int))) true true) v1
      else
        J Ex.normal
          (f9e4 y0 y1 y2 (decide (y2 > (4096 : Int))) y1 v2 (!v2) false y2 (decide (y2 < (1 : Int))) (decide (y2 < (1 : Int))) false y2
            (decide (y2 > (4096 : Int))) (decide (y2 > (4096 : Int))))
          v1 := hide (by kernel_rfl)
theorem f9z5_f9e2 (y0 : Option (Nat × Nat)) (y1 : Int) (y2 : Int) (y3 : Bool) (y4 : Int) (y5 : Bool) (y6 : Bool) (y7 : Bool) (y8 : Bool) (y9 : Bool) (y10 : Bool) : Ann.clr f9a5 (f9e2 y0 y1 y2 y3 y4 y5 y6 y7 y8 y9 y10) = f9e5 y0 y1 y2 y3 := hide (by kernel_rfl)
theorem f9x7_f9e5 {R : Type} (call : Bool → CallF R) (dem : Bool) (N : Nat) (y0 : Option (Nat × Nat)) (y1 : Int) (y2 : Int) (y3 : Bool) (J : KF R) (σ : St) : runK Try.prog call dem N f9c7 f9a7 J (f9e5 y0 y1 y2 y3) σ = if y3 = true then runK Try.prog call dem N f9c8 f9a8 (condC f9a7 J) (f9e5 y0 y1 y2 y3) σ else runK Try.prog call dem N f9c9 f9a9 (condC f9a7 J) (f9e5 y0 y1 y2 y3) σ := runK_cond' (o := Operand.tmp (7 : Nat)) (by kernel_rfl) (by kernel_rfl) (by kernel_rfl) (by kernel_rfl)
theorem f9n8 {R : Type} (call : Bool → CallF R) (dem : Bool) (N : Nat) (J : KF R) (e : Env) (σ : St) : runK Try.prog call dem N f9c8 f9a8 J e σ = runK Try.prog call dem N f9c10 f9a10 (seqC (fun K e σ => runK Try.prog call dem N f9c11 f9a11 K e σ) f9a8 J) e σ := runK_seq' (by kernel_rfl) (by kernel_rfl) (by kernel_rfl)
theorem f9r10_f9e5 {R : Type} (call : Bool → CallF R) (dem : Bool) (N : Nat) (y0 : Option (Nat × Nat)) (y1 : Int) (y2 : Int) (y3 : Bool) (J : KF R) (σ : St) :
    runK Try.prog call dem N f9c10 f9a10 J (f9e5 y0 y1 y2 y3) σ =
J Ex.normal (f9e6 y0 y1 y2 (1 : Int) y3) σ := hide (by kernel_rfl)
theorem f9z8_f9e6 (y0 : Option (Nat × Nat)) (y1 : Int) (y2 : Int) (y3 : Int) (y4 : Bool) : Ann.clr f9a8 (f9e6 y0 y1 y2 y3 y4) = f9e7 y3 := hide (by kernel_rfl)
theorem f9y11_f9e7 {R : Type} (call : Bool → CallF R) (dem : Bool) (N : Nat) (y0 : Int) (J : KF R) (σ : St) : runK Try.prog call dem N f9c11 f9a11 J (f9e7 y0) σ = J .ret (f9e7 y0) σ := runK_ret' (by kernel_rfl) (by kernel_rfl)
theorem f9n9 {R : Type} (call : Bool → CallF R) (dem : Bool) (N : Nat) (J : KF R) (e : Env) (σ : St) : runK Try.prog call dem N f9c9 f9a9 J e σ = runK Try.prog call dem N f9c12 f9a12 (seqC (fun K e σ => runK Try.prog call dem N f9c13 f9a13 K e σ) f9a9 J) e σ := runK_seq' (by kernel_rfl) (by kernel_rfl) (by kernel_rfl)
theorem f9r12_f9e5 {R : Type} (call : Bool → CallF R) (dem : Bool) (N : Nat) (y0 : Option (Nat × Nat)) (y1 : Int) (y2 : Int) (y3 : Bool) (J : KF R) (σ : St) :
    runK Try.prog call dem N f9c12 f9a12 J (f9e5 y0 y1 y2 y3) σ =
J Ex.normal (f9e8 y0 y1 y2 y3 (Option.isNone y0) y0 (Option.isNone y0)) σ := hide (by kernel_rfl)
theorem f9z9_f9e8 (y0 : Option (Nat × Nat)) (y1 : Int) (y2 : Int) (y3 : Bool) (y4 : Bool) (y5 : Option (Nat × Nat)) (y6 : Bool) : Ann.clr f9a9 (f9e8 y0 y1 y2 y3 y4 y5 y6) = f9e9 y0 y1 y2 y4 := hide (by kernel_rfl)
theorem f9x13_f9e9 {R : Type} (call : Bool → CallF R) (dem : Bool) (N : Nat) (y0 : Option (Nat × Nat)) (y1 : Int) (y2 : Int) (y3 : Bool) (J : KF R) (σ : St) : runK Try.prog call dem N f9c13 f9a13 J (f9e9 y0 y1 y2 y3) σ = if y3 = true then runK Try.prog call dem N f9c14 f9a14 (condC f9a13 J) (f9e9 y0 y1 y2 y3) σ else runK Try.prog call dem N f9c15 f9a15 (condC f9a13 J) (f9e9 y0 y1 y2 y3) σ := runK_cond' (o := Operand.tmp (19 : Nat)) (by kernel_rfl) (by kernel_rfl) (by kernel_rfl) (by kernel_rfl)
theorem f9n14 {R : Type} (call : Bool → CallF R) (dem : Bool) (N : Nat) (J : KF R) (e : Env) (σ : St) : runK Try.prog call dem N f9c14 f9a14 J e σ = runK Try.prog call dem N f9c16 f9a16 (seqC (fun K e σ => runK Try.prog call dem N f9c17 f9a17 K e σ) f9a14 J) e σ := runK_seq' (by kernel_rfl) (by kernel_rfl) (by kernel_rfl)
theorem f9r16_f9e9 {R : Type} (call : Bool → CallF R) (dem : Bool) (N : Nat) (y0 : Option (Nat × Nat)) (y1 : Int) (y2 : Int) (y3 : Bool) (J : KF R) (σ : St) :
    runK Try.prog call dem N f9c16 f9a16 J (f9e9 y0 y1 y2 y3) σ =
J Ex.normal (f9e10 y0 y1 y2 (7 : Int) y3) σ := hide (by kernel_rfl)
theorem f9z14_f9e10 (y0 : Option (Nat × Nat)) (y1 : Int) (y2 : Int) (y3 : Int) (y4 : Bool) : Ann.clr f9a14 (f9e10 y0 y1 y2 y3 y4) = f9e7 y3 := hide (by kernel_rfl)
theorem f9y17_f9e7 {R : Type} (call : Bool → CallF R) (dem : Bool) (N : Nat) (y0 : Int) (J : KF R) (σ : St) : runK Try.prog call dem N f9c17 f9a17 J (f9e7 y0) σ = J .ret (f9e7 y0) σ := runK_ret' (by kernel_rfl) (by kernel_rfl)
theorem f9n15 {R : Type} (call : Bool → CallF R) (dem : Bool) (N : Nat) (J : KF R) (e : Env) (σ : St) : runK Try.prog call dem N f9c15 f9a15 J e σ = J .normal e σ := runK_skip' (by kernel_rfl)
theorem f9z13_f9e9 (y0 : Option (Nat × Nat)) (y1 : Int) (y2 : Int) (y3 : Bool) : Ann.clr f9a13 (f9e9 y0 y1 y2 y3) = f9e0 y0 y1 y2 := hide (by kernel_rfl)
theorem f9z7_f9e0 (y0 : Option (Nat × Nat)) (y1 : Int) (y2 : Int) : Ann.clr f9a7 (f9e0 y0 y1 y2) = f9e0 y0 y1 y2 := hide (by kernel_rfl)
theorem f9z5_f9e3 (y0 : Option (Nat × Nat)) (y1 : Int) (y2 : Int) (y3 : Bool) (y4 : Int) (y5 : Bool) (y6 : Bool) (y7 : Bool) (y8 : Int) (y9 : Bool) (y10 : Bool) (y11 : Bool) (y12 : Bool) : Ann.clr f9a5 (f9e3 y0 y1 y2 y3 y4 y5 y6 y7 y8 y9 y10 y11 y12) = f9e5 y0 y1 y2 y3 := hide (by kernel_rfl)
theorem f9z5_f9e4 (y0 : Option (Nat × Nat)) (y1 : Int) (y2 : Int) (y3 : Bool) (y4 : Int) (y5 : Bool) (y6 : Bool) (y7 : Bool) (y8 : Int) (y9 : Bool) (y10 : Bool) (y11 : Bool) (y12 : Int) (y13 : Bool) (y14 : Bool) : Ann.clr f9a5 (f9e4 y0 y1 y2 y3 y4 y5 y6 y7 y8 y9 y10 y11 y12 y13 y14) = f9e5 y0 y1 y2 y3 := hide (by kernel_rfl)
theorem f9z3_f9e0 (y0 : Option (Nat × Nat)) (y1 : Int) (y2 : Int) : Ann.clr f9a3 (f9e0 y0 y1 y2) = f9e0 y0 y1 y2 := hide (by kernel_rfl)
theorem f9z2_f9e0 (y0 : Option (Nat × Nat)) (y1 : Int) (y2 : Int) : Ann.clr f9a2 (f9e0 y0 y1 y2) = f9e0 y0 y1 y2 := hide (by kernel_rfl)
theorem f9n4 {R : Type} (call : Bool → CallF R) (dem : Bool) (N : Nat) (J : KF R) (e : Env) (σ : St) : runK Try.prog call dem N f9c4 f9a4 J e σ = runK Try.prog call dem N f9c18 f9a18 (seqC (fun K e σ => runK Try.prog call dem N f9c19 f9a19 K e σ) f9a4 J) e σ := runK_seq' (by kernel_rfl) (by kernel_rfl) (by kernel_rfl)
theorem f9r18_f9e0 {R : Type} (call : Bool → CallF R) (dem : Bool) (N : Nat) (y0 : Option (Nat × Nat)) (y1 : Int) (y2 : Int) (J : KF R) (σ : St) :
    runK Try.prog call dem N f9c18 f9a18 J (f9e0 y0 y1 y2) σ =
Option.bind y0 fun v0 =>
  Option.bind (St.ld σ (Prod.fst v0) (Prod.snd v0 + (1 : Nat))) fun v1 =>
    Option.bind (AV.toInt IntKind.i64 v1) fun v2 =>
      Option.bind y0 fun v3 =>
        Option.bind (St.st σ (Prod.fst v3) (Prod.snd v3 + (1 : Nat)) [AV.int IntKind.i64 (IntKind.wrap IntKind.i64 (v2 + (1 : Int)))]) fun v4 =>
          J Ex.normal
            (f9e11 y0 y1 y2 y0 (some v0) (some (Prod.fst v0, Prod.snd v0 + (1 : Nat))) v2 (IntKind.wrap IntKind.i64 (v2 + (1 : Int))) (some v3)
              (some (Prod.fst v3, Prod.snd v3 + (1 : Nat))))
            v4 := hide (by kernel_rfl)
theorem f9z4_f9e11 (y0 : Option (Nat × Nat)) (y1 : Int) (y2 : Int) (y3 : Option (Nat × Nat)) (y4 : Option (Nat × Nat)) (y5 : Option (Nat × Nat)) (y6 : Int) (y7 : Int) (y8 : Option (Nat × Nat)) (y9 : Option (Nat × Nat)) : Ann.clr f9a4 (f9e11 y0 y1 y2 y3 y4 y5 y6 y7 y8 y9) = f9e0 y0 y1 y2 := hide (by kernel_rfl)
theorem f9n19 {R : Type} (call : Bool → CallF R) (dem : Bool) (N : Nat) (J : KF R) (e : Env) (σ : St) : runK Try.prog call dem N f9c19 f9a19 J e σ = runK Try.prog call dem N f9c20 f9a20 (seqC (fun K e σ => runK Try.prog call dem N f9c21 f9a21 K e σ) f9a19 J) e σ := runK_seq' (by kernel_rfl) (by kernel_rfl) (by kernel_rfl)
theorem f9r20_f9e0 {R : Type} (call : Bool → CallF R) (dem : Bool) (N : Nat) (y0 : Option (Nat × Nat)) (y1 : Int) (y2 : Int) (J : KF R) (σ : St) :
    runK Try.prog call dem N f9c20 f9a20 J (f9e0 y0 y1 y2) σ =
Option.bind y0 fun v0 =>
  Option.bind (St.ld σ (Prod.fst v0) (Prod.snd v0)) fun v1 =>
    Option.bind (AV.toInt IntKind.i64 v1) fun v2 =>
      Option.bind y0 fun v3 =>
        Option.bind (St.ld σ (Prod.fst v3) (Prod.snd v3 + (1 : Nat))) fun v4 =>
          Option.bind (AV.toInt IntKind.i64 v4) fun v5 =>
            Option.bind y0 fun v6 =>
              if (0 : Nat) < (4 : Nat) ∧ (0 : Int) ≤ y1 ∧ y1 < (16 : Int) then
                Option.bind
                  (St.st σ (Prod.fst v6) (Prod.snd v6 + (3 : Nat) + Int.toNat y1 * (4 : Nat))
                    [AV.int IntKind.i64 y1, AV.int IntKind.i64 (IntKind.wrap IntKind.i64 (v2 + y2)), AV.int IntKind.i64 y2, AV.int IntKind.i64 v5])
                  fun v7 =>
                  J Ex.normal
                    (f9e12 y0 y1 y2 y0 y1 y1 y0 (some v0) (some (Prod.fst v0, Prod.snd v0)) v2 y2 (IntKind.wrap IntKind.i64 (v2 + y2)) y2 y0 (some v3)
                      (some (Prod.fst v3, Prod.snd v3 + (1 : Nat))) v5 y1 (IntKind.wrap IntKind.i64 (v2 + y2)) y2 v5 (some v6)
                      (some (Prod.fst v6, Prod.snd v6 + (3 : Nat))) (some (Prod.fst v6, Prod.snd v6 + (3 : Nat) + Int.toNat y1 * (4 : Nat))))
                    v7
              else none := hide (by kernel_rfl)
theorem f9z19_f9e12 (y0 : Option (Nat × Nat)) (y1 : Int) (y2 : Int) (y3 : Option (Nat × Nat)) (y4 : Int) (y5 : Int) (y6 : Option (Nat × Nat)) (y7 : Option (Nat × Nat)) (y8 : Option (Nat × Nat)) (y9 : Int) (y10 : Int) (y11 : Int) (y12 : Int) (y13 : Option (Nat × Nat)) (y14 : Option (Nat × Nat)) (y15 : Option (Nat × Nat)) (y16 : Int) (y17 : Int) (y18 : Int) (y19 : Int) (y20 : Int) (y21 : Option (Nat × Nat)) (y22 : Option (Nat × Nat)) (y23 : Option (Nat × Nat)) : Ann.clr f9a19 (f9e12 y0 y1 y2 y3 y4 y5 y6 y7 y8 y9 y10 y11 y12 y13 y14 y15 y16 y17 y18 y19 y20 y21 y22 y23) = f9e13 y0 y1 := hide (by kernel_rfl)
theorem f9n21 {R : Type} (call : Bool → CallF R) (dem : Bool) (N : Nat) (J : KF R) (e : Env) (σ : St) : runK Try.prog call dem N f9c21 f9a21 J e σ = runK Try.prog call dem N f9c22 f9a22 (seqC (fun K e σ => runK Try.prog call dem N f9c23 f9a23 K e σ) f9a21 J) e σ := runK_seq' (by kernel_rfl) (by kernel_rfl) (by kernel_rfl)
theorem f9r22_f9e13 {R : Type} (call : Bool → CallF R) (dem : Bool) (N : Nat) (y0 : Option (Nat × Nat)) (y1 : Int) (J : KF R) (σ : St) :
    runK Try.prog call dem N f9c22 f9a22 J (f9e13 y0 y1) σ =
Option.bind y0 fun v0 =>
  Option.bind y0 fun v1 =>
    if (0 : Nat) < (4 : Nat) ∧ (0 : Int) ≤ y1 ∧ y1 < (16 : Int) then
      Option.bind (St.ld σ (Prod.fst v1) (Prod.snd v1 + (3 : Nat) + Int.toNat y1 * (4 : Nat))) fun v2 =>
        Option.bind (AV.toInt IntKind.i64 v2) fun v3 =>
          Option.bind (St.ld σ (Prod.fst v1) (Prod.snd v1 + (3 : Nat) + Int.toNat y1 * (4 : Nat) + (1 : Nat))) fun v4 =>
            Option.bind (AV.toInt IntKind.i64 v4) fun v5 =>
              Option.bind (St.ld σ (Prod.fst v1) (Prod.snd v1 + (3 : Nat) + Int.toNat y1 * (4 : Nat) + (2 : Nat))) fun v6 =>
                Option.bind (AV.toInt IntKind.i64 v6) fun v7 =>
                  Option.bind (St.ld σ (Prod.fst v1) (Prod.snd v1 + (3 : Nat) + Int.toNat y1 * (4 : Nat) + (3 : Nat))) fun v8 =>
                    Option.bind (AV.toInt IntKind.i64 v8) fun v9 =>
                      call false (21 : Nat)
                        [AV.iface (59 : Nat) (AV.ptr (some (Prod.fst v0, Prod.snd v0 + (2 : Nat)))),
                          AV.iface (52 : Nat) (AV.agg [AV.int IntKind.i64 v3, AV.int IntKind.i64 v5, AV.int IntKind.i64 v7, AV.int IntKind.i64 v9])]
                        σ fun v10 v11 =>
                        Option.bind (AV.toTuple v10) fun v12 =>
                          if List.length v12 = (0 : Nat) then
                            J Ex.normal
                              (f9e14 y0 y1 y0 (some v0) (some (Prod.fst v0, Prod.snd v0 + (2 : Nat))) (some (Prod.fst v0, Prod.snd v0 + (2 : Nat))) y0
                                y1 (some v1) (some (Prod.fst v1, Prod.snd v1 + (3 : Nat)))
                                (some (Prod.fst v1, Prod.snd v1 + (3 : Nat) + Int.toNat y1 * (4 : Nat))) v3 v5 v7 v9 v3 v5 v7 v9)
                              v11
                          else none
    else none := hide (by kernel_rfl)
theorem f9z21_f9e14 (y0 : Option (Nat × Nat)) (y1 : Int) (y2 : Option (Nat × Nat)) (y3 : Option (Nat × Nat)) (y4 : Option (Nat × Nat)) (y5 : Option (Nat × Nat)) (y6 : Option (Nat × Nat)) (y7 : Int) (y8 : Option (Nat × Nat)) (y9 : Option (Nat × Nat)) (y10 : Option (Nat × Nat)) (y11 : Int) (y12 : Int) (y13 : Int) (y14 : Int) (y15 : Int) (y16 : Int) (y17 : Int) (y18 : Int) : Ann.clr f9a21 (f9e14 y0 y1 y2 y3 y4 y5 y6 y7 y8 y9 y10 y11 y12 y13 y14 y15 y16 y17 y18) = f9e15 := hide (by kernel_rfl)
theorem f9n23 {R : Type} (call : Bool → CallF R) (dem : Bool) (N : Nat) (J : KF R) (e : Env) (σ : St) : runK Try.prog call dem N f9c23 f9a23 J e σ = runK Try.prog call dem N f9c24 f9a24 (seqC (fun K e σ => runK Try.prog call dem N f9c25 f9a25 K e σ) f9a23 J) e σ := runK_seq' (by kernel_rfl) (by kernel_rfl) (by kernel_rfl)
theorem f9r24_f9e15 {R : Type} (call : Bool → CallF R) (dem : Bool) (N : Nat) (J : KF R) (σ : St) :
    runK Try.prog call dem N f9c24 f9a24 J (f9e15) σ =
J Ex.normal (f9e7 (0 : Int)) σ := hide (by kernel_rfl)
theorem f9z23_f9e7 (y0 : Int) : Ann.clr f9a23 (f9e7 y0) = f9e7 y0 := hide (by kernel_rfl)
theorem f9y25_f9e7 {R : Type} (call : Bool → CallF R) (dem : Bool) (N : Nat) (y0 : Int) (J : KF R) (σ : St) : runK Try.prog call dem N f9c25 f9a25 J (f9e7 y0) σ = J .ret (f9e7 y0) σ := runK_ret' (by kernel_rfl) (by kernel_rfl)
theorem f9b_f9e7_r {R : Type} (y0 : Int) (σ : St) (K : AV → St → Option R) : bodyC Try.prog f9rs K (Ex.ret) (f9e7 y0) σ =
K (AV.int IntKind.i64 y0) σ := hide (by kernel_rfl)
attribute [go_sem] f9_eq f9n0 f9r1_f9e0 f9z0_f9e1 f9n2 f9n3 f9n5 f9r6_f9e0 f9z5_f9e2 f9x7_f9e5 f9n8 f9r10_f9e5 f9z8_f9e6 f9y11_f9e7 f9n9 f9r12_f9e5 f9z9_f9e8 f9x13_f9e9 f9n14 f9r16_f9e9 f9z14_f9e10 f9y17_f9e7 f9n15 f9z13_f9e9 f9z7_f9e0 f9z5_f9e3 f9z5_f9e4 f9z3_f9e0 f9z2_f9e0 f9n4 f9r18_f9e0 f9z4_f9e11 f9n19 f9r20_f9e0 f9z19_f9e12 f9n21 f9r22_f9e13 f9z21_f9e14 f9n23 f9r24_f9e15 f9z23_f9e7 f9y25_f9e7 f9b_f9e7_r

noncomputable def f10rs : List ResultVar := [ResultVar.tmp (4 : Nat), ResultVar.tmp (5 : Nat)]
noncomputable def f10c0 : Code := subCode [] (bodyOf Try.prog 10)
def f10a0 : Ann := subAnn [] ann10
noncomputable def f10c1 : Code := subCode [0] (bodyOf Try.prog 10)
def f10a1 : Ann := subAnn [0] ann10
noncomputable def f10c2 : Code := subCode [1] (bodyOf Try.prog 10)
def f10a2 : Ann := subAnn [1] ann10
noncomputable def f10c3 : Code := subCode [1, 0] (bodyOf Try.prog 10)
def f10a3 : Ann := subAnn [1, 0] ann10
noncomputable def f10c4 : Code := subCode [1, 1] (bodyOf Try.prog 10)
def f10a4 : Ann := subAnn [1, 1] ann10
noncomputable def f10c5 : Code := subCode [1, 0, 0] (bodyOf Try.prog 10)
def f10a5 : Ann := subAnn [1, 0, 0] ann10
noncomputable def f10c6 : Code := subCode [1, 0, 0, 0] (bodyOf Try.prog 10)
def f10a6 : Ann := subAnn [1, 0, 0, 0] ann10
noncomputable def f10c7 : Code := subCode [1, 0, 0, 1] (bodyOf Try.prog 10)
def f10a7 : Ann := subAnn [1, 0, 0, 1] ann10
noncomputable def f10c8 : Code := subCode [1, 0, 0, 1, 0] (bodyOf Try.prog 10)
def f10a8 : Ann := subAnn [1, 0, 0, 1, 0] ann10
noncomputable def f10c9 : Code := subCode [1, 0, 0, 1, 1] (bodyOf Try.prog 10)
def f10a9 : Ann := subAnn [1, 0, 0, 1, 1] ann10
noncomputable def f10c10 : Code := subCode [1, 0, 0, 1, 0, 0] (bodyOf Try.prog 10)
def f10a10 : Ann := subAnn [1, 0, 0, 1, 0, 0] ann10
noncomputable def f10c11 : Code := subCode [1, 0, 0, 1, 0, 1] (bodyOf Try.prog 10)
def f10a11 : Ann := subAnn [1, 0, 0, 1, 0, 1] ann10
noncomputable def f10c12 : Code := subCode [1, 0, 0, 1, 1, 0] (bodyOf Try.prog 10)
def f10a12 : Ann := subAnn [1, 0, 0, 1, 1, 0] ann10
noncomputable def f10c13 : Code := subCode [1, 0, 0, 1, 1, 1] (bodyOf Try.prog 10)
def f10a13 : Ann := subAnn [1, 0, 0, 1, 1, 1] ann10
noncomputable def f10c14 : Code := subCode [1, 0, 0, 1, 1, 1, 0] (bodyOf Try.prog 10)
def f10a14 : Ann := subAnn [1, 0, 0, 1, 1, 1, 0] ann10
noncomputable def f10c15 : Code := subCode [1, 0, 0, 1, 1, 1, 1] (bodyOf Try.prog 10)
def f10a15 : Ann := subAnn [1, 0, 0, 1, 1, 1, 1] ann10
noncomputable def f10c16 : Code := subCode [1, 0, 0, 1, 1, 1, 0, 0] (bodyOf Try.prog 10)
def f10a16 : Ann := subAnn [1, 0, 0, 1, 1, 1, 0, 0] ann10
noncomputable def f10c17 : Code := subCode [1, 0, 0, 1, 1, 1, 0, 1] (bodyOf Try.prog 10)
def f10a17 : Ann := subAnn [1, 0, 0, 1, 1, 1, 0, 1] ann10
noncomputable def f10c18 : Code := subCode [1, 1, 0] (bodyOf Try.prog 10)
def f10a18 : Ann := subAnn [1, 1, 0] ann10
noncomputable def f10c19 : Code := subCode [1, 1, 1] (bodyOf Try.prog 10)
def f10a19 : Ann := subAnn [1, 1, 1] ann10
noncomputable def f10c20 : Code := subCode [1, 1, 1, 0] (bodyOf Try.prog 10)
def f10a20 : Ann := subAnn [1, 1, 1, 0] ann10
noncomputable def f10c21 : Code := subCode [1, 1, 1, 1] (bodyOf Try.prog 10)
def f10a21 : Ann := subAnn [1, 1, 1, 1] ann10
def f10e0 (y0 : Option (Nat × Nat)) (y1 : Int) : Env := AV.ptr y0 :: AV.int IntKind.i64 y1 :: Env.sp 28 []
def f10e1 (y0 : Option (Nat × Nat)) (y1 : Int) (y2 : Int) (y3 : Int) : Env := AV.ptr y0 :: AV.int IntKind.i64 y1 :: Env.sp 2 (AV.int IntKind.i64 y2 :: AV.int IntKind.i64 y3 :: Env.sp 24 [])
def f10e2 (y0 : Option (Nat × Nat)) (y1 : Int) (y2 : Bool) (y3 : Int) (y4 : Bool) (y5 : Bool) : Env := AV.ptr y0 :: AV.int IntKind.i64 y1 :: Env.sp 5 (AV.bool y2 :: AV.int IntKind.i64 y3 :: AV.bool y4 :: AV.bool y5 :: Env.sp 19 [])
def f10e3 (y0 : Option (Nat × Nat)) (y1 : Int) (y2 : Bool) : Env := AV.ptr y0 :: AV.int IntKind.i64 y1 :: Env.sp 5 (AV.bool y2 :: Env.sp 22 [])
def f10e4 (y0 : Option (Nat × Nat)) (y1 : Int) (y2 : Int) (y3 : Int) (y4 : Bool) : Env := AV.ptr y0 :: AV.int IntKind.i64 y1 :: Env.sp 2 (AV.int IntKind.i64 y2 :: AV.int IntKind.i64 y3 :: Env.sp 1 (AV.bool y4 :: Env.sp 22 []))
def f10e5 (y0 : Int) (y1 : Int) : Env := Env.sp 4 (AV.int IntKind.i64 y0 :: AV.int IntKind.i64 y1 :: Env.sp 24 [])
def f10e6 (y0 : Option (Nat × Nat)) (y1 : Int) (y2 : Bool) (y3 : Bool) (y4 : Option (Nat × Nat)) (y5 : Int) (y6 : Bool) (y7 : Bool) : Env := AV.ptr y0 :: AV.int IntKind.i64 y1 :: Env.sp 5 (AV.bool y2 :: Env.sp 3 (AV.bool y3 :: AV.ptr y4 :: AV.int IntKind.i64 y5 :: AV.bool y6 :: AV.bool y7 :: Env.sp 14 []))
def f10e7 (y0 : Option (Nat × Nat)) (y1 : Int) (y2 : Bool) : Env := AV.ptr y0 :: AV.int IntKind.i64 y1 :: Env.sp 9 (AV.bool y2 :: Env.sp 18 [])
def f10e8 (y0 : Option (Nat × Nat)) (y1 : Int) (y2 : Int) (y3 : Int) (y4 : Bool) : Env := AV.ptr y0 :: AV.int IntKind.i64 y1 :: Env.sp 2 (AV.int IntKind.i64 y2 :: AV.int IntKind.i64 y3 :: Env.sp 5 (AV.bool y4 :: Env.sp 18 []))
def f10e9 (y0 : Option (Nat × Nat)) (y1 : Int) (y2 : Int) (y3 : Option (Nat × Nat)) (y4 : Int) (y5 : Option (Nat × Nat)) (y6 : Option (Nat × Nat)) (y7 : Option (Nat × Nat)) (y8 : Option (Nat × Nat)) (y9 : Int) (y10 : Int) (y11 : Int) : Env := AV.ptr y0 :: AV.int IntKind.i64 y1 :: Env.sp 4 (AV.int IntKind.i64 y2 :: Env.sp 9 (AV.ptr y3 :: AV.int IntKind.i64 y4 :: AV.ptr y5 :: AV.ptr y6 :: AV.ptr y7 :: AV.ptr y8 :: AV.int IntKind.i64 y9 :: AV.int IntKind.i64 y10 :: AV.int IntKind.i64 y11 :: Env.sp 5 []))
def f10e10 (y0 : Option (Nat × Nat)) (y1 : Int) (y2 : Int) : Env := AV.ptr y0 :: AV.int IntKind.i64 y1 :: Env.sp 4 (AV.int IntKind.i64 y2 :: Env.sp 23 [])
def f10e11 (y0 : Option (Nat × Nat)) (y1 : Int) (y2 : Int) (y3 : Int) (y4 : Int) (y5 : Int) (y6 : Option (Nat × Nat)) (y7 : Int) (y8 : Int) (y9 : Int) : Env := AV.ptr y0 :: AV.int IntKind.i64 y1 :: Env.sp 2 (AV.int IntKind.i64 y2 :: AV.int IntKind.i64 y3 :: AV.int IntKind.i64 y4 :: Env.sp 18 (AV.int IntKind.i64 y5 :: AV.ptr y6 :: AV.int IntKind.i64 y7 :: AV.int IntKind.i64 y8 :: AV.int IntKind.i64 y9 :: []))

/- function 10 -/
theorem f10_eq {R : Type} (call : Bool → CallF R) (dem : Bool) (N : Nat) (y0 : Option (Nat × Nat)) (y1 : Int) (σ : St) (K : AV → St → Option R) :
    bodyK Try.prog call dem N ann 10 [AV.ptr y0, AV.int IntKind.i64 y1] σ K = runK Try.prog call dem N f10c0 f10a0 (bodyC Try.prog f10rs K) (f10e0 y0 y1) σ := bodyK_of (fn := ((Try.prog.funcs[10]?).get rfl)) (by kernel_rfl) (by kernel_rfl) (by kernel_rfl) (by kernel_rfl) (by kernel_rfl) (by kernel_rfl)
theorem f10n0 {R : Type} (call : Bool → CallF R) (dem : Bool) (N : Nat) (J : KF R) (e : Env) (σ : St) : runK Try.prog call dem N f10c0 f10a0 J e σ = runK Try.prog call dem N f10c1 f10a1 (seqC (fun K e σ => runK Try.prog call dem N f10c2 f10a2 K e σ) f10a0 J) e σ := runK_seq' (by kernel_rfl) (by kernel_rfl) (by kernel_rfl)
theorem f10r1_f10e0 {R : Type} (call : Bool → CallF R) (dem : Bool) (N : Nat) (y0 : Option (Nat × Nat)) (y1 : Int) (J : KF R) (σ : St) :
    runK Try.prog call dem N f10c1 f10a1 J (f10e0 y0 y1) σ =
J Ex.normal (f10e1 y0 y1 (0 : Int) (0 : Int)) σ := hide (by kernel_rfl)
theorem f10z0_f10e1 (y0 : Option (Nat × Nat)) (y1 : Int) (y2 : Int) (y3 : Int) : Ann.clr f10a0 (f10e1 y0 y1 y2 y3) = f10e0 y0 y1 := hide (by kernel_rfl)
theorem f10n2 {R : Type} (call : Bool → CallF R) (dem : Bool) (N : Nat) (J : KF R) (e : Env) (σ : St) : runK Try.prog call dem N f10c2 f10a2 J e σ = runK Try.prog call dem N f10c3 f10a3 (seqC (fun K e σ => runK Try.prog call dem N f10c4 f10a4 K e σ) f10a2 J) e σ := runK_seq' (by kernel_rfl) (by kernel_rfl) (by kernel_rfl)
theorem f10n3 {R : Type} (call : Bool → CallF R) (dem : Bool) (N : Nat) (J : KF R) (e : Env) (σ : St) : runK Try.prog call dem N f10c3 f10a3 J e σ = runK Try.prog call dem N f10c5 f10a5 (blockC 0 f10a3 J) e σ := runK_block' (by kernel_rfl) (by kernel_rfl)
theorem f10n5 {R : Type} (call : Bool → CallF R) (dem : Bool) (N : Nat) (J : KF R) (e : Env) (σ : St) : runK Try.prog call dem N f10c5 f10a5 J e σ = runK Try.prog call dem N f10c6 f10a6 (seqC (fun K e σ => runK Try.prog call dem N f10c7 f10a7 K e σ) f10a5 J) e σ := runK_seq' (by kernel_rfl) (by kernel_rfl) (by kernel_rfl)
theorem f10r6_f10e0 {R : Type} (call : Bool → CallF R) (dem : Bool) (N : Nat) (y0 : Option (Nat × Nat)) (y1 : Int) (J : KF R) (σ : St) :
    runK Try.prog call dem N f10c6 f10a6 J (f10e0 y0 y1) σ =
call dem (20 : Nat) [AV.int IntKind.i64 y1] σ fun v0 v1 => Option.bind (AV.toBool v0) fun v2 => J Ex.normal (f10e2 y0 y1 (!v2) y1 v2 !v2) v1 := hide (by kernel_rfl)
theorem f10z5_f10e2 (y0 : Option (Nat × Nat)) (y1 : Int) (y2 : Bool) (y3 : Int) (y4 : Bool) (y5 : Bool) : Ann.clr f10a5 (f10e2 y0 y1 y2 y3 y4 y5) = f10e3 y0 y1 y2 := hide (by kernel_rfl)
theorem f10x7_f10e3 {R : Type} (call : Bool → CallF R) (dem : Bool) (N : Nat) (y0 : Option (Nat × Nat)) (y1 : Int) (y2 : Bool) (J : KF R) (σ : St) : runK Try.prog call dem N f10c7 f10a7 J (f10e3 y0 y1 y2) σ = if y2 = true then runK Try.prog call dem N f10c8 f10a8 (condC f10a7 J) (f10e3 y0 y1 y2) σ else runK Try.prog call dem N f10c9 f10a9 (condC f10a7 J) (f10e3 y0 y1 y2) σ := runK_cond' (o := Operand.tmp (7 : Nat)) (by kernel_rfl) (by kernel_rfl) (by kernel_rfl) (by kernel_rfl)
theorem f10n8 {R : Type} (call : Bool → CallF R) (dem : Bool) (N : Nat) (J : KF R) (e : Env) (σ : St) : runK Try.prog call dem N f10c8 f10a8 J e σ = runK Try.prog call dem N f10c10 f10a10 (seqC (fun K e σ => runK Try.prog call dem N f10c11 f10a11 K e σ) f10a8 J) e σ := runK_seq' (by kernel_rfl) (by kernel_rfl) (by kernel_rfl)
theorem f10r10_f10e3 {R : Type} (call : Bool → CallF R) (dem : Bool) (N : Nat) (y0 : Option (Nat × Nat)) (y1 : Int) (y2 : Bool) (J : KF R) (σ : St) :
    runK Try.prog call dem N f10c10 f10a10 J (f10e3 y0 y1 y2) σ =
J Ex.normal (f10e4 y0 y1 (0 : Int) (1 : Int) y2) σ := hide (by kernel_rfl)
theorem f10z8_f10e4 (y0 : Option (Nat × Nat)) (y1 : Int) (y2 : Int) (y3 : Int) (y4 : Bool) : Ann.clr f10a8 (f10e4 y0 y1 y2 y3 y4) = f10e5 y2 y3 := hide (by kernel_rfl)
theorem f10y11_f10e5 {R : Type} (call : Bool → CallF R) (dem : Bool) (N : Nat) (y0 : Int) (y1 : Int) (J : KF R) (σ : St) : runK Try.prog call dem N f10c11 f10a11 J (f10e5 y0 y1) σ = J .ret (f10e5 y0 y1) σ := runK_ret' (by kernel_rfl) (by kernel_rfl)
theorem f10n9 {R : Type} (call : Bool → CallF R) (dem : Bool) (N : Nat) (J : KF R) (e : Env) (σ : St) : runK Try.prog call dem N f10c9 f10a9 J e σ = runK Try.prog call dem N f10c12 f10a12 (seqC (fun K e σ => runK Try.prog call dem N f10c13 f10a13 K e σ) f10a9 J) e σ := runK_seq' (by kernel_rfl) (by kernel_rfl) (by kernel_rfl)
theorem f10r12_f10e3 {R : Type} (call : Bool → CallF R) (dem : Bool) (N : Nat) (y0 : Option (Nat × Nat)) (y1 : Int) (y2 : Bool) (J : KF R) (σ : St) :
    runK Try.prog call dem N f10c12 f10a12 J (f10e3 y0 y1 y2) σ =
call dem (22 : Nat) [AV.ptr y0, AV.int IntKind.i64 y1] σ fun v0 v1 =>
  Option.bind (AV.toBool v0) fun v2 => J Ex.normal (f10e6 y0 y1 y2 (!v2) y0 y1 v2 !v2) v1 := hide (by kernel_rfl)
theorem f10z9_f10e6 (y0 : Option (Nat × Nat)) (y1 : Int) (y2 : Bool) (y3 : Bool) (y4 : Option (Nat × Nat)) (y5 : Int) (y6 : Bool) (y7 : Bool) : Ann.clr f10a9 (f10e6 y0 y1 y2 y3 y4 y5 y6 y7) = f10e7 y0 y1 y3 := hide (by kernel_rfl)
theorem f10x13_f10e7 {R : Type} (call : Bool → CallF R) (dem : Bool) (N : Nat) (y0 : Option (Nat × Nat)) (y1 : Int) (y2 : Bool) (J : KF R) (σ : St) : runK Try.prog call dem N f10c13 f10a13 J (f10e7 y0 y1 y2) σ = if y2 = true then runK Try.prog call dem N f10c14 f10a14 (condC f10a13 J) (f10e7 y0 y1 y2) σ else runK Try.prog call dem N f10c15 f10a15 (condC f10a13 J) (f10e7 y0 y1 y2) σ := runK_cond' (o := Operand.tmp (11 : Nat)) (by kernel_rfl) (by kernel_rfl) (by kernel_rfl) (by kernel_rfl)
theorem f10n14 {R : Type} (call : Bool → CallF R) (dem : Bool) (N : Nat) (J : KF R) (e : Env) (σ : St) : runK Try.prog call dem N f10c14 f10a14 J e σ = runK Try.prog call dem N f10c16 f10a16 (seqC (fun K e σ => runK Try.prog call dem N f10c17 f10a17 K e σ) f10a14 J) e σ := runK_seq' (by kernel_rfl) (by kernel_rfl) (by kernel_rfl)
theorem f10r16_f10e7 {R : Type} (call : Bool → CallF R) (dem : Bool) (N : Nat) (y0 : Option (Nat × Nat)) (y1 : Int) (y2 : Bool) (J : KF R) (σ : St) :
    runK Try.prog call dem N f10c16 f10a16 J (f10e7 y0 y1 y2) σ =
J Ex.normal (f10e8 y0 y1 (0 : Int) (6 : Int) y2) σ := hide (by kernel_rfl)
theorem f10z14_f10e8 (y0 : Option (Nat × Nat)) (y1 : Int) (y2 : Int) (y3 : Int) (y4 : Bool) : Ann.clr f10a14 (f10e8 y0 y1 y2 y3 y4) = f10e5 y2 y3 := hide (by kernel_rfl)
theorem f10y17_f10e5 {R : Type} (call : Bool → CallF R) (dem : Bool) (N : Nat) (y0 : Int) (y1 : Int) (J : KF R) (σ : St) : runK Try.prog call dem N f10c17 f10a17 J (f10e5 y0 y1) σ = J .ret (f10e5 y0 y1) σ := runK_ret' (by kernel_rfl) (by kernel_rfl)
theorem f10n15 {R : Type} (call : Bool → CallF R) (dem : Bool) (N : Nat) (J : KF R) (e : Env) (σ : St) : runK Try.prog call dem N f10c15 f10a15 J e σ = J .normal e σ := runK_skip' (by kernel_rfl)
theorem f10z13_f10e7 (y0 : Option (Nat × Nat)) (y1 : Int) (y2 : Bool) : Ann.clr f10a13 (f10e7 y0 y1 y2) = f10e0 y0 y1 := hide (by kernel_rfl)
theorem f10z7_f10e0 (y0 : Option (Nat × Nat)) (y1 : Int) : Ann.clr f10a7 (f10e0 y0 y1) = f10e0 y0 y1 := hide (by kernel_rfl)
theorem f10z3_f10e0 (y0 : Option (Nat × Nat)) (y1 : Int) : Ann.clr f10a3 (f10e0 y0 y1) = f10e0 y0 y1 := hide (by kernel_rfl)
theorem f10z2_f10e0 (y0 : Option (Nat × Nat)) (y1 : Int) : Ann.clr f10a2 (f10e0 y0 y1) = f10e0 y0 y1 := hide (by kernel_rfl)
theorem f10n4 {R : Type} (call : Bool → CallF R) (dem : Bool) (N : Nat) (J : KF R) (e : Env) (σ : St) : runK Try.prog call dem N f10c4 f10a4 J e σ = runK Try.prog call dem N f10c18 f10a18 (seqC (fun K e σ => runK Try.prog call dem N f10c19 f10a19 K e σ) f10a4 J) e σ := runK_seq' (by kernel_rfl) (by kernel_rfl) (by kernel_rfl)
theorem f10r18_f10e0 {R : Type} (call : Bool → CallF R) (dem : Bool) (N : Nat) (y0 : Option (Nat × Nat)) (y1 : Int) (J : KF R) (σ : St) :
    runK Try.prog call dem N f10c18 f10a18 J (f10e0 y0 y1) σ =
Option.bind y0 fun v0 =>
  if (0 : Nat) < (4 : Nat) ∧ (0 : Int) ≤ y1 ∧ y1 < (16 : Int) then
    Option.bind (St.ld σ (Prod.fst v0) (Prod.snd v0 + (3 : Nat) + Int.toNat y1 * (4 : Nat) + (2 : Nat))) fun v1 =>
      Option.bind (AV.toInt IntKind.i64 v1) fun v2 =>
        J Ex.normal
          (f10e9 y0 y1 (if IntKind.wrap IntKind.i64 ((2 : Int) * v2) < (4096 : Int) then IntKind.wrap IntKind.i64 ((2 : Int) * v2) else (4096 : Int))
            y0 y1 (some v0) (some (Prod.fst v0, Prod.snd v0 + (3 : Nat))) (some (Prod.fst v0, Prod.snd v0 + (3 : Nat) + Int.toNat y1 * (4 : Nat)))
            (some (Prod.fst v0, Prod.snd v0 + (3 : Nat) + Int.toNat y1 * (4 : Nat) + (2 : Nat))) v2 (IntKind.wrap IntKind.i64 ((2 : Int) * v2))
            (if IntKind.wrap IntKind.i64 ((2 : Int) * v2) < (4096 : Int) then IntKind.wrap IntKind.i64 ((2 : Int) * v2) else (4096 : Int)))
          σ
  else none := hide (by kernel_rfl)
theorem f10z4_f10e9 (y0 : Option (Nat × Nat)) (y1 : Int) (y2 : Int) (y3 : Option (Nat × Nat)) (y4 : Int) (y5 : Option (Nat × Nat)) (y6 : Option (Nat × Nat)) (y7 : Option (Nat × Nat)) (y8 : Option (Nat × Nat)) (y9 : Int) (y10 : Int) (y11 : Int) : Ann.clr f10a4 (f10e9 y0 y1 y2 y3 y4 y5 y6 y7 y8 y9 y10 y11) = f10e10 y0 y1 y2 := hide (by kernel_rfl)
theorem f10n19 {R : Type} (call : Bool → CallF R) (dem : Bool) (N : Nat) (J : KF R) (e : Env) (σ : St) : runK Try.prog call dem N f10c19 f10a19 J e σ = runK Try.prog call dem N f10c20 f10a20 (seqC (fun K e σ => runK Try.prog call dem N f10c21 f10a21 K e σ) f10a19 J) e σ := runK_seq' (by kernel_rfl) (by kernel_rfl) (by kernel_rfl)
theorem f10r20_f10e10 {R : Type} (call : Bool → CallF R) (dem : Bool) (N : Nat) (y0 : Option (Nat × Nat)) (y1 : Int) (y2 : Int) (J : KF R) (σ : St) :
    runK Try.prog call dem N f10c20 f10a20 J (f10e10 y0 y1 y2) σ =
call dem (9 : Nat) [AV.ptr y0, AV.int IntKind.i64 y1, AV.int IntKind.i64 y2] σ fun v0 v1 =>
  Option.bind (AV.toInt IntKind.i64 v0) fun v2 => J Ex.normal (f10e11 y0 y1 y2 v2 y2 y2 y0 y1 y2 v2) v1 := hide (by kernel_rfl)
theorem f10z19_f10e11 (y0 : Option (Nat × Nat)) (y1 : Int) (y2 : Int) (y3 : Int) (y4 : Int) (y5 : Int) (y6 : Option (Nat × Nat)) (y7 : Int) (y8 : Int) (y9 : Int) : Ann.clr f10a19 (f10e11 y0 y1 y2 y3 y4 y5 y6 y7 y8 y9) = f10e5 y2 y3 := hide (by kernel_rfl)
theorem f10y21_f10e5 {R : Type} (call : Bool → CallF R) (dem : Bool) (N : Nat) (y0 : Int) (y1 : Int) (J : KF R) (σ : St) : runK Try.prog call dem N f10c21 f10a21 J (f10e5 y0 y1) σ = J .ret (f10e5 y0 y1) σ := runK_ret' (by kernel_rfl) (by kernel_rfl)
theorem f10b_f10e5_r {R : Type} (y0 : Int) (y1 : Int) (σ : St) (K : AV → St → Option R) : bodyC Try.prog f10rs K (Ex.ret) (f10e5 y0 y1) σ =
K (AV.tuple [AV.int IntKind.i64 y0, AV.int IntKind.i64 y1]) σ := hide (by kernel_rfl)
attribute [go_sem] f10_eq f10n0 f10r1_f10e0 f10z0_f10e1 f10n2 f10n3 f10n5 f10r6_f10e0 f10z5_f10e2 f10x7_f10e3 f10n8 f10r10_f10e3 f10z8_f10e4 f10y11_f10e5 f10n9 f10r12_f10e3 f10z9_f10e6 f10x13_f10e7 f10n14 f10r16_f10e7 f10z14_f10e8 f10y17_f10e5 f10n15 f10z13_f10e7 f10z7_f10e0 f10z3_f10e0 f10z2_f10e0 f10n4 f10r18_f10e0 f10z4_f10e9 f10n19 f10r20_f10e10 f10z19_f10e11 f10y21_f10e5 f10b_f10e5_r

end Go.Proofs.Ytciibgjmdgpgnaa
