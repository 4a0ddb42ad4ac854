/- What the machine does with each piece of code, in plain text. PRINTED by a program of this workplace; Lean checks it. -/
import Derived.Test.YtciibgjmdgpgnaaBeAnn
import Derived.Test.YtciibgjmdgpgnaaProg
import Derived.KernelRfl
import Derived.Attr
namespace Go.Proofs.Ytciibgjmdgpgnaa
open Go.AM
set_option maxRecDepth 100000
set_option linter.unusedVariables false
noncomputable def f8rs : List ResultVar := [ResultVar.tmp (0 : Nat)]
noncomputable def f8c0 : Code := subCode [] (bodyOf Try.prog 8)
def f8a0 : Ann := subAnn [] ann8
noncomputable def f8c1 : Code := subCode [0] (bodyOf Try.prog 8)
def f8a1 : Ann := subAnn [0] ann8
noncomputable def f8c2 : Code := subCode [1] (bodyOf Try.prog 8)
def f8a2 : Ann := subAnn [1] ann8
noncomputable def f8c3 : Code := subCode [1, 0] (bodyOf Try.prog 8)
def f8a3 : Ann := subAnn [1, 0] ann8
noncomputable def f8c4 : Code := subCode [1, 1] (bodyOf Try.prog 8)
def f8a4 : Ann := subAnn [1, 1] ann8
noncomputable def f8c5 : Code := subCode [1, 1, 0] (bodyOf Try.prog 8)
def f8a5 : Ann := subAnn [1, 1, 0] ann8
noncomputable def f8c6 : Code := subCode [1, 1, 1] (bodyOf Try.prog 8)
def f8a6 : Ann := subAnn [1, 1, 1] ann8
noncomputable def f8c7 : Code := subCode [1, 1, 1, 0] (bodyOf Try.prog 8)
def f8a7 : Ann := subAnn [1, 1, 1, 0] ann8
noncomputable def f8c8 : Code := subCode [1, 1, 1, 1] (bodyOf Try.prog 8)
def f8a8 : Ann := subAnn [1, 1, 1, 1] ann8
noncomputable def f8c9 : Code := subCode [1, 1, 1, 1, 0] (bodyOf Try.prog 8)
def f8a9 : Ann := subAnn [1, 1, 1, 1, 0] ann8
noncomputable def f8c10 : Code := subCode [1, 1, 1, 1, 1] (bodyOf Try.prog 8)
def f8a10 : Ann := subAnn [1, 1, 1, 1, 1] ann8
noncomputable def f8c11 : Code := subCode [1, 1, 1, 1, 1, 0] (bodyOf Try.prog 8)
def f8a11 : Ann := subAnn [1, 1, 1, 1, 1, 0] ann8
noncomputable def f8c12 : Code := subCode [1, 1, 1, 1, 1, 1] (bodyOf Try.prog 8)
def f8a12 : Ann := subAnn [1, 1, 1, 1, 1, 1] ann8
noncomputable def f8c13 : Code := subCode [1, 1, 1, 1, 1, 1, 0] (bodyOf Try.prog 8)
def f8a13 : Ann := subAnn [1, 1, 1, 1, 1, 1, 0] ann8
noncomputable def f8c14 : Code := subCode [1, 1, 1, 1, 1, 1, 1] (bodyOf Try.prog 8)
def f8a14 : Ann := subAnn [1, 1, 1, 1, 1, 1, 1] ann8
def f8e0 : Env := Env.sp 43 []
def f8e1 (y0 : Bool) : Env := AV.bool y0 :: Env.sp 42 []
def f8e2 (y0 : Option (Nat × Nat)) (y1 : Option (Nat × Nat)) : Env := Env.sp 1 (AV.ptr y0 :: Env.sp 5 (AV.ptr y1 :: Env.sp 35 []))
def f8e3 (y0 : Option (Nat × Nat)) : Env := Env.sp 1 (AV.ptr y0 :: Env.sp 41 [])
def f8e4 (y0 : Option (Nat × Nat)) (y1 : Int) (y2 : Option (Nat × Nat)) (y3 : Int) : Env := Env.sp 1 (AV.ptr y0 :: AV.int IntKind.i64 y1 :: Env.sp 5 (AV.ptr y2 :: AV.int IntKind.i64 y3 :: Env.sp 33 []))
def f8e5 (y0 : Option (Nat × Nat)) (y1 : Int) : Env := Env.sp 1 (AV.ptr y0 :: AV.int IntKind.i64 y1 :: Env.sp 40 [])
def f8e6 (y0 : Option (Nat × Nat)) (y1 : Int) (y2 : Int) (y3 : Option (Nat × Nat)) (y4 : Int) : Env := Env.sp 1 (AV.ptr y0 :: AV.int IntKind.i64 y1 :: AV.int IntKind.i64 y2 :: Env.sp 6 (AV.ptr y3 :: AV.int IntKind.i64 y4 :: Env.sp 31 []))
def f8e7 (y0 : Option (Nat × Nat)) (y1 : Int) (y2 : Int) : Env := Env.sp 1 (AV.ptr y0 :: AV.int IntKind.i64 y1 :: AV.int IntKind.i64 y2 :: Env.sp 39 [])
def f8e8 (y0 : Option (Nat × Nat)) (y1 : Int) (y2 : Int) (y3 : Int) (y4 : Option (Nat × Nat)) (y5 : Int) : Env := Env.sp 1 (AV.ptr y0 :: AV.int IntKind.i64 y1 :: AV.int IntKind.i64 y2 :: AV.int IntKind.i64 y3 :: Env.sp 7 (AV.ptr y4 :: AV.int IntKind.i64 y5 :: Env.sp 29 []))
def f8e9 (y0 : Option (Nat × Nat)) (y1 : Int) (y2 : Int) (y3 : Int) : Env := Env.sp 1 (AV.ptr y0 :: AV.int IntKind.i64 y1 :: AV.int IntKind.i64 y2 :: AV.int IntKind.i64 y3 :: Env.sp 38 [])
def f8e10 (y0 : Option (Nat × Nat)) (y1 : Int) (y2 : Int) (y3 : Int) (y4 : Option (Nat × Nat)) (y5 : Nat) (y6 : Option Nat) (y7 : Int) (y8 : Option (Nat × Nat)) (y9 : Nat) (y10 : Option Nat) (y11 : Int) (y12 : Option (Nat × Nat)) (y13 : Option (Nat × Nat)) (y14 : Nat) (y15 : Option Nat) (y16 : Int) (y17 : Option (Nat × Nat)) (y18 : Nat) (y19 : Option Nat) (y20 : Int) : Env := Env.sp 1 (AV.ptr y0 :: AV.int IntKind.i64 y1 :: AV.int IntKind.i64 y2 :: AV.int IntKind.i64 y3 :: AV.slice y4 y5 y6 (1 : Nat) :: AV.int IntKind.i64 y7 :: Env.sp 7 (AV.tuple [AV.slice y8 y9 y10 (1 : Nat), AV.int IntKind.i64 y11] :: AV.ptr y12 :: AV.tuple [AV.slice y13 y14 y15 (1 : Nat), AV.int IntKind.i64 y16] :: AV.slice y17 y18 y19 (1 : Nat) :: AV.int IntKind.i64 y20 :: Env.sp 24 []))
def f8e11 (y0 : Option (Nat × Nat)) (y1 : Int) (y2 : Int) (y3 : Int) (y4 : Option (Nat × Nat)) (y5 : Nat) (y6 : Option Nat) (y7 : Int) : Env := Env.sp 1 (AV.ptr y0 :: AV.int IntKind.i64 y1 :: AV.int IntKind.i64 y2 :: AV.int IntKind.i64 y3 :: AV.slice y4 y5 y6 (1 : Nat) :: AV.int IntKind.i64 y7 :: Env.sp 36 [])
def f8e12 (y0 : Bool) (y1 : Option (Nat × Nat)) (y2 : Int) (y3 : Int) (y4 : Int) (y5 : Option (Nat × Nat)) (y6 : Nat) (y7 : Option Nat) (y8 : Int) (y9 : Int) (y10 : Bool) (y11 : Bool) (y12 : Int) (y13 : Bool) (y14 : Bool) (y15 : Bool) (y16 : Int) (y17 : Bool) (y18 : Bool) (y19 : Bool) (y20 : Int) (y21 : Bool) (y22 : Bool) (y23 : Bool) (y24 : Option (Nat × Nat)) (y25 : Nat) (y26 : Option Nat) (y27 : Option (Nat × Nat)) (y28 : Nat) (y29 : Option Nat) (y30 : Bool) (y31 : Bool) (y32 : Bool) (y33 : Option (Nat × Nat)) (y34 : Int) (y35 : Bool) (y36 : Bool) : Env := AV.bool y0 :: AV.ptr y1 :: AV.int IntKind.i64 y2 :: AV.int IntKind.i64 y3 :: AV.int IntKind.i64 y4 :: AV.slice y5 y6 y7 (1 : Nat) :: AV.int IntKind.i64 y8 :: Env.sp 12 (AV.int IntKind.i64 y9 :: AV.bool y10 :: AV.bool y11 :: AV.int IntKind.i64 y12 :: AV.bool y13 :: AV.bool y14 :: AV.bool y15 :: AV.int IntKind.i64 y16 :: AV.bool y17 :: AV.bool y18 :: AV.bool y19 :: AV.int IntKind.i64 y20 :: AV.bool y21 :: AV.bool y22 :: AV.bool y23 :: AV.slice y24 y25 y26 (1 : Nat) :: AV.slice y27 y28 y29 (1 : Nat) :: AV.bool y30 :: AV.bool y31 :: AV.bool y32 :: AV.ptr y33 :: AV.int IntKind.i64 y34 :: AV.bool y35 :: AV.bool y36 :: [])
def f8e13 (y0 : Bool) (y1 : Option (Nat × Nat)) (y2 : Int) (y3 : Int) (y4 : Int) (y5 : Option (Nat × Nat)) (y6 : Nat) (y7 : Option Nat) (y8 : Int) (y9 : Int) (y10 : Bool) (y11 : Bool) (y12 : Int) (y13 : Bool) (y14 : Bool) (y15 : Bool) (y16 : Int) (y17 : Bool) (y18 : Bool) (y19 : Bool) (y20 : Int) (y21 : Bool) (y22 : Bool) (y23 : Bool) (y24 : Option (Nat × Nat)) (y25 : Nat) (y26 : Option Nat) (y27 : Option (Nat × Nat)) (y28 : Nat) (y29 : Option Nat) (y30 : Bool) (y31 : Bool) (y32 : Bool) (y33 : Bool) : Env := AV.bool y0 :: AV.ptr y1 :: AV.int IntKind.i64 y2 :: AV.int IntKind.i64 y3 :: AV.int IntKind.i64 y4 :: AV.slice y5 y6 y7 (1 : Nat) :: AV.int IntKind.i64 y8 :: Env.sp 12 (AV.int IntKind.i64 y9 :: AV.bool y10 :: AV.bool y11 :: AV.int IntKind.i64 y12 :: AV.bool y13 :: AV.bool y14 :: AV.bool y15 :: AV.int IntKind.i64 y16 :: AV.bool y17 :: AV.bool y18 :: AV.bool y19 :: AV.int IntKind.i64 y20 :: AV.bool y21 :: AV.bool y22 :: AV.bool y23 :: AV.slice y24 y25 y26 (1 : Nat) :: AV.slice y27 y28 y29 (1 : Nat) :: AV.bool y30 :: AV.bool y31 :: AV.bool y32 :: AV.tuple [] :: AV.tuple [] :: AV.tuple [] :: AV.bool y33 :: [])
def f8e14 (y0 : Bool) (y1 : Option (Nat × Nat)) (y2 : Int) (y3 : Int) (y4 : Int) (y5 : Option (Nat × Nat)) (y6 : Nat) (y7 : Option Nat) (y8 : Int) (y9 : Int) (y10 : Bool) (y11 : Bool) (y12 : Int) (y13 : Bool) (y14 : Bool) (y15 : Bool) (y16 : Int) (y17 : Bool) (y18 : Bool) (y19 : Bool) (y20 : Int) (y21 : Bool) (y22 : Bool) (y23 : Bool) (y24 : Bool) (y25 : Bool) (y26 : Bool) : Env := AV.bool y0 :: AV.ptr y1 :: AV.int IntKind.i64 y2 :: AV.int IntKind.i64 y3 :: AV.int IntKind.i64 y4 :: AV.slice y5 y6 y7 (1 : Nat) :: AV.int IntKind.i64 y8 :: Env.sp 12 (AV.int IntKind.i64 y9 :: AV.bool y10 :: AV.bool y11 :: AV.int IntKind.i64 y12 :: AV.bool y13 :: AV.bool y14 :: AV.bool y15 :: AV.int IntKind.i64 y16 :: AV.bool y17 :: AV.bool y18 :: AV.bool y19 :: AV.int IntKind.i64 y20 :: AV.bool y21 :: AV.bool y22 :: AV.bool y23 :: AV.tuple [] :: AV.tuple [] :: AV.tuple [] :: AV.bool y24 :: AV.bool y25 :: AV.tuple [] :: AV.tuple [] :: AV.tuple [] :: AV.bool y26 :: [])
def f8e15 (y0 : Bool) (y1 : Option (Nat × Nat)) (y2 : Int) (y3 : Int) (y4 : Int) (y5 : Option (Nat × Nat)) (y6 : Nat) (y7 : Option Nat) (y8 : Int) (y9 : Int) (y10 : Bool) (y11 : Bool) (y12 : Int) (y13 : Bool) (y14 : Bool) (y15 : Bool) (y16 : Int) (y17 : Bool) (y18 : Bool) (y19 : Bool) (y20 : Bool) (y21 : Bool) (y22 : Bool) (y23 : Bool) (y24 : Bool) : Env := AV.bool y0 :: AV.ptr y1 :: AV.int IntKind.i64 y2 :: AV.int IntKind.i64 y3 :: AV.int IntKind.i64 y4 :: AV.slice y5 y6 y7 (1 : Nat) :: AV.int IntKind.i64 y8 :: Env.sp 12 (AV.int IntKind.i64 y9 :: AV.bool y10 :: AV.bool y11 :: AV.int IntKind.i64 y12 :: AV.bool y13 :: AV.bool y14 :: AV.bool y15 :: AV.int IntKind.i64 y16 :: AV.bool y17 :: AV.bool y18 :: AV.bool y19 :: AV.tuple [] :: AV.tuple [] :: AV.bool y20 :: AV.bool y21 :: AV.tuple [] :: AV.tuple [] :: AV.tuple [] :: AV.bool y22 :: AV.bool y23 :: AV.tuple [] :: AV.tuple [] :: AV.tuple [] :: AV.bool y24 :: [])
def f8e16 (y0 : Bool) (y1 : Option (Nat × Nat)) (y2 : Int) (y3 : Int) (y4 : Int) (y5 : Option (Nat × Nat)) (y6 : Nat) (y7 : Option Nat) (y8 : Int) (y9 : Int) (y10 : Bool) (y11 : Bool) (y12 : Int) (y13 : Bool) (y14 : Bool) (y15 : Bool) (y16 : Bool) (y17 : Bool) (y18 : Bool) (y19 : Bool) (y20 : Bool) (y21 : Bool) (y22 : Bool) : Env := AV.bool y0 :: AV.ptr y1 :: AV.int IntKind.i64 y2 :: AV.int IntKind.i64 y3 :: AV.int IntKind.i64 y4 :: AV.slice y5 y6 y7 (1 : Nat) :: AV.int IntKind.i64 y8 :: Env.sp 12 (AV.int IntKind.i64 y9 :: AV.bool y10 :: AV.bool y11 :: AV.int IntKind.i64 y12 :: AV.bool y13 :: AV.bool y14 :: AV.bool y15 :: AV.tuple [] :: AV.tuple [] :: AV.bool y16 :: AV.bool y17 :: AV.tuple [] :: AV.tuple [] :: AV.bool y18 :: AV.bool y19 :: AV.tuple [] :: AV.tuple [] :: AV.tuple [] :: AV.bool y20 :: AV.bool y21 :: AV.tuple [] :: AV.tuple [] :: AV.tuple [] :: AV.bool y22 :: [])
def f8e17 (y0 : Bool) (y1 : Option (Nat × Nat)) (y2 : Int) (y3 : Int) (y4 : Int) (y5 : Option (Nat × Nat)) (y6 : Nat) (y7 : Option Nat) (y8 : Int) (y9 : Int) (y10 : Bool) (y11 : Bool) (y12 : Bool) (y13 : Bool) (y14 : Bool) (y15 : Bool) (y16 : Bool) (y17 : Bool) (y18 : Bool) (y19 : Bool) (y20 : Bool) : Env := AV.bool y0 :: AV.ptr y1 :: AV.int IntKind.i64 y2 :: AV.int IntKind.i64 y3 :: AV.int IntKind.i64 y4 :: AV.slice y5 y6 y7 (1 : Nat) :: AV.int IntKind.i64 y8 :: Env.sp 12 (AV.int IntKind.i64 y9 :: AV.bool y10 :: AV.bool y11 :: AV.tuple [] :: AV.tuple [] :: AV.bool y12 :: AV.bool y13 :: AV.tuple [] :: AV.tuple [] :: AV.bool y14 :: AV.bool y15 :: AV.tuple [] :: AV.tuple [] :: AV.bool y16 :: AV.bool y17 :: AV.tuple [] :: AV.tuple [] :: AV.tuple [] :: AV.bool y18 :: AV.bool y19 :: AV.tuple [] :: AV.tuple [] :: AV.tuple [] :: AV.bool y20 :: [])

/- function 8 -/
theorem f8_eq {R : Type} (call : Bool → CallF R) (dem : Bool) (N : Nat) (σ : St) (K : AV → St → Option R) :
    bodyK Try.prog call dem N ann 8 [] σ K = runK Try.prog call dem N f8c0 f8a0 (bodyC Try.prog f8rs K) (f8e0) σ := bodyK_of (fn := ((Try.prog.funcs[8]?).get rfl)) (by kernel_rfl) (by kernel_rfl) (by kernel_rfl) (by kernel_rfl) (by kernel_rfl) (by kernel_rfl)
theorem f8n0 {R : Type} (call : Bool → CallF R) (dem : Bool) (N : Nat) (J : KF R) (e : Env) (σ : St) : runK Try.prog call dem N f8c0 f8a0 J e σ = runK Try.prog call dem N f8c1 f8a1 (seqC (fun K e σ => runK Try.prog call dem N f8c2 f8a2 K e σ) f8a0 J) e σ := runK_seq' (by kernel_rfl) (by kernel_rfl) (by kernel_rfl)
theorem f8r1_f8e0 {R : Type} (call : Bool → CallF R) (dem : Bool) (N : Nat) (J : KF R) (σ : St) :
    runK Try.prog call dem N f8c1 f8a1 J (f8e0) σ =
J Ex.normal (f8e1 false) σ := hide (by kernel_rfl)
theorem f8z0_f8e1 (y0 : Bool) : Ann.clr f8a0 (f8e1 y0) = f8e0 := hide (by kernel_rfl)
theorem f8n2 {R : Type} (call : Bool → CallF R) (dem : Bool) (N : Nat) (J : KF R) (e : Env) (σ : St) : runK Try.prog call dem N f8c2 f8a2 J e σ = runK Try.prog call dem N f8c3 f8a3 (seqC (fun K e σ => runK Try.prog call dem N f8c4 f8a4 K e σ) f8a2 J) e σ := runK_seq' (by kernel_rfl) (by kernel_rfl) (by kernel_rfl)
theorem f8r3_f8e0 {R : Type} (call : Bool → CallF R) (dem : Bool) (N : Nat) (J : KF R) (σ : St) :
    runK Try.prog call dem N f8c3 f8a3 J (f8e0) σ =
call dem (7 : Nat) [] σ fun v0 v1 => Option.bind (AV.toPtr v0) fun v2 => J Ex.normal (f8e2 v2 v2) v1 := hide (by kernel_rfl)
theorem f8z2_f8e2 (y0 : Option (Nat × Nat)) (y1 : Option (Nat × Nat)) : Ann.clr f8a2 (f8e2 y0 y1) = f8e3 y0 := hide (by kernel_rfl)
theorem f8n4 {R : Type} (call : Bool → CallF R) (dem : Bool) (N : Nat) (J : KF R) (e : Env) (σ : St) : runK Try.prog call dem N f8c4 f8a4 J e σ = runK Try.prog call dem N f8c5 f8a5 (seqC (fun K e σ => runK Try.prog call dem N f8c6 f8a6 K e σ) f8a4 J) e σ := runK_seq' (by kernel_rfl) (by kernel_rfl) (by kernel_rfl)
theorem f8r5_f8e3 {R : Type} (call : Bool → CallF R) (dem : Bool) (N : Nat) (y0 : Option (Nat × Nat)) (J : KF R) (σ : St) :
    runK Try.prog call dem N f8c5 f8a5 J (f8e3 y0) σ =
call dem (9 : Nat) [AV.ptr y0, AV.int IntKind.i64 (3 : Int), AV.int IntKind.i64 (5 : Int)] σ fun v0 v1 =>
  Option.bind (AV.toInt IntKind.i64 v0) fun v2 => J Ex.normal (f8e4 y0 v2 y0 v2) v1 := hide (by kernel_rfl)
theorem f8z4_f8e4 (y0 : Option (Nat × Nat)) (y1 : Int) (y2 : Option (Nat × Nat)) (y3 : Int) : Ann.clr f8a4 (f8e4 y0 y1 y2 y3) = f8e5 y0 y1 := hide (by kernel_rfl)
theorem f8n6 {R : Type} (call : Bool → CallF R) (dem : Bool) (N : Nat) (J : KF R) (e : Env) (σ : St) : runK Try.prog call dem N f8c6 f8a6 J e σ = runK Try.prog call dem N f8c7 f8a7 (seqC (fun K e σ => runK Try.prog call dem N f8c8 f8a8 K e σ) f8a6 J) e σ := runK_seq' (by kernel_rfl) (by kernel_rfl) (by kernel_rfl)
theorem f8r7_f8e5 {R : Type} (call : Bool → CallF R) (dem : Bool) (N : Nat) (y0 : Option (Nat × Nat)) (y1 : Int) (J : KF R) (σ : St) :
    runK Try.prog call dem N f8c7 f8a7 J (f8e5 y0 y1) σ =
call dem (9 : Nat) [AV.ptr y0, AV.int IntKind.i64 (1 : Int), AV.int IntKind.i64 (5 : Int)] σ fun v0 v1 =>
  Option.bind (AV.toInt IntKind.i64 v0) fun v2 => J Ex.normal (f8e6 y0 y1 v2 y0 v2) v1 := hide (by kernel_rfl)
theorem f8z6_f8e6 (y0 : Option (Nat × Nat)) (y1 : Int) (y2 : Int) (y3 : Option (Nat × Nat)) (y4 : Int) : Ann.clr f8a6 (f8e6 y0 y1 y2 y3 y4) = f8e7 y0 y1 y2 := hide (by kernel_rfl)
theorem f8n8 {R : Type} (call : Bool → CallF R) (dem : Bool) (N : Nat) (J : KF R) (e : Env) (σ : St) : runK Try.prog call dem N f8c8 f8a8 J e σ = runK Try.prog call dem N f8c9 f8a9 (seqC (fun K e σ => runK Try.prog call dem N f8c10 f8a10 K e σ) f8a8 J) e σ := runK_seq' (by kernel_rfl) (by kernel_rfl) (by kernel_rfl)
theorem f8r9_f8e7 {R : Type} (call : Bool → CallF R) (dem : Bool) (N : Nat) (y0 : Option (Nat × Nat)) (y1 : Int) (y2 : Int) (J : KF R) (σ : St) :
    runK Try.prog call dem N f8c9 f8a9 J (f8e7 y0 y1 y2) σ =
call dem (9 : Nat) [AV.ptr y0, AV.int IntKind.i64 (2 : Int), AV.int IntKind.i64 (4 : Int)] σ fun v0 v1 =>
  Option.bind (AV.toInt IntKind.i64 v0) fun v2 => J Ex.normal (f8e8 y0 y1 y2 v2 y0 v2) v1 := hide (by kernel_rfl)
theorem f8z8_f8e8 (y0 : Option (Nat × Nat)) (y1 : Int) (y2 : Int) (y3 : Int) (y4 : Option (Nat × Nat)) (y5 : Int) : Ann.clr f8a8 (f8e8 y0 y1 y2 y3 y4 y5) = f8e9 y0 y1 y2 y3 := hide (by kernel_rfl)
theorem f8n10 {R : Type} (call : Bool → CallF R) (dem : Bool) (N : Nat) (J : KF R) (e : Env) (σ : St) : runK Try.prog call dem N f8c10 f8a10 J e σ = runK Try.prog call dem N f8c11 f8a11 (seqC (fun K e σ => runK Try.prog call dem N f8c12 f8a12 K e σ) f8a10 J) e σ := runK_seq' (by kernel_rfl) (by kernel_rfl) (by kernel_rfl)
theorem f8r11_f8e9 {R : Type} (call : Bool → CallF R) (dem : Bool) (N : Nat) (y0 : Option (Nat × Nat)) (y1 : Int) (y2 : Int) (y3 : Int) (J : KF R) (σ : St) :
    runK Try.prog call dem N f8c11 f8a11 J (f8e9 y0 y1 y2 y3) σ =
call dem (13 : Nat) [AV.ptr y0, AV.int IntKind.i64 (5 : Int)] σ fun v0 v1 =>
  Option.bind (AV.toTuple v0) fun v2 =>
    if List.length v2 = (2 : Nat) then
      Option.bind (List.head? v2) fun v3 =>
        Option.bind (AV.toSl (1 : Nat) v3) fun v4 =>
          Option.bind (List.head? (List.tail v2)) fun v5 =>
            Option.bind (AV.toInt IntKind.i64 v5) fun v6 =>
              J Ex.normal
                (f8e10 y0 y1 y2 y3 (Sl.o v4) (Sl.len v4) (Sl.cap v4) v6 (Sl.o v4) (Sl.len v4) (Sl.cap v4) v6 y0 (Sl.o v4) (Sl.len v4) (Sl.cap v4) v6
                  (Sl.o v4) (Sl.len v4) (Sl.cap v4) v6)
                v1
    else none := hide (by kernel_rfl)
theorem f8z10_f8e10 (y0 : Option (Nat × Nat)) (y1 : Int) (y2 : Int) (y3 : Int) (y4 : Option (Nat × Nat)) (y5 : Nat) (y6 : Option Nat) (y7 : Int) (y8 : Option (Nat × Nat)) (y9 : Nat) (y10 : Option Nat) (y11 : Int) (y12 : Option (Nat × Nat)) (y13 : Option (Nat × Nat)) (y14 : Nat) (y15 : Option Nat) (y16 : Int) (y17 : Option (Nat × Nat)) (y18 : Nat) (y19 : Option Nat) (y20 : Int) : Ann.clr f8a10 (f8e10 y0 y1 y2 y3 y4 y5 y6 y7 y8 y9 y10 y11 y12 y13 y14 y15 y16 y17 y18 y19 y20) = f8e11 y0 y1 y2 y3 y4 y5 y6 y7 := hide (by kernel_rfl)
theorem f8n12 {R : Type} (call : Bool → CallF R) (dem : Bool) (N : Nat) (J : KF R) (e : Env) (σ : St) : runK Try.prog call dem N f8c12 f8a12 J e σ = runK Try.prog call dem N f8c13 f8a13 (seqC (fun K e σ => runK Try.prog call dem N f8c14 f8a14 K e σ) f8a12 J) e σ := runK_seq' (by kernel_rfl) (by kernel_rfl) (by kernel_rfl)
theorem f8r13_f8e11 {R : Type} (call : Bool → CallF R) (dem : Bool) (N : Nat) (y0 : Option (Nat × Nat)) (y1 : Int) (y2 : Int) (y3 : Int) (y4 : Option (Nat × Nat)) (y5 : Nat) (y6 : Option Nat) (y7 : Int) (J : KF R) (σ : St) :
    runK Try.prog call dem N f8c13 f8a13 J (f8e11 y0 y1 y2 y3 y4 y5 y6 y7) σ =
if (y1 == (0 : Int)) = true then
  if (y2 == (0 : Int)) = true then
    if (y3 == (0 : Int)) = true then
      if (y7 == (0 : Int)) = true then
        call dem (19 : Nat) [AV.slice y4 y5 y6 (1 : Nat), AV.slice (some (St.next σ, (0 : Nat))) (3 : Nat) (some (3 : Nat)) (1 : Nat)]
          (St.new σ (Blk.cells [AV.int IntKind.i64 (2 : Int), AV.int IntKind.i64 (1 : Int), AV.int IntKind.i64 (3 : Int)] true)) fun v0 v1 =>
          Option.bind (AV.toBool v0) fun v2 =>
            if v2 = true then
              call dem (12 : Nat) [AV.ptr y0] v1 fun v3 v4 =>
                Option.bind (AV.toInt IntKind.i64 v3) fun v5 =>
                  J Ex.normal
                    (f8e12 (v5 == (5 : Int)) y0 y1 y2 y3 y4 y5 y6 y7 y1 (y1 == (0 : Int)) true y2 (y2 == (0 : Int)) (y2 == (0 : Int)) true y3
                      (y3 == (0 : Int)) (y3 == (0 : Int)) true y7 (y7 == (0 : Int)) (y7 == (0 : Int)) true y4 y5 y6 (some (St.next σ, (0 : Nat)))
                      (3 : Nat) (some (3 : Nat)) v2 v2 true y0 v5 (v5 == (5 : Int)) (v5 == (5 : Int)))
                    v4
            else
              J Ex.normal
                (f8e13 false y0 y1 y2 y3 y4 y5 y6 y7 y1 (y1 == (0 : Int)) true y2 (y2 == (0 : Int)) (y2 == (0 : Int)) true y3 (y3 == (0 : Int))
                  (y3 == (0 : Int)) true y7 (y7 == (0 : Int)) (y7 == (0 : Int)) true y4 y5 y6 (some (St.next σ, (0 : Nat))) (3 : Nat) (some (3 : Nat))
                  v2 v2 false false)
                v1
      else
        J Ex.normal
          (f8e14 false y0 y1 y2 y3 y4 y5 y6 y7 y1 (y1 == (0 : Int)) true y2 (y2 == (0 : Int)) (y2 == (0 : Int)) true y3 (y3 == (0 : Int))
            (y3 == (0 : Int)) true y7 (y7 == (0 : Int)) (y7 == (0 : Int)) false false false false)
          σ
    else
      J Ex.normal
        (f8e15 false y0 y1 y2 y3 y4 y5 y6 y7 y1 (y1 == (0 : Int)) true y2 (y2 == (0 : Int)) (y2 == (0 : Int)) true y3 (y3 == (0 : Int))
          (y3 == (0 : Int)) false false false false false false)
        σ
  else
    J Ex.normal
      (f8e16 false y0 y1 y2 y3 y4 y5 y6 y7 y1 (y1 == (0 : Int)) true y2 (y2 == (0 : Int)) (y2 == (0 : Int)) false false false false false false false
        false)
      σ
else J Ex.normal (f8e17 false y0 y1 y2 y3 y4 y5 y6 y7 y1 (y1 == (0 : Int)) false false false false false false false false false false) σ := hide (by kernel_rfl)
theorem f8z12_f8e12 (y0 : Bool) (y1 : Option (Nat × Nat)) (y2 : Int) (y3 : Int) (y4 : Int) (y5 : Option (Nat × Nat)) (y6 : Nat) (y7 : Option Nat) (y8 : Int) (y9 : Int) (y10 : Bool) (y11 : Bool) (y12 : Int) (y13 : Bool) (y14 : Bool) (y15 : Bool) (y16 : Int) (y17 : Bool) (y18 : Bool) (y19 : Bool) (y20 : Int) (y21 : Bool) (y22 : Bool) (y23 : Bool) (y24 : Option (Nat × Nat)) (y25 : Nat) (y26 : Option Nat) (y27 : Option (Nat × Nat)) (y28 : Nat) (y29 : Option Nat) (y30 : Bool) (y31 : Bool) (y32 : Bool) (y33 : Option (Nat × Nat)) (y34 : Int) (y35 : Bool) (y36 : Bool) : Ann.clr f8a12 (f8e12 y0 y1 y2 y3 y4 y5 y6 y7 y8 y9 y10 y11 y12 y13 y14 y15 y16 y17 y18 y19 y20 y21 y22 y23 y24 y25 y26 y27 y28 y29 y30 y31 y32 y33 y34 y35 y36) = f8e1 y0 := hide (by kernel_rfl)
theorem f8y14_f8e1 {R : Type} (call : Bool → CallF R) (dem : Bool) (N : Nat) (y0 : Bool) (J : KF R) (σ : St) : runK Try.prog call dem N f8c14 f8a14 J (f8e1 y0) σ = J .ret (f8e1 y0) σ := runK_ret' (by kernel_rfl) (by kernel_rfl)
theorem f8z12_f8e13 (y0 : Bool) (y1 : Option (Nat × Nat)) (y2 : Int) (y3 : Int) (y4 : Int) (y5 : Option (Nat × Nat)) (y6 : Nat) (y7 : Option Nat) (y8 : Int) (y9 : Int) (y10 : Bool) (y11 : Bool) (y12 : Int) (y13 : Bool) (y14 : Bool) (y15 : Bool) (y16 : Int) (y17 : Bool) (y18 : Bool) (y19 : Bool) (y20 : Int) (y21 : Bool) (y22 : Bool) (y23 : Bool) (y24 : Option (Nat × Nat)) (y25 : Nat) (y26 : Option Nat) (y27 : Option (Nat × Nat)) (y28 : Nat) (y29 : Option Nat) (y30 : Bool) (y31 : Bool) (y32 : Bool) (y33 : Bool) : Ann.clr f8a12 (f8e13 y0 y1 y2 y3 y4 y5 y6 y7 y8 y9 y10 y11 y12 y13 y14 y15 y16 y17 y18 y19 y20 y21 y22 y23 y24 y25 y26 y27 y28 y29 y30 y31 y32 y33) = f8e1 y0 := hide (by kernel_rfl)
theorem f8z12_f8e14 (y0 : Bool) (y1 : Option (Nat × Nat)) (y2 : Int) (y3 : Int) (y4 : Int) (y5 : Option (Nat × Nat)) (y6 : Nat) (y7 : Option Nat) (y8 : Int) (y9 : Int) (y10 : Bool) (y11 : Bool) (y12 : Int) (y13 : Bool) (y14 : Bool) (y15 : Bool) (y16 : Int) (y17 : Bool) (y18 : Bool) (y19 : Bool) (y20 : Int) (y21 : Bool) (y22 : Bool) (y23 : Bool) (y24 : Bool) (y25 : Bool) (y26 : Bool) : Ann.clr f8a12 (f8e14 y0 y1 y2 y3 y4 y5 y6 y7 y8 y9 y10 y11 y12 y13 y14 y15 y16 y17 y18 y19 y20 y21 y22 y23 y24 y25 y26) = f8e1 y0 := hide (by kernel_rfl)
theorem f8z12_f8e15 (y0 : Bool) (y1 : Option (Nat × Nat)) (y2 : Int) (y3 : Int) (y4 : Int) (y5 : Option (Nat × Nat)) (y6 : Nat) (y7 : Option Nat) (y8 : Int) (y9 : Int) (y10 : Bool) (y11 : Bool) (y12 : Int) (y13 : Bool) (y14 : Bool) (y15 : Bool) (y16 : Int) (y17 : Bool) (y18 : Bool) (y19 : Bool) (y20 : Bool) (y21 : Bool) (y22 : Bool) (y23 : Bool) (y24 : Bool) : Ann.clr f8a12 (f8e15 y0 y1 y2 y3 y4 y5 y6 y7 y8 y9 y10 y11 y12 y13 y14 y15 y16 y17 y18 y19 y20 y21 y22 y23 y24) = f8e1 y0 := hide (by kernel_rfl)
theorem f8z12_f8e16 (y0 : Bool) (y1 : Option (Nat × Nat)) (y2 : Int) (y3 : Int) (y4 : Int) (y5 : Option (Nat × Nat)) (y6 : Nat) (y7 : Option Nat) (y8 : Int) (y9 : Int) (y10 : Bool) (y11 : Bool) (y12 : Int) (y13 : Bool) (y14 : Bool) (y15 : Bool) (y16 : Bool) (y17 : Bool) (y18 : Bool) (y19 : Bool) (y20 : Bool) (y21 : Bool) (y22 : Bool) : Ann.clr f8a12 (f8e16 y0 y1 y2 y3 y4 y5 y6 y7 y8 y9 y10 y11 y12 y13 y14 y15 y16 y17 y18 y19 y20 y21 y22) = f8e1 y0 := hide (by kernel_rfl)
theorem f8z12_f8e17 (y0 : Bool) (y1 : Option (Nat × Nat)) (y2 : Int) (y3 : Int) (y4 : Int) (y5 : Option (Nat × Nat)) (y6 : Nat) (y7 : Option Nat) (y8 : Int) (y9 : Int) (y10 : Bool) (y11 : Bool) (y12 : Bool) (y13 : Bool) (y14 : Bool) (y15 : Bool) (y16 : Bool) (y17 : Bool) (y18 : Bool) (y19 : Bool) (y20 : Bool) : Ann.clr f8a12 (f8e17 y0 y1 y2 y3 y4 y5 y6 y7 y8 y9 y10 y11 y12 y13 y14 y15 y16 y17 y18 y19 y20) = f8e1 y0 := hide (by kernel_rfl)
theorem f8b_f8e1_r {R : Type} (y0 : Bool) (σ : St) (K : AV → St → Option R) : bodyC Try.prog f8rs K (Ex.ret) (f8e1 y0) σ =
K (AV.bool y0) σ := hide (by kernel_rfl)
attribute [go_sem] f8_eq f8n0 f8r1_f8e0 f8z0_f8e1 f8n2 f8r3_f8e0 f8z2_f8e2 f8n4 f8r5_f8e3 f8z4_f8e4 f8n6 f8r7_f8e5 f8z6_f8e6 f8n8 f8r9_f8e7 f8z8_f8e8 f8n10 f8r11_f8e9 f8z10_f8e10 f8n12 f8r13_f8e11 f8z12_f8e12 f8y14_f8e1 f8z12_f8e13 f8z12_f8e14 f8z12_f8e15 f8z12_f8e16 f8z12_f8e17 f8b_f8e1_r

noncomputable def f19rs : List ResultVar := [ResultVar.tmp (4 : Nat)]
noncomputable def f19c0 : Code := subCode [] (bodyOf Try.prog 19)
def f19a0 : Ann := subAnn [] ann19
noncomputable def f19c1 : Code := subCode [0] (bodyOf Try.prog 19)
def f19a1 : Ann := subAnn [0] ann19
noncomputable def f19c2 : Code := subCode [1] (bodyOf Try.prog 19)
def f19a2 : Ann := subAnn [1] ann19
noncomputable def f19c3 : Code := subCode [1, 0] (bodyOf Try.prog 19)
def f19a3 : Ann := subAnn [1, 0] ann19
noncomputable def f19c4 : Code := subCode [1, 1] (bodyOf Try.prog 19)
def f19a4 : Ann := subAnn [1, 1] ann19
noncomputable def f19c5 : Code := subCode [1, 0, 0] (bodyOf Try.prog 19)
def f19a5 : Ann := subAnn [1, 0, 0] ann19
noncomputable def f19c6 : Code := subCode [1, 0, 1] (bodyOf Try.prog 19)
def f19a6 : Ann := subAnn [1, 0, 1] ann19
noncomputable def f19c7 : Code := subCode [1, 0, 1, 0] (bodyOf Try.prog 19)
def f19a7 : Ann := subAnn [1, 0, 1, 0] ann19
noncomputable def f19c8 : Code := subCode [1, 0, 1, 0, 0] (bodyOf Try.prog 19)
def f19a8 : Ann := subAnn [1, 0, 1, 0, 0] ann19
noncomputable def f19c9 : Code := subCode [1, 0, 1, 0, 0, 0] (bodyOf Try.prog 19)
def f19a9 : Ann := subAnn [1, 0, 1, 0, 0, 0] ann19
noncomputable def f19c10 : Code := subCode [1, 0, 1, 0, 0, 1] (bodyOf Try.prog 19)
def f19a10 : Ann := subAnn [1, 0, 1, 0, 0, 1] ann19
noncomputable def f19c11 : Code := subCode [1, 0, 1, 0, 0, 1, 0] (bodyOf Try.prog 19)
def f19a11 : Ann := subAnn [1, 0, 1, 0, 0, 1, 0] ann19
noncomputable def f19c12 : Code := subCode [1, 0, 1, 0, 0, 1, 1] (bodyOf Try.prog 19)
def f19a12 : Ann := subAnn [1, 0, 1, 0, 0, 1, 1] ann19
noncomputable def f19c13 : Code := subCode [1, 0, 1, 0, 0, 1, 0, 0] (bodyOf Try.prog 19)
def f19a13 : Ann := subAnn [1, 0, 1, 0, 0, 1, 0, 0] ann19
noncomputable def f19c14 : Code := subCode [1, 0, 1, 0, 0, 1, 0, 1] (bodyOf Try.prog 19)
def f19a14 : Ann := subAnn [1, 0, 1, 0, 0, 1, 0, 1] ann19
noncomputable def f19c15 : Code := subCode [1, 0, 1, 0, 0, 1, 1, 0] (bodyOf Try.prog 19)
def f19a15 : Ann := subAnn [1, 0, 1, 0, 0, 1, 1, 0] ann19
noncomputable def f19c16 : Code := subCode [1, 0, 1, 0, 0, 1, 1, 1] (bodyOf Try.prog 19)
def f19a16 : Ann := subAnn [1, 0, 1, 0, 0, 1, 1, 1] ann19
noncomputable def f19c17 : Code := subCode [1, 0, 1, 0, 0, 1, 1, 0, 0] (bodyOf Try.prog 19)
def f19a17 : Ann := subAnn [1, 0, 1, 0, 0, 1, 1, 0, 0] ann19
noncomputable def f19c18 : Code := subCode [1, 0, 1, 0, 0, 1, 1, 0, 0, 0] (bodyOf Try.prog 19)
def f19a18 : Ann := subAnn [1, 0, 1, 0, 0, 1, 1, 0, 0, 0] ann19
noncomputable def f19c19 : Code := subCode [1, 0, 1, 0, 0, 1, 1, 0, 0, 1] (bodyOf Try.prog 19)
def f19a19 : Ann := subAnn [1, 0, 1, 0, 0, 1, 1, 0, 0, 1] ann19
noncomputable def f19c20 : Code := subCode [1, 0, 1, 0, 0, 1, 1, 0, 0, 1, 0] (bodyOf Try.prog 19)
def f19a20 : Ann := subAnn [1, 0, 1, 0, 0, 1, 1, 0, 0, 1, 0] ann19
noncomputable def f19c21 : Code := subCode [1, 0, 1, 0, 0, 1, 1, 0, 0, 1, 1] (bodyOf Try.prog 19)
def f19a21 : Ann := subAnn [1, 0, 1, 0, 0, 1, 1, 0, 0, 1, 1] ann19
noncomputable def f19c22 : Code := subCode [1, 0, 1, 0, 0, 1, 1, 0, 0, 1, 1, 0] (bodyOf Try.prog 19)
def f19a22 : Ann := subAnn [1, 0, 1, 0, 0, 1, 1, 0, 0, 1, 1, 0] ann19
noncomputable def f19c23 : Code := subCode [1, 0, 1, 0, 0, 1, 1, 0, 0, 1, 1, 1] (bodyOf Try.prog 19)
def f19a23 : Ann := subAnn [1, 0, 1, 0, 0, 1, 1, 0, 0, 1, 1, 1] ann19
noncomputable def f19c24 : Code := subCode [1, 0, 1, 0, 0, 1, 1, 0, 0, 1, 1, 0, 0] (bodyOf Try.prog 19)
def f19a24 : Ann := subAnn [1, 0, 1, 0, 0, 1, 1, 0, 0, 1, 1, 0, 0] ann19
noncomputable def f19c25 : Code := subCode [1, 0, 1, 0, 0, 1, 1, 0, 0, 1, 1, 0, 1] (bodyOf Try.prog 19)
def f19a25 : Ann := subAnn [1, 0, 1, 0, 0, 1, 1, 0, 0, 1, 1, 0, 1] ann19
noncomputable def f19c26 : Code := subCode [1, 1, 0] (bodyOf Try.prog 19)
def f19a26 : Ann := subAnn [1, 1, 0] ann19
noncomputable def f19c27 : Code := subCode [1, 1, 1] (bodyOf Try.prog 19)
def f19a27 : Ann := subAnn [1, 1, 1] ann19
noncomputable def f19L7 {R : Type} (call : Bool → CallF R) (dem : Bool) (N : Nat) : KF R → Env → St → Option R := fun K e σ => runK Try.prog call dem N f19c8 f19a8 K e σ
def f19e0 (y0 : Option (Nat × Nat)) (y1 : Nat) (y2 : Option Nat) (y3 : Option (Nat × Nat)) (y4 : Nat) (y5 : Option Nat) : Env := AV.slice y0 y1 y2 (1 : Nat) :: AV.slice y3 y4 y5 (1 : Nat) :: Env.sp 30 []
def f19e1 (y0 : Option (Nat × Nat)) (y1 : Nat) (y2 : Option Nat) (y3 : Option (Nat × Nat)) (y4 : Nat) (y5 : Option Nat) (y6 : Bool) : Env := AV.slice y0 y1 y2 (1 : Nat) :: AV.slice y3 y4 y5 (1 : Nat) :: Env.sp 2 (AV.bool y6 :: Env.sp 27 [])
def f19e2 (y0 : Option (Nat × Nat)) (y1 : Nat) (y2 : Option Nat) (y3 : Option (Nat × Nat)) (y4 : Nat) (y5 : Option Nat) (y6 : Option (Nat × Nat)) (y7 : Nat) (y8 : Option Nat) (y9 : Int) (y10 : Int) : Env := AV.slice y0 y1 y2 (1 : Nat) :: AV.slice y3 y4 y5 (1 : Nat) :: Env.sp 4 (AV.slice y6 y7 y8 (1 : Nat) :: AV.int IntKind.i64 y9 :: AV.int IntKind.i64 y10 :: Env.sp 23 [])
def f19e3 (y0 : Option (Nat × Nat)) (y1 : Nat) (y2 : Option Nat) (y3 : Option (Nat × Nat)) (y4 : Nat) (y5 : Option Nat) (y6 : Int) (y7 : Int) : Env := AV.slice y0 y1 y2 (1 : Nat) :: AV.slice y3 y4 y5 (1 : Nat) :: Env.sp 5 (AV.int IntKind.i64 y6 :: AV.int IntKind.i64 y7 :: Env.sp 23 [])
def f19e4 (y0 : Option (Nat × Nat)) (y1 : Nat) (y2 : Option Nat) (y3 : Option (Nat × Nat)) (y4 : Nat) (y5 : Option Nat) (y6 : Int) (y7 : Int) (y8 : Bool) : Env := AV.slice y0 y1 y2 (1 : Nat) :: AV.slice y3 y4 y5 (1 : Nat) :: Env.sp 5 (AV.int IntKind.i64 y6 :: AV.int IntKind.i64 y7 :: AV.bool y8 :: Env.sp 22 [])
def f19e5 (y0 : Option (Nat × Nat)) (y1 : Nat) (y2 : Option Nat) (y3 : Option (Nat × Nat)) (y4 : Nat) (y5 : Option Nat) (y6 : Int) (y7 : Int) (y8 : Int) (y9 : Int) : Env := AV.slice y0 y1 y2 (1 : Nat) :: AV.slice y3 y4 y5 (1 : Nat) :: Env.sp 3 (AV.int IntKind.i64 y6 :: Env.sp 1 (AV.int IntKind.i64 y7 :: AV.int IntKind.i64 y8 :: Env.sp 1 (AV.int IntKind.i64 y9 :: Env.sp 21 [])))
def f19e6 (y0 : Option (Nat × Nat)) (y1 : Nat) (y2 : Option Nat) (y3 : Option (Nat × Nat)) (y4 : Nat) (y5 : Option Nat) (y6 : Int) (y7 : Int) (y8 : Int) : Env := AV.slice y0 y1 y2 (1 : Nat) :: AV.slice y3 y4 y5 (1 : Nat) :: Env.sp 3 (AV.int IntKind.i64 y6 :: Env.sp 1 (AV.int IntKind.i64 y7 :: AV.int IntKind.i64 y8 :: Env.sp 23 []))
def f19e7 (y0 : Option (Nat × Nat)) (y1 : Nat) (y2 : Option Nat) (y3 : Option (Nat × Nat)) (y4 : Nat) (y5 : Option Nat) (y6 : Int) (y7 : Int) (y8 : Int) (y9 : Int) (y10 : Option (Nat × Nat)) (y11 : Nat) (y12 : Option Nat) (y13 : Int) (y14 : Bool) (y15 : Bool) (y16 : Bool) : Env := AV.slice y0 y1 y2 (1 : Nat) :: AV.slice y3 y4 y5 (1 : Nat) :: Env.sp 3 (AV.int IntKind.i64 y6 :: Env.sp 1 (AV.int IntKind.i64 y7 :: AV.int IntKind.i64 y8 :: Env.sp 2 (AV.int IntKind.i64 y9 :: AV.slice y10 y11 y12 (1 : Nat) :: AV.int IntKind.i64 y13 :: AV.bool y14 :: AV.bool y15 :: AV.tuple [] :: AV.tuple [] :: AV.tuple [] :: AV.tuple [] :: AV.tuple [] :: AV.tuple [] :: AV.tuple [] :: AV.tuple [] :: AV.tuple [] :: AV.bool y16 :: Env.sp 6 [])))
def f19e8 (y0 : Option (Nat × Nat)) (y1 : Nat) (y2 : Option Nat) (y3 : Option (Nat × Nat)) (y4 : Nat) (y5 : Option Nat) (y6 : Int) (y7 : Int) (y8 : Int) (y9 : Int) (y10 : Option (Nat × Nat)) (y11 : Nat) (y12 : Option Nat) (y13 : Int) (y14 : Bool) (y15 : Bool) (y16 : Option (Nat × Nat)) (y17 : Nat) (y18 : Option Nat) (y19 : Int) (y20 : Option (Nat × Nat)) (y21 : Int) (y22 : Option (Nat × Nat)) (y23 : Nat) (y24 : Option Nat) (y25 : Int) (y26 : Option (Nat × Nat)) (y27 : Int) (y28 : Bool) (y29 : Bool) : Env := AV.slice y0 y1 y2 (1 : Nat) :: AV.slice y3 y4 y5 (1 : Nat) :: Env.sp 3 (AV.int IntKind.i64 y6 :: Env.sp 1 (AV.int IntKind.i64 y7 :: AV.int IntKind.i64 y8 :: Env.sp 2 (AV.int IntKind.i64 y9 :: AV.slice y10 y11 y12 (1 : Nat) :: AV.int IntKind.i64 y13 :: AV.bool y14 :: AV.bool y15 :: AV.slice y16 y17 y18 (1 : Nat) :: AV.int IntKind.i64 y19 :: AV.ptr y20 :: AV.int IntKind.i64 y21 :: AV.slice y22 y23 y24 (1 : Nat) :: AV.int IntKind.i64 y25 :: AV.ptr y26 :: AV.int IntKind.i64 y27 :: AV.bool y28 :: AV.bool y29 :: Env.sp 6 [])))
def f19e9 (y0 : Option (Nat × Nat)) (y1 : Nat) (y2 : Option Nat) (y3 : Option (Nat × Nat)) (y4 : Nat) (y5 : Option Nat) (y6 : Int) (y7 : Int) (y8 : Bool) : Env := AV.slice y0 y1 y2 (1 : Nat) :: AV.slice y3 y4 y5 (1 : Nat) :: Env.sp 5 (AV.int IntKind.i64 y6 :: AV.int IntKind.i64 y7 :: Env.sp 16 (AV.bool y8 :: Env.sp 6 []))
def f19e10 (y0 : Option (Nat × Nat)) (y1 : Nat) (y2 : Option Nat) (y3 : Option (Nat × Nat)) (y4 : Nat) (y5 : Option Nat) (y6 : Bool) (y7 : Int) (y8 : Int) (y9 : Bool) : Env := AV.slice y0 y1 y2 (1 : Nat) :: AV.slice y3 y4 y5 (1 : Nat) :: Env.sp 2 (AV.bool y6 :: Env.sp 2 (AV.int IntKind.i64 y7 :: AV.int IntKind.i64 y8 :: Env.sp 16 (AV.bool y9 :: Env.sp 6 [])))
def f19e11 (y0 : Bool) : Env := Env.sp 4 (AV.bool y0 :: Env.sp 27 [])
def f19e12 (y0 : Option (Nat × Nat)) (y1 : Nat) (y2 : Option Nat) (y3 : Option (Nat × Nat)) (y4 : Nat) (y5 : Option Nat) (y6 : Int) (y7 : Int) (y8 : Int) : Env := AV.slice y0 y1 y2 (1 : Nat) :: AV.slice y3 y4 y5 (1 : Nat) :: Env.sp 5 (AV.int IntKind.i64 y6 :: AV.int IntKind.i64 y7 :: Env.sp 17 (AV.int IntKind.i64 y8 :: Env.sp 5 []))
def f19e13 (y0 : Option (Nat × Nat)) (y1 : Nat) (y2 : Option Nat) (y3 : Option (Nat × Nat)) (y4 : Nat) (y5 : Option Nat) (y6 : Bool) (y7 : Option (Nat × Nat)) (y8 : Nat) (y9 : Option Nat) (y10 : Int) (y11 : Option (Nat × Nat)) (y12 : Nat) (y13 : Option Nat) (y14 : Int) (y15 : Bool) : Env := AV.slice y0 y1 y2 (1 : Nat) :: AV.slice y3 y4 y5 (1 : Nat) :: Env.sp 2 (AV.bool y6 :: Env.sp 22 (AV.slice y7 y8 y9 (1 : Nat) :: AV.int IntKind.i64 y10 :: AV.slice y11 y12 y13 (1 : Nat) :: AV.int IntKind.i64 y14 :: AV.bool y15 :: []))

/- function 19 -/
theorem f19_eq {R : Type} (call : Bool → CallF R) (dem : Bool) (N : Nat) (y0 : Option (Nat × Nat)) (y1 : Nat) (y2 : Option Nat) (y3 : Option (Nat × Nat)) (y4 : Nat) (y5 : Option Nat) (σ : St) (K : AV → St → Option R) :
    bodyK Try.prog call dem N ann 19 [AV.slice y0 y1 y2 (1 : Nat), AV.slice y3 y4 y5 (1 : Nat)] σ K = runK Try.prog call dem N f19c0 f19a0 (bodyC Try.prog f19rs K) (f19e0 y0 y1 y2 y3 y4 y5) σ := bodyK_of (fn := ((Try.prog.funcs[19]?).get rfl)) (by kernel_rfl) (by kernel_rfl) (by kernel_rfl) (by kernel_rfl) (by kernel_rfl) (by kernel_rfl)
theorem f19n0 {R : Type} (call : Bool → CallF R) (dem : Bool) (N : Nat) (J : KF R) (e : Env) (σ : St) : runK Try.prog call dem N f19c0 f19a0 J e σ = runK Try.prog call dem N f19c1 f19a1 (seqC (fun K e σ => runK Try.prog call dem N f19c2 f19a2 K e σ) f19a0 J) e σ := runK_seq' (by kernel_rfl) (by kernel_rfl) (by kernel_rfl)
theorem f19r1_f19e0 {R : Type} (call : Bool → CallF R) (dem : Bool) (N : Nat) (y0 : Option (Nat × Nat)) (y1 : Nat) (y2 : Option Nat) (y3 : Option (Nat × Nat)) (y4 : Nat) (y5 : Option Nat) (J : KF R) (σ : St) :
    runK Try.prog call dem N f19c1 f19a1 J (f19e0 y0 y1 y2 y3 y4 y5) σ =
J Ex.normal (f19e1 y0 y1 y2 y3 y4 y5 false) σ := hide (by kernel_rfl)
theorem f19z0_f19e1 (y0 : Option (Nat × Nat)) (y1 : Nat) (y2 : Option Nat) (y3 : Option (Nat × Nat)) (y4 : Nat) (y5 : Option Nat) (y6 : Bool) : Ann.clr f19a0 (f19e1 y0 y1 y2 y3 y4 y5 y6) = f19e0 y0 y1 y2 y3 y4 y5 := hide (by kernel_rfl)
theorem f19n2 {R : Type} (call : Bool → CallF R) (dem : Bool) (N : Nat) (J : KF R) (e : Env) (σ : St) : runK Try.prog call dem N f19c2 f19a2 J e σ = runK Try.prog call dem N f19c3 f19a3 (seqC (fun K e σ => runK Try.prog call dem N f19c4 f19a4 K e σ) f19a2 J) e σ := runK_seq' (by kernel_rfl) (by kernel_rfl) (by kernel_rfl)
theorem f19n3 {R : Type} (call : Bool → CallF R) (dem : Bool) (N : Nat) (J : KF R) (e : Env) (σ : St) : runK Try.prog call dem N f19c3 f19a3 J e σ = runK Try.prog call dem N f19c5 f19a5 (seqC (fun K e σ => runK Try.prog call dem N f19c6 f19a6 K e σ) f19a3 J) e σ := runK_seq' (by kernel_rfl) (by kernel_rfl) (by kernel_rfl)
theorem f19r5_f19e0 {R : Type} (call : Bool → CallF R) (dem : Bool) (N : Nat) (y0 : Option (Nat × Nat)) (y1 : Nat) (y2 : Option Nat) (y3 : Option (Nat × Nat)) (y4 : Nat) (y5 : Option Nat) (J : KF R) (σ : St) :
    runK Try.prog call dem N f19c5 f19a5 J (f19e0 y0 y1 y2 y3 y4 y5) σ =
J Ex.normal (f19e2 y0 y1 y2 y3 y4 y5 y0 y1 y2 (↑y1 : Int) (0 : Int)) σ := hide (by kernel_rfl)
theorem f19z3_f19e2 (y0 : Option (Nat × Nat)) (y1 : Nat) (y2 : Option Nat) (y3 : Option (Nat × Nat)) (y4 : Nat) (y5 : Option Nat) (y6 : Option (Nat × Nat)) (y7 : Nat) (y8 : Option Nat) (y9 : Int) (y10 : Int) : Ann.clr f19a3 (f19e2 y0 y1 y2 y3 y4 y5 y6 y7 y8 y9 y10) = f19e3 y0 y1 y2 y3 y4 y5 y9 y10 := hide (by kernel_rfl)
theorem f19n6 {R : Type} (call : Bool → CallF R) (dem : Bool) (N : Nat) (J : KF R) (e : Env) (σ : St) : runK Try.prog call dem N f19c6 f19a6 J e σ = runK Try.prog call dem N f19c7 f19a7 (blockC 0 f19a6 J) e σ := runK_block' (by kernel_rfl) (by kernel_rfl)
theorem f19L7_eq {R : Type} (call : Bool → CallF R) (dem : Bool) (N : Nat) (J : KF R) (e : Env) (σ : St) : f19L7 call dem N J e σ = runK Try.prog call dem N f19c8 f19a8 J e σ := hide rfl
theorem f19z7_f19e3 (y0 : Option (Nat × Nat)) (y1 : Nat) (y2 : Option Nat) (y3 : Option (Nat × Nat)) (y4 : Nat) (y5 : Option Nat) (y6 : Int) (y7 : Int) : Ann.clr f19a7 (f19e3 y0 y1 y2 y3 y4 y5 y6 y7) = f19e3 y0 y1 y2 y3 y4 y5 y6 y7 := hide (by kernel_rfl)
theorem f19l7_f19e3 {R : Type} (call : Bool → CallF R) (dem : Bool) (N : Nat) (y0 : Option (Nat × Nat)) (y1 : Nat) (y2 : Option Nat) (y3 : Option (Nat × Nat)) (y4 : Nat) (y5 : Option Nat) (y6 : Int) (y7 : Int) (J : KF R) (σ : St) : runK Try.prog call dem N f19c7 f19a7 J (f19e3 y0 y1 y2 y3 y4 y5 y6 y7) σ = loopK (f19L7 call dem N) f19a7 N J (f19e3 y0 y1 y2 y3 y4 y5 y6 y7) σ := runK_loop' (by kernel_rfl) (by kernel_rfl) (by kernel_rfl)
theorem f19n8 {R : Type} (call : Bool → CallF R) (dem : Bool) (N : Nat) (J : KF R) (e : Env) (σ : St) : runK Try.prog call dem N f19c8 f19a8 J e σ = runK Try.prog call dem N f19c9 f19a9 (seqC (fun K e σ => runK Try.prog call dem N f19c10 f19a10 K e σ) f19a8 J) e σ := runK_seq' (by kernel_rfl) (by kernel_rfl) (by kernel_rfl)
theorem f19r9_f19e3 {R : Type} (call : Bool → CallF R) (dem : Bool) (N : Nat) (y0 : Option (Nat × Nat)) (y1 : Nat) (y2 : Option Nat) (y3 : Option (Nat × Nat)) (y4 : Nat) (y5 : Option Nat) (y6 : Int) (y7 : Int) (J : KF R) (σ : St) :
    runK Try.prog call dem N f19c9 f19a9 J (f19e3 y0 y1 y2 y3 y4 y5 y6 y7) σ =
J Ex.normal (f19e4 y0 y1 y2 y3 y4 y5 y6 y7 (decide (y7 < y6))) σ := hide (by kernel_rfl)
theorem f19z8_f19e4 (y0 : Option (Nat × Nat)) (y1 : Nat) (y2 : Option Nat) (y3 : Option (Nat × Nat)) (y4 : Nat) (y5 : Option Nat) (y6 : Int) (y7 : Int) (y8 : Bool) : Ann.clr f19a8 (f19e4 y0 y1 y2 y3 y4 y5 y6 y7 y8) = f19e4 y0 y1 y2 y3 y4 y5 y6 y7 y8 := hide (by kernel_rfl)
theorem f19n10 {R : Type} (call : Bool → CallF R) (dem : Bool) (N : Nat) (J : KF R) (e : Env) (σ : St) : runK Try.prog call dem N f19c10 f19a10 J e σ = runK Try.prog call dem N f19c11 f19a11 (seqC (fun K e σ => runK Try.prog call dem N f19c12 f19a12 K e σ) f19a10 J) e σ := runK_seq' (by kernel_rfl) (by kernel_rfl) (by kernel_rfl)
theorem f19x11_f19e4 {R : Type} (call : Bool → CallF R) (dem : Bool) (N : Nat) (y0 : Option (Nat × Nat)) (y1 : Nat) (y2 : Option Nat) (y3 : Option (Nat × Nat)) (y4 : Nat) (y5 : Option Nat) (y6 : Int) (y7 : Int) (y8 : Bool) (J : KF R) (σ : St) : runK Try.prog call dem N f19c11 f19a11 J (f19e4 y0 y1 y2 y3 y4 y5 y6 y7 y8) σ = if y8 = true then runK Try.prog call dem N f19c13 f19a13 (condC f19a11 J) (f19e4 y0 y1 y2 y3 y4 y5 y6 y7 y8) σ else runK Try.prog call dem N f19c14 f19a14 (condC f19a11 J) (f19e4 y0 y1 y2 y3 y4 y5 y6 y7 y8) σ := runK_cond' (o := Operand.tmp (9 : Nat)) (by kernel_rfl) (by kernel_rfl) (by kernel_rfl) (by kernel_rfl)
theorem f19n13 {R : Type} (call : Bool → CallF R) (dem : Bool) (N : Nat) (J : KF R) (e : Env) (σ : St) : runK Try.prog call dem N f19c13 f19a13 J e σ = J .normal e σ := runK_skip' (by kernel_rfl)
theorem f19z11_f19e4 (y0 : Option (Nat × Nat)) (y1 : Nat) (y2 : Option Nat) (y3 : Option (Nat × Nat)) (y4 : Nat) (y5 : Option Nat) (y6 : Int) (y7 : Int) (y8 : Bool) : Ann.clr f19a11 (f19e4 y0 y1 y2 y3 y4 y5 y6 y7 y8) = f19e3 y0 y1 y2 y3 y4 y5 y6 y7 := hide (by kernel_rfl)
theorem f19y14_f19e4 {R : Type} (call : Bool → CallF R) (dem : Bool) (N : Nat) (y0 : Option (Nat × Nat)) (y1 : Nat) (y2 : Option Nat) (y3 : Option (Nat × Nat)) (y4 : Nat) (y5 : Option Nat) (y6 : Int) (y7 : Int) (y8 : Bool) (J : KF R) (σ : St) : runK Try.prog call dem N f19c14 f19a14 J (f19e4 y0 y1 y2 y3 y4 y5 y6 y7 y8) σ = J (.exit 0) (f19e0 y0 y1 y2 y3 y4 y5) σ := runK_exit' (by kernel_rfl) (by kernel_rfl)
theorem f19z10_f19e3 (y0 : Option (Nat × Nat)) (y1 : Nat) (y2 : Option Nat) (y3 : Option (Nat × Nat)) (y4 : Nat) (y5 : Option Nat) (y6 : Int) (y7 : Int) : Ann.clr f19a10 (f19e3 y0 y1 y2 y3 y4 y5 y6 y7) = f19e3 y0 y1 y2 y3 y4 y5 y6 y7 := hide (by kernel_rfl)
theorem f19n12 {R : Type} (call : Bool → CallF R) (dem : Bool) (N : Nat) (J : KF R) (e : Env) (σ : St) : runK Try.prog call dem N f19c12 f19a12 J e σ = runK Try.prog call dem N f19c15 f19a15 (seqC (fun K e σ => runK Try.prog call dem N f19c16 f19a16 K e σ) f19a12 J) e σ := runK_seq' (by kernel_rfl) (by kernel_rfl) (by kernel_rfl)
theorem f19n15 {R : Type} (call : Bool → CallF R) (dem : Bool) (N : Nat) (J : KF R) (e : Env) (σ : St) : runK Try.prog call dem N f19c15 f19a15 J e σ = runK Try.prog call dem N f19c17 f19a17 (blockC 1 f19a15 J) e σ := runK_block' (by kernel_rfl) (by kernel_rfl)
theorem f19n17 {R : Type} (call : Bool → CallF R) (dem : Bool) (N : Nat) (J : KF R) (e : Env) (σ : St) : runK Try.prog call dem N f19c17 f19a17 J e σ = runK Try.prog call dem N f19c18 f19a18 (seqC (fun K e σ => runK Try.prog call dem N f19c19 f19a19 K e σ) f19a17 J) e σ := runK_seq' (by kernel_rfl) (by kernel_rfl) (by kernel_rfl)
theorem f19r18_f19e3 {R : Type} (call : Bool → CallF R) (dem : Bool) (N : Nat) (y0 : Option (Nat × Nat)) (y1 : Nat) (y2 : Option Nat) (y3 : Option (Nat × Nat)) (y4 : Nat) (y5 : Option Nat) (y6 : Int) (y7 : Int) (J : KF R) (σ : St) :
    runK Try.prog call dem N f19c18 f19a18 J (f19e3 y0 y1 y2 y3 y4 y5 y6 y7) σ =
J Ex.normal (f19e5 y0 y1 y2 y3 y4 y5 y7 y6 y7 y7) σ := hide (by kernel_rfl)
theorem f19z17_f19e5 (y0 : Option (Nat × Nat)) (y1 : Nat) (y2 : Option Nat) (y3 : Option (Nat × Nat)) (y4 : Nat) (y5 : Option Nat) (y6 : Int) (y7 : Int) (y8 : Int) (y9 : Int) : Ann.clr f19a17 (f19e5 y0 y1 y2 y3 y4 y5 y6 y7 y8 y9) = f19e6 y0 y1 y2 y3 y4 y5 y6 y7 y8 := hide (by kernel_rfl)
theorem f19n19 {R : Type} (call : Bool → CallF R) (dem : Bool) (N : Nat) (J : KF R) (e : Env) (σ : St) : runK Try.prog call dem N f19c19 f19a19 J e σ = runK Try.prog call dem N f19c20 f19a20 (seqC (fun K e σ => runK Try.prog call dem N f19c21 f19a21 K e σ) f19a19 J) e σ := runK_seq' (by kernel_rfl) (by kernel_rfl) (by kernel_rfl)
theorem f19r20_f19e6 {R : Type} (call : Bool → CallF R) (dem : Bool) (N : Nat) (y0 : Option (Nat × Nat)) (y1 : Nat) (y2 : Option Nat) (y3 : Option (Nat × Nat)) (y4 : Nat) (y5 : Option Nat) (y6 : Int) (y7 : Int) (y8 : Int) (J : KF R) (σ : St) :
    runK Try.prog call dem N f19c20 f19a20 J (f19e6 y0 y1 y2 y3 y4 y5 y6 y7 y8) σ =
if decide (y6 ≥ (↑y4 : Int)) = true then
  J Ex.normal (f19e7 y0 y1 y2 y3 y4 y5 y6 y7 y8 y6 y3 y4 y5 (↑y4 : Int) (decide (y6 ≥ (↑y4 : Int))) true true) σ
else
  if (0 : Int) ≤ y6 ∧ y6 < (↑y1 : Int) then
    Option.bind y0 fun v0 =>
      Option.bind (St.ld σ (Prod.fst v0) (Prod.snd v0 + Int.toNat y6 * (1 : Nat))) fun v1 =>
        Option.bind (AV.toInt IntKind.i64 v1) fun v2 =>
          if (0 : Int) ≤ y6 ∧ y6 < (↑y4 : Int) then
            Option.bind y3 fun v3 =>
              Option.bind (St.ld σ (Prod.fst v3) (Prod.snd v3 + Int.toNat y6 * (1 : Nat))) fun v4 =>
                Option.bind (AV.toInt IntKind.i64 v4) fun v5 =>
                  J Ex.normal
                    (f19e8 y0 y1 y2 y3 y4 y5 y6 y7 y8 y6 y3 y4 y5 (↑y4 : Int) (decide (y6 ≥ (↑y4 : Int))) false y0 y1 y2 y6
                      (some (Prod.fst v0, Prod.snd v0 + Int.toNat y6 * (1 : Nat))) v2 y3 y4 y5 y6
                      (some (Prod.fst v3, Prod.snd v3 + Int.toNat y6 * (1 : Nat))) v5 (v2 != v5) (v2 != v5))
                    σ
          else none
  else none := hide (by kernel_rfl)
theorem f19z19_f19e7 (y0 : Option (Nat × Nat)) (y1 : Nat) (y2 : Option Nat) (y3 : Option (Nat × Nat)) (y4 : Nat) (y5 : Option Nat) (y6 : Int) (y7 : Int) (y8 : Int) (y9 : Int) (y10 : Option (Nat × Nat)) (y11 : Nat) (y12 : Option Nat) (y13 : Int) (y14 : Bool) (y15 : Bool) (y16 : Bool) : Ann.clr f19a19 (f19e7 y0 y1 y2 y3 y4 y5 y6 y7 y8 y9 y10 y11 y12 y13 y14 y15 y16) = f19e9 y0 y1 y2 y3 y4 y5 y7 y8 y16 := hide (by kernel_rfl)
theorem f19x21_f19e9 {R : Type} (call : Bool → CallF R) (dem : Bool) (N : Nat) (y0 : Option (Nat × Nat)) (y1 : Nat) (y2 : Option Nat) (y3 : Option (Nat × Nat)) (y4 : Nat) (y5 : Option Nat) (y6 : Int) (y7 : Int) (y8 : Bool) (J : KF R) (σ : St) : runK Try.prog call dem N f19c21 f19a21 J (f19e9 y0 y1 y2 y3 y4 y5 y6 y7 y8) σ = if y8 = true then runK Try.prog call dem N f19c22 f19a22 (condC f19a21 J) (f19e9 y0 y1 y2 y3 y4 y5 y6 y7 y8) σ else runK Try.prog call dem N f19c23 f19a23 (condC f19a21 J) (f19e9 y0 y1 y2 y3 y4 y5 y6 y7 y8) σ := runK_cond' (o := Operand.tmp (25 : Nat)) (by kernel_rfl) (by kernel_rfl) (by kernel_rfl) (by kernel_rfl)
theorem f19n22 {R : Type} (call : Bool → CallF R) (dem : Bool) (N : Nat) (J : KF R) (e : Env) (σ : St) : runK Try.prog call dem N f19c22 f19a22 J e σ = runK Try.prog call dem N f19c24 f19a24 (seqC (fun K e σ => runK Try.prog call dem N f19c25 f19a25 K e σ) f19a22 J) e σ := runK_seq' (by kernel_rfl) (by kernel_rfl) (by kernel_rfl)
theorem f19r24_f19e9 {R : Type} (call : Bool → CallF R) (dem : Bool) (N : Nat) (y0 : Option (Nat × Nat)) (y1 : Nat) (y2 : Option Nat) (y3 : Option (Nat × Nat)) (y4 : Nat) (y5 : Option Nat) (y6 : Int) (y7 : Int) (y8 : Bool) (J : KF R) (σ : St) :
    runK Try.prog call dem N f19c24 f19a24 J (f19e9 y0 y1 y2 y3 y4 y5 y6 y7 y8) σ =
J Ex.normal (f19e10 y0 y1 y2 y3 y4 y5 false y6 y7 y8) σ := hide (by kernel_rfl)
theorem f19z22_f19e10 (y0 : Option (Nat × Nat)) (y1 : Nat) (y2 : Option Nat) (y3 : Option (Nat × Nat)) (y4 : Nat) (y5 : Option Nat) (y6 : Bool) (y7 : Int) (y8 : Int) (y9 : Bool) : Ann.clr f19a22 (f19e10 y0 y1 y2 y3 y4 y5 y6 y7 y8 y9) = f19e11 y6 := hide (by kernel_rfl)
theorem f19y25_f19e11 {R : Type} (call : Bool → CallF R) (dem : Bool) (N : Nat) (y0 : Bool) (J : KF R) (σ : St) : runK Try.prog call dem N f19c25 f19a25 J (f19e11 y0) σ = J .ret (f19e11 y0) σ := runK_ret' (by kernel_rfl) (by kernel_rfl)
theorem f19n23 {R : Type} (call : Bool → CallF R) (dem : Bool) (N : Nat) (J : KF R) (e : Env) (σ : St) : runK Try.prog call dem N f19c23 f19a23 J e σ = J .normal e σ := runK_skip' (by kernel_rfl)
theorem f19z21_f19e9 (y0 : Option (Nat × Nat)) (y1 : Nat) (y2 : Option Nat) (y3 : Option (Nat × Nat)) (y4 : Nat) (y5 : Option Nat) (y6 : Int) (y7 : Int) (y8 : Bool) : Ann.clr f19a21 (f19e9 y0 y1 y2 y3 y4 y5 y6 y7 y8) = f19e3 y0 y1 y2 y3 y4 y5 y6 y7 := hide (by kernel_rfl)
theorem f19z19_f19e8 (y0 : Option (Nat × Nat)) (y1 : Nat) (y2 : Option Nat) (y3 : Option (Nat × Nat)) (y4 : Nat) (y5 : Option Nat) (y6 : Int) (y7 : Int) (y8 : Int) (y9 : Int) (y10 : Option (Nat × Nat)) (y11 : Nat) (y12 : Option Nat) (y13 : Int) (y14 : Bool) (y15 : Bool) (y16 : Option (Nat × Nat)) (y17 : Nat) (y18 : Option Nat) (y19 : Int) (y20 : Option (Nat × Nat)) (y21 : Int) (y22 : Option (Nat × Nat)) (y23 : Nat) (y24 : Option Nat) (y25 : Int) (y26 : Option (Nat × Nat)) (y27 : Int) (y28 : Bool) (y29 : Bool) : Ann.clr f19a19 (f19e8 y0 y1 y2 y3 y4 y5 y6 y7 y8 y9 y10 y11 y12 y13 y14 y15 y16 y17 y18 y19 y20 y21 y22 y23 y24 y25 y26 y27 y28 y29) = f19e9 y0 y1 y2 y3 y4 y5 y7 y8 y29 := hide (by kernel_rfl)
theorem f19z15_f19e3 (y0 : Option (Nat × Nat)) (y1 : Nat) (y2 : Option Nat) (y3 : Option (Nat × Nat)) (y4 : Nat) (y5 : Option Nat) (y6 : Int) (y7 : Int) : Ann.clr f19a15 (f19e3 y0 y1 y2 y3 y4 y5 y6 y7) = f19e3 y0 y1 y2 y3 y4 y5 y6 y7 := hide (by kernel_rfl)
theorem f19z12_f19e3 (y0 : Option (Nat × Nat)) (y1 : Nat) (y2 : Option Nat) (y3 : Option (Nat × Nat)) (y4 : Nat) (y5 : Option Nat) (y6 : Int) (y7 : Int) : Ann.clr f19a12 (f19e3 y0 y1 y2 y3 y4 y5 y6 y7) = f19e3 y0 y1 y2 y3 y4 y5 y6 y7 := hide (by kernel_rfl)
theorem f19r16_f19e3 {R : Type} (call : Bool → CallF R) (dem : Bool) (N : Nat) (y0 : Option (Nat × Nat)) (y1 : Nat) (y2 : Option Nat) (y3 : Option (Nat × Nat)) (y4 : Nat) (y5 : Option Nat) (y6 : Int) (y7 : Int) (J : KF R) (σ : St) :
    runK Try.prog call dem N f19c16 f19a16 J (f19e3 y0 y1 y2 y3 y4 y5 y6 y7) σ =
J Ex.normal (f19e12 y0 y1 y2 y3 y4 y5 y6 (IntKind.wrap IntKind.i64 (y7 + (1 : Int))) (IntKind.wrap IntKind.i64 (y7 + (1 : Int)))) σ := hide (by kernel_rfl)
theorem f19z7_f19e12 (y0 : Option (Nat × Nat)) (y1 : Nat) (y2 : Option Nat) (y3 : Option (Nat × Nat)) (y4 : Nat) (y5 : Option Nat) (y6 : Int) (y7 : Int) (y8 : Int) : Ann.clr f19a7 (f19e12 y0 y1 y2 y3 y4 y5 y6 y7 y8) = f19e3 y0 y1 y2 y3 y4 y5 y6 y7 := hide (by kernel_rfl)
theorem f19z6_f19e0 (y0 : Option (Nat × Nat)) (y1 : Nat) (y2 : Option Nat) (y3 : Option (Nat × Nat)) (y4 : Nat) (y5 : Option Nat) : Ann.clr f19a6 (f19e0 y0 y1 y2 y3 y4 y5) = f19e0 y0 y1 y2 y3 y4 y5 := hide (by kernel_rfl)
theorem f19z2_f19e0 (y0 : Option (Nat × Nat)) (y1 : Nat) (y2 : Option Nat) (y3 : Option (Nat × Nat)) (y4 : Nat) (y5 : Option Nat) : Ann.clr f19a2 (f19e0 y0 y1 y2 y3 y4 y5) = f19e0 y0 y1 y2 y3 y4 y5 := hide (by kernel_rfl)
theorem f19n4 {R : Type} (call : Bool → CallF R) (dem : Bool) (N : Nat) (J : KF R) (e : Env) (σ : St) : runK Try.prog call dem N f19c4 f19a4 J e σ = runK Try.prog call dem N f19c26 f19a26 (seqC (fun K e σ => runK Try.prog call dem N f19c27 f19a27 K e σ) f19a4 J) e σ := runK_seq' (by kernel_rfl) (by kernel_rfl) (by kernel_rfl)
theorem f19r26_f19e0 {R : Type} (call : Bool → CallF R) (dem : Bool) (N : Nat) (y0 : Option (Nat × Nat)) (y1 : Nat) (y2 : Option Nat) (y3 : Option (Nat × Nat)) (y4 : Nat) (y5 : Option Nat) (J : KF R) (σ : St) :
    runK Try.prog call dem N f19c26 f19a26 J (f19e0 y0 y1 y2 y3 y4 y5) σ =
J Ex.normal (f19e13 y0 y1 y2 y3 y4 y5 ((↑y1 : Int) == (↑y4 : Int)) y0 y1 y2 (↑y1 : Int) y3 y4 y5 (↑y4 : Int) ((↑y1 : Int) == (↑y4 : Int))) σ := hide (by kernel_rfl)
theorem f19z4_f19e13 (y0 : Option (Nat × Nat)) (y1 : Nat) (y2 : Option Nat) (y3 : Option (Nat × Nat)) (y4 : Nat) (y5 : Option Nat) (y6 : Bool) (y7 : Option (Nat × Nat)) (y8 : Nat) (y9 : Option Nat) (y10 : Int) (y11 : Option (Nat × Nat)) (y12 : Nat) (y13 : Option Nat) (y14 : Int) (y15 : Bool) : Ann.clr f19a4 (f19e13 y0 y1 y2 y3 y4 y5 y6 y7 y8 y9 y10 y11 y12 y13 y14 y15) = f19e11 y6 := hide (by kernel_rfl)
theorem f19y27_f19e11 {R : Type} (call : Bool → CallF R) (dem : Bool) (N : Nat) (y0 : Bool) (J : KF R) (σ : St) : runK Try.prog call dem N f19c27 f19a27 J (f19e11 y0) σ = J .ret (f19e11 y0) σ := runK_ret' (by kernel_rfl) (by kernel_rfl)
theorem f19b_f19e11_r {R : Type} (y0 : Bool) (σ : St) (K : AV → St → Option R) : bodyC Try.prog f19rs K (Ex.ret) (f19e11 y0) σ =
K (AV.bool y0) σ := hide (by kernel_rfl)
attribute [go_sem] f19_eq f19n0 f19r1_f19e0 f19z0_f19e1 f19n2 f19n3 f19r5_f19e0 f19z3_f19e2 f19n6 f19L7_eq f19z7_f19e3 f19l7_f19e3 f19n8 f19r9_f19e3 f19z8_f19e4 f19n10 f19x11_f19e4 f19n13 f19z11_f19e4 f19y14_f19e4 f19z10_f19e3 f19n12 f19n15 f19n17 f19r18_f19e3 f19z17_f19e5 f19n19 f19r20_f19e6 f19z19_f19e7 f19x21_f19e9 f19n22 f19r24_f19e9 f19z22_f19e10 f19y25_f19e11 f19n23 f19z21_f19e9 f19z19_f19e8 f19z15_f19e3 f19z12_f19e3 f19r16_f19e3 f19z7_f19e12 f19z6_f19e0 f19z2_f19e0 f19n4 f19r26_f19e0 f19z4_f19e13 f19y27_f19e11 f19b_f19e11_r

end Go.Proofs.Ytciibgjmdgpgnaa
