/- What the machine does with each piece of code, in plain text. PRINTED by a program of this workplace; Lean checks it. -/
import Derived.Test.YtmgacgonoodkfaaWiAnn
import Derived.Test.YtmgacgonoodkfaaProg
import Derived.KernelRfl
import Derived.Attr
namespace Go.Proofs.Ytmgacgonoodkfaa
open Go.AM
set_option maxRecDepth 100000
set_option linter.unusedVariables false
noncomputable def f17rs : List ResultVar := [ResultVar.tmp (6 : Nat), ResultVar.tmp (7 : Nat)]
noncomputable def f17c0 : Code := subCode [] (bodyOf Try.prog 17)
def f17a0 : Ann := subAnn [] ann17
noncomputable def f17c1 : Code := subCode [0] (bodyOf Try.prog 17)
def f17a1 : Ann := subAnn [0] ann17
noncomputable def f17c2 : Code := subCode [1] (bodyOf Try.prog 17)
def f17a2 : Ann := subAnn [1] ann17
noncomputable def f17c3 : Code := subCode [1, 0] (bodyOf Try.prog 17)
def f17a3 : Ann := subAnn [1, 0] ann17
noncomputable def f17c4 : Code := subCode [1, 1] (bodyOf Try.prog 17)
def f17a4 : Ann := subAnn [1, 1] ann17
noncomputable def f17c5 : Code := subCode [1, 0, 0] (bodyOf Try.prog 17)
def f17a5 : Ann := subAnn [1, 0, 0] ann17
noncomputable def f17c6 : Code := subCode [1, 0, 1] (bodyOf Try.prog 17)
def f17a6 : Ann := subAnn [1, 0, 1] ann17
noncomputable def f17c7 : Code := subCode [1, 0, 1, 0] (bodyOf Try.prog 17)
def f17a7 : Ann := subAnn [1, 0, 1, 0] ann17
noncomputable def f17c8 : Code := subCode [1, 0, 1, 1] (bodyOf Try.prog 17)
def f17a8 : Ann := subAnn [1, 0, 1, 1] ann17
noncomputable def f17c9 : Code := subCode [1, 0, 1, 1, 0] (bodyOf Try.prog 17)
def f17a9 : Ann := subAnn [1, 0, 1, 1, 0] ann17
noncomputable def f17c10 : Code := subCode [1, 0, 1, 1, 1] (bodyOf Try.prog 17)
def f17a10 : Ann := subAnn [1, 0, 1, 1, 1] ann17
noncomputable def f17c11 : Code := subCode [1, 0, 1, 1, 0, 0] (bodyOf Try.prog 17)
def f17a11 : Ann := subAnn [1, 0, 1, 1, 0, 0] ann17
noncomputable def f17c12 : Code := subCode [1, 0, 1, 1, 0, 1] (bodyOf Try.prog 17)
def f17a12 : Ann := subAnn [1, 0, 1, 1, 0, 1] ann17
noncomputable def f17c13 : Code := subCode [1, 1, 0] (bodyOf Try.prog 17)
def f17a13 : Ann := subAnn [1, 1, 0] ann17
noncomputable def f17c14 : Code := subCode [1, 1, 1] (bodyOf Try.prog 17)
def f17a14 : Ann := subAnn [1, 1, 1] ann17
noncomputable def f17c15 : Code := subCode [1, 1, 1, 0] (bodyOf Try.prog 17)
def f17a15 : Ann := subAnn [1, 1, 1, 0] ann17
noncomputable def f17c16 : Code := subCode [1, 1, 1, 1] (bodyOf Try.prog 17)
def f17a16 : Ann := subAnn [1, 1, 1, 1] ann17
noncomputable def f17c17 : Code := subCode [1, 1, 1, 0, 0] (bodyOf Try.prog 17)
def f17a17 : Ann := subAnn [1, 1, 1, 0, 0] ann17
noncomputable def f17c18 : Code := subCode [1, 1, 1, 0, 1] (bodyOf Try.prog 17)
def f17a18 : Ann := subAnn [1, 1, 1, 0, 1] ann17
noncomputable def f17c19 : Code := subCode [1, 1, 1, 0, 1, 0] (bodyOf Try.prog 17)
def f17a19 : Ann := subAnn [1, 1, 1, 0, 1, 0] ann17
noncomputable def f17c20 : Code := subCode [1, 1, 1, 0, 1, 1] (bodyOf Try.prog 17)
def f17a20 : Ann := subAnn [1, 1, 1, 0, 1, 1] ann17
noncomputable def f17c21 : Code := subCode [1, 1, 1, 0, 1, 1, 0] (bodyOf Try.prog 17)
def f17a21 : Ann := subAnn [1, 1, 1, 0, 1, 1, 0] ann17
noncomputable def f17c22 : Code := subCode [1, 1, 1, 0, 1, 1, 1] (bodyOf Try.prog 17)
def f17a22 : Ann := subAnn [1, 1, 1, 0, 1, 1, 1] ann17
noncomputable def f17c23 : Code := subCode [1, 1, 1, 0, 1, 1, 0, 0] (bodyOf Try.prog 17)
def f17a23 : Ann := subAnn [1, 1, 1, 0, 1, 1, 0, 0] ann17
noncomputable def f17c24 : Code := subCode [1, 1, 1, 0, 1, 1, 0, 1] (bodyOf Try.prog 17)
def f17a24 : Ann := subAnn [1, 1, 1, 0, 1, 1, 0, 1] ann17
noncomputable def f17c25 : Code := subCode [1, 1, 1, 1, 0] (bodyOf Try.prog 17)
def f17a25 : Ann := subAnn [1, 1, 1, 1, 0] ann17
noncomputable def f17c26 : Code := subCode [1, 1, 1, 1, 1] (bodyOf Try.prog 17)
def f17a26 : Ann := subAnn [1, 1, 1, 1, 1] ann17
noncomputable def f17c27 : Code := subCode [1, 1, 1, 1, 1, 0] (bodyOf Try.prog 17)
def f17a27 : Ann := subAnn [1, 1, 1, 1, 1, 0] ann17
noncomputable def f17c28 : Code := subCode [1, 1, 1, 1, 1, 1] (bodyOf Try.prog 17)
def f17a28 : Ann := subAnn [1, 1, 1, 1, 1, 1] ann17
noncomputable def f17c29 : Code := subCode [1, 1, 1, 1, 1, 0, 0] (bodyOf Try.prog 17)
def f17a29 : Ann := subAnn [1, 1, 1, 1, 1, 0, 0] ann17
noncomputable def f17c30 : Code := subCode [1, 1, 1, 1, 1, 0, 1] (bodyOf Try.prog 17)
def f17a30 : Ann := subAnn [1, 1, 1, 1, 1, 0, 1] ann17
noncomputable def f17c31 : Code := subCode [1, 1, 1, 1, 1, 0, 1, 0] (bodyOf Try.prog 17)
def f17a31 : Ann := subAnn [1, 1, 1, 1, 1, 0, 1, 0] ann17
noncomputable def f17c32 : Code := subCode [1, 1, 1, 1, 1, 0, 1, 1] (bodyOf Try.prog 17)
def f17a32 : Ann := subAnn [1, 1, 1, 1, 1, 0, 1, 1] ann17
noncomputable def f17c33 : Code := subCode [1, 1, 1, 1, 1, 1, 0] (bodyOf Try.prog 17)
def f17a33 : Ann := subAnn [1, 1, 1, 1, 1, 1, 0] ann17
noncomputable def f17c34 : Code := subCode [1, 1, 1, 1, 1, 1, 1] (bodyOf Try.prog 17)
def f17a34 : Ann := subAnn [1, 1, 1, 1, 1, 1, 1] ann17
def f17e0 (y0 : Option (Nat × Nat)) (y1 : Int) (y2 : Int) : Env := AV.ptr y0 :: AV.int IntKind.i64 y1 :: AV.int IntKind.i64 y2 :: Env.sp 62 []
def f17e1 (y0 : Option (Nat × Nat)) (y1 : Int) (y2 : Int) (y3 : Option (Nat × Nat)) (y4 : Int) : Env := AV.ptr y0 :: AV.int IntKind.i64 y1 :: AV.int IntKind.i64 y2 :: Env.sp 3 (AV.ptr y3 :: AV.int IntKind.i64 y4 :: Env.sp 57 [])
def f17e2 (y0 : Option (Nat × Nat)) (y1 : Int) (y2 : Int) (y3 : Int) (y4 : Option (Nat × Nat)) (y5 : Int) (y6 : Int) (y7 : Int) : Env := AV.ptr y0 :: AV.int IntKind.i64 y1 :: AV.int IntKind.i64 y2 :: Env.sp 5 (AV.int IntKind.i64 y3 :: Env.sp 5 (AV.ptr y4 :: AV.int IntKind.i64 y5 :: AV.int IntKind.i64 y6 :: AV.int IntKind.i64 y7 :: Env.sp 47 []))
def f17e3 (y0 : Option (Nat × Nat)) (y1 : Int) (y2 : Int) (y3 : Int) : Env := AV.ptr y0 :: AV.int IntKind.i64 y1 :: AV.int IntKind.i64 y2 :: Env.sp 5 (AV.int IntKind.i64 y3 :: Env.sp 56 [])
def f17e4 (y0 : Option (Nat × Nat)) (y1 : Int) (y2 : Int) (y3 : Int) (y4 : Int) (y5 : Bool) : Env := AV.ptr y0 :: AV.int IntKind.i64 y1 :: AV.int IntKind.i64 y2 :: Env.sp 5 (AV.int IntKind.i64 y3 :: Env.sp 9 (AV.int IntKind.i64 y4 :: AV.bool y5 :: Env.sp 45 []))
def f17e5 (y0 : Option (Nat × Nat)) (y1 : Int) (y2 : Int) (y3 : Int) (y4 : Bool) : Env := AV.ptr y0 :: AV.int IntKind.i64 y1 :: AV.int IntKind.i64 y2 :: Env.sp 5 (AV.int IntKind.i64 y3 :: Env.sp 10 (AV.bool y4 :: Env.sp 45 []))
def f17e6 (y0 : Option (Nat × Nat)) (y1 : Int) (y2 : Int) (y3 : Option (Nat × Nat)) (y4 : Int) (y5 : Int) (y6 : Bool) (y7 : Int) : Env := AV.ptr y0 :: AV.int IntKind.i64 y1 :: AV.int IntKind.i64 y2 :: Env.sp 3 (AV.ptr y3 :: AV.int IntKind.i64 y4 :: AV.int IntKind.i64 y5 :: Env.sp 10 (AV.bool y6 :: AV.int IntKind.i64 y7 :: Env.sp 44 []))
def f17e7 (y0 : Option (Nat × Nat)) (y1 : Int) : Env := Env.sp 6 (AV.ptr y0 :: AV.int IntKind.i64 y1 :: Env.sp 57 [])
def f17e8 (y0 : Option (Nat × Nat)) (y1 : Int) (y2 : Int) (y3 : Nat) (y4 : Int) (y5 : Int) (y6 : Int) (y7 : Int) : Env := AV.ptr y0 :: AV.int IntKind.i64 y1 :: AV.int IntKind.i64 y2 :: Env.sp 6 (AV.ptr (some (y3, (0 : Nat))) :: Env.sp 11 (AV.int IntKind.i64 y4 :: AV.int IntKind.i64 y5 :: AV.agg [AV.int IntKind.i64 y6, AV.int IntKind.i64 y7] :: Env.sp 41 []))
def f17e9 (y0 : Option (Nat × Nat)) (y1 : Int) (y2 : Nat) : Env := AV.ptr y0 :: AV.int IntKind.i64 y1 :: Env.sp 7 (AV.ptr (some (y2, (0 : Nat))) :: Env.sp 55 [])
def f17e10 (y0 : Option (Nat × Nat)) (y1 : Int) (y2 : Nat) (y3 : Option (Nat × Nat)) (y4 : Bool) (y5 : Option (Nat × Nat)) (y6 : Bool) (y7 : Option (Nat × Nat)) (y8 : Option (Nat × Nat)) (y9 : Option (Nat × Nat)) (y10 : Option Nat) (y11 : Int) (y12 : Int) (y13 : Option (Nat × Nat)) (y14 : Bool) (y15 : Option (Nat × Nat)) (y16 : Bool) : Env := AV.ptr y0 :: AV.int IntKind.i64 y1 :: Env.sp 7 (AV.ptr (some (y2, (0 : Nat))) :: AV.ptr y3 :: AV.bool y4 :: Env.sp 12 (AV.tuple [AV.ptr y5, AV.bool y6] :: AV.ptr y7 :: AV.ptr y8 :: AV.ptr y9 :: AV.map y10 :: AV.agg [AV.int IntKind.i64 y11, AV.int IntKind.i64 y12] :: AV.tuple [AV.ptr y13, AV.bool y14] :: AV.ptr y15 :: AV.bool y16 :: Env.sp 32 []))
def f17e11 (y0 : Option (Nat × Nat)) (y1 : Int) (y2 : Nat) (y3 : Option (Nat × Nat)) (y4 : Bool) : Env := AV.ptr y0 :: AV.int IntKind.i64 y1 :: Env.sp 7 (AV.ptr (some (y2, (0 : Nat))) :: AV.ptr y3 :: AV.bool y4 :: Env.sp 53 [])
def f17e12 (y0 : Option (Nat × Nat)) (y1 : Int) (y2 : Nat) (y3 : Option (Nat × Nat)) (y4 : Bool) (y5 : Bool) : Env := AV.ptr y0 :: AV.int IntKind.i64 y1 :: Env.sp 7 (AV.ptr (some (y2, (0 : Nat))) :: AV.ptr y3 :: AV.bool y4 :: Env.sp 21 (AV.bool y5 :: Env.sp 31 []))
def f17e13 (y0 : Option (Nat × Nat)) (y1 : Int) (y2 : Nat) (y3 : Option (Nat × Nat)) (y4 : Bool) : Env := AV.ptr y0 :: AV.int IntKind.i64 y1 :: Env.sp 7 (AV.ptr (some (y2, (0 : Nat))) :: AV.ptr y3 :: Env.sp 22 (AV.bool y4 :: Env.sp 31 []))
def f17e14 (y0 : Option (Nat × Nat)) (y1 : Int) (y2 : Option (Nat × Nat)) (y3 : Int) (y4 : Nat) (y5 : Option (Nat × Nat)) (y6 : Bool) (y7 : Option (Nat × Nat)) : Env := AV.ptr y0 :: AV.int IntKind.i64 y1 :: Env.sp 4 (AV.ptr y2 :: AV.int IntKind.i64 y3 :: Env.sp 1 (AV.ptr (some (y4, (0 : Nat))) :: AV.ptr y5 :: Env.sp 22 (AV.bool y6 :: AV.ptr y7 :: Env.sp 30 [])))
def f17e15 (y0 : Option (Nat × Nat)) (y1 : Int) (y2 : Nat) (y3 : Option (Nat × Nat)) (y4 : Int) (y5 : Option (Nat × Nat)) (y6 : Int) (y7 : Option (Nat × Nat)) (y8 : Option (Nat × Nat)) (y9 : Option (Nat × Nat)) (y10 : Int) (y11 : Option (Nat × Nat)) (y12 : Option (Nat × Nat)) (y13 : Option (Nat × Nat)) (y14 : Int) (y15 : Int) (y16 : Option (Nat × Nat)) (y17 : Option (Nat × Nat)) (y18 : Option (Nat × Nat)) (y19 : Int) (y20 : Int) (y21 : Int) (y22 : Int) (y23 : Option (Nat × Nat)) (y24 : Int) (y25 : Option (Nat × Nat)) (y26 : Int) : Env := AV.ptr y0 :: AV.int IntKind.i64 y1 :: Env.sp 7 (AV.ptr (some (y2, (0 : Nat))) :: Env.sp 2 (AV.ptr y3 :: AV.int IntKind.i64 y4 :: Env.sp 21 (AV.tuple [AV.ptr y5, AV.int IntKind.i64 y6] :: AV.ptr y7 :: AV.ptr y8 :: AV.ptr y9 :: AV.int IntKind.i64 y10 :: AV.ptr y11 :: AV.ptr y12 :: AV.ptr y13 :: AV.int IntKind.i64 y14 :: AV.int IntKind.i64 y15 :: AV.ptr y16 :: AV.ptr y17 :: AV.ptr y18 :: AV.int IntKind.i64 y19 :: AV.int IntKind.i64 y20 :: AV.int IntKind.i64 y21 :: AV.int IntKind.i64 y22 :: AV.tuple [AV.ptr y23, AV.int IntKind.i64 y24] :: AV.ptr y25 :: AV.int IntKind.i64 y26 :: Env.sp 10 [])))
def f17e16 (y0 : Option (Nat × Nat)) (y1 : Nat) (y2 : Option (Nat × Nat)) (y3 : Int) : Env := AV.ptr y0 :: Env.sp 8 (AV.ptr (some (y1, (0 : Nat))) :: Env.sp 2 (AV.ptr y2 :: AV.int IntKind.i64 y3 :: Env.sp 51 []))
def f17e17 (y0 : Option (Nat × Nat)) (y1 : Nat) (y2 : Option (Nat × Nat)) (y3 : Int) (y4 : Int) (y5 : Bool) : Env := AV.ptr y0 :: Env.sp 8 (AV.ptr (some (y1, (0 : Nat))) :: Env.sp 2 (AV.ptr y2 :: AV.int IntKind.i64 y3 :: Env.sp 41 (AV.int IntKind.i64 y4 :: AV.bool y5 :: Env.sp 8 [])))
def f17e18 (y0 : Option (Nat × Nat)) (y1 : Nat) (y2 : Option (Nat × Nat)) (y3 : Int) (y4 : Bool) : Env := AV.ptr y0 :: Env.sp 8 (AV.ptr (some (y1, (0 : Nat))) :: Env.sp 2 (AV.ptr y2 :: AV.int IntKind.i64 y3 :: Env.sp 42 (AV.bool y4 :: Env.sp 8 [])))
def f17e19 (y0 : Option (Nat × Nat)) (y1 : Nat) (y2 : Option (Nat × Nat)) (y3 : Int) (y4 : Bool) (y5 : Option (Nat × Nat)) (y6 : Option (Nat × Nat)) (y7 : Option (Nat × Nat)) (y8 : Option Nat) (y9 : Int) (y10 : Int) (y11 : Option (Nat × Nat)) : Env := AV.ptr y0 :: Env.sp 8 (AV.ptr (some (y1, (0 : Nat))) :: Env.sp 2 (AV.ptr y2 :: AV.int IntKind.i64 y3 :: Env.sp 42 (AV.bool y4 :: AV.ptr y5 :: AV.ptr y6 :: AV.ptr y7 :: AV.map y8 :: AV.agg [AV.int IntKind.i64 y9, AV.int IntKind.i64 y10] :: AV.ptr y11 :: Env.sp 2 [])))
def f17e20 (y0 : Option (Nat × Nat)) (y1 : Int) : Env := Env.sp 12 (AV.ptr y0 :: AV.int IntKind.i64 y1 :: Env.sp 51 [])
def f17e21 (y0 : Option (Nat × Nat)) (y1 : Int) (y2 : Option (Nat × Nat)) (y3 : Int) (y4 : Option (Nat × Nat)) (y5 : Int) : Env := Env.sp 6 (AV.ptr y0 :: AV.int IntKind.i64 y1 :: Env.sp 4 (AV.ptr y2 :: AV.int IntKind.i64 y3 :: Env.sp 49 (AV.ptr y4 :: AV.int IntKind.i64 y5 :: [])))

/- function 17 -/
theorem f17_eq {R : Type} (call : Bool → CallF R) (dem : Bool) (N : Nat) (y0 : Option (Nat × Nat)) (y1 : Int) (y2 : Int) (σ : St) (K : AV → St → Option R) :
    bodyK Try.prog call dem N ann 17 [AV.ptr y0, AV.int IntKind.i64 y1, AV.int IntKind.i64 y2] σ K = runK Try.prog call dem N f17c0 f17a0 (bodyC Try.prog f17rs K) (f17e0 y0 y1 y2) σ := bodyK_of (fn := ((Try.prog.funcs[17]?).get rfl)) (by kernel_rfl) (by kernel_rfl) (by kernel_rfl) (by kernel_rfl) (by kernel_rfl) (by kernel_rfl)
theorem f17n0 {R : Type} (call : Bool → CallF R) (dem : Bool) (N : Nat) (J : KF R) (e : Env) (σ : St) : runK Try.prog call dem N f17c0 f17a0 J e σ = runK Try.prog call dem N f17c1 f17a1 (seqC (fun K e σ => runK Try.prog call dem N f17c2 f17a2 K e σ) f17a0 J) e σ := runK_seq' (by kernel_rfl) (by kernel_rfl) (by kernel_rfl)
theorem f17r1_f17e0 {R : Type} (call : Bool → CallF R) (dem : Bool) (N : Nat) (y0 : Option (Nat × Nat)) (y1 : Int) (y2 : Int) (J : KF R) (σ : St) :
    runK Try.prog call dem N f17c1 f17a1 J (f17e0 y0 y1 y2) σ =
J Ex.normal (f17e1 y0 y1 y2 none (0 : Int)) σ := hide (by kernel_rfl)
theorem f17z0_f17e1 (y0 : Option (Nat × Nat)) (y1 : Int) (y2 : Int) (y3 : Option (Nat × Nat)) (y4 : Int) : Ann.clr f17a0 (f17e1 y0 y1 y2 y3 y4) = f17e0 y0 y1 y2 := hide (by kernel_rfl)
theorem f17n2 {R : Type} (call : Bool → CallF R) (dem : Bool) (N : Nat) (J : KF R) (e : Env) (σ : St) : runK Try.prog call dem N f17c2 f17a2 J e σ = runK Try.prog call dem N f17c3 f17a3 (seqC (fun K e σ => runK Try.prog call dem N f17c4 f17a4 K e σ) f17a2 J) e σ := runK_seq' (by kernel_rfl) (by kernel_rfl) (by kernel_rfl)
theorem f17n3 {R : Type} (call : Bool → CallF R) (dem : Bool) (N : Nat) (J : KF R) (e : Env) (σ : St) : runK Try.prog call dem N f17c3 f17a3 J e σ = runK Try.prog call dem N f17c5 f17a5 (seqC (fun K e σ => runK Try.prog call dem N f17c6 f17a6 K e σ) f17a3 J) e σ := runK_seq' (by kernel_rfl) (by kernel_rfl) (by kernel_rfl)
theorem f17r5_f17e0 {R : Type} (call : Bool → CallF R) (dem : Bool) (N : Nat) (y0 : Option (Nat × Nat)) (y1 : Int) (y2 : Int) (J : KF R) (σ : St) :
    runK Try.prog call dem N f17c5 f17a5 J (f17e0 y0 y1 y2) σ =
call dem (43 : Nat) [AV.ptr y0, AV.int IntKind.i64 y1, AV.int IntKind.i64 y2] σ fun v0 v1 =>
  Option.bind (AV.toInt IntKind.i64 v0) fun v2 => J Ex.normal (f17e2 y0 y1 y2 v2 y0 y1 y2 v2) v1 := hide (by kernel_rfl)
theorem f17z3_f17e2 (y0 : Option (Nat × Nat)) (y1 : Int) (y2 : Int) (y3 : Int) (y4 : Option (Nat × Nat)) (y5 : Int) (y6 : Int) (y7 : Int) : Ann.clr f17a3 (f17e2 y0 y1 y2 y3 y4 y5 y6 y7) = f17e3 y0 y1 y2 y3 := hide (by kernel_rfl)
theorem f17n6 {R : Type} (call : Bool → CallF R) (dem : Bool) (N : Nat) (J : KF R) (e : Env) (σ : St) : runK Try.prog call dem N f17c6 f17a6 J e σ = runK Try.prog call dem N f17c7 f17a7 (seqC (fun K e σ => runK Try.prog call dem N f17c8 f17a8 K e σ) f17a6 J) e σ := runK_seq' (by kernel_rfl) (by kernel_rfl) (by kernel_rfl)
theorem f17r7_f17e3 {R : Type} (call : Bool → CallF R) (dem : Bool) (N : Nat) (y0 : Option (Nat × Nat)) (y1 : Int) (y2 : Int) (y3 : Int) (J : KF R) (σ : St) :
    runK Try.prog call dem N f17c7 f17a7 J (f17e3 y0 y1 y2 y3) σ =
J Ex.normal (f17e4 y0 y1 y2 y3 y3 (y3 != (0 : Int))) σ := hide (by kernel_rfl)
theorem f17z6_f17e4 (y0 : Option (Nat × Nat)) (y1 : Int) (y2 : Int) (y3 : Int) (y4 : Int) (y5 : Bool) : Ann.clr f17a6 (f17e4 y0 y1 y2 y3 y4 y5) = f17e5 y0 y1 y2 y3 y5 := hide (by kernel_rfl)
theorem f17x8_f17e5 {R : Type} (call : Bool → CallF R) (dem : Bool) (N : Nat) (y0 : Option (Nat × Nat)) (y1 : Int) (y2 : Int) (y3 : Int) (y4 : Bool) (J : KF R) (σ : St) : runK Try.prog call dem N f17c8 f17a8 J (f17e5 y0 y1 y2 y3 y4) σ = if y4 = true then runK Try.prog call dem N f17c9 f17a9 (condC f17a8 J) (f17e5 y0 y1 y2 y3 y4) σ else runK Try.prog call dem N f17c10 f17a10 (condC f17a8 J) (f17e5 y0 y1 y2 y3 y4) σ := runK_cond' (o := Operand.tmp (19 : Nat)) (by kernel_rfl) (by kernel_rfl) (by kernel_rfl) (by kernel_rfl)
theorem f17n9 {R : Type} (call : Bool → CallF R) (dem : Bool) (N : Nat) (J : KF R) (e : Env) (σ : St) : runK Try.prog call dem N f17c9 f17a9 J e σ = runK Try.prog call dem N f17c11 f17a11 (seqC (fun K e σ => runK Try.prog call dem N f17c12 f17a12 K e σ) f17a9 J) e σ := runK_seq' (by kernel_rfl) (by kernel_rfl) (by kernel_rfl)
theorem f17r11_f17e5 {R : Type} (call : Bool → CallF R) (dem : Bool) (N : Nat) (y0 : Option (Nat × Nat)) (y1 : Int) (y2 : Int) (y3 : Int) (y4 : Bool) (J : KF R) (σ : St) :
    runK Try.prog call dem N f17c11 f17a11 J (f17e5 y0 y1 y2 y3 y4) σ =
J Ex.normal (f17e6 y0 y1 y2 none y3 y3 y4 y3) σ := hide (by kernel_rfl)
theorem f17z9_f17e6 (y0 : Option (Nat × Nat)) (y1 : Int) (y2 : Int) (y3 : Option (Nat × Nat)) (y4 : Int) (y5 : Int) (y6 : Bool) (y7 : Int) : Ann.clr f17a9 (f17e6 y0 y1 y2 y3 y4 y5 y6 y7) = f17e7 y3 y4 := hide (by kernel_rfl)
theorem f17y12_f17e7 {R : Type} (call : Bool → CallF R) (dem : Bool) (N : Nat) (y0 : Option (Nat × Nat)) (y1 : Int) (J : KF R) (σ : St) : runK Try.prog call dem N f17c12 f17a12 J (f17e7 y0 y1) σ = J .ret (f17e7 y0 y1) σ := runK_ret' (by kernel_rfl) (by kernel_rfl)
theorem f17n10 {R : Type} (call : Bool → CallF R) (dem : Bool) (N : Nat) (J : KF R) (e : Env) (σ : St) : runK Try.prog call dem N f17c10 f17a10 J e σ = J .normal e σ := runK_skip' (by kernel_rfl)
theorem f17z8_f17e5 (y0 : Option (Nat × Nat)) (y1 : Int) (y2 : Int) (y3 : Int) (y4 : Bool) : Ann.clr f17a8 (f17e5 y0 y1 y2 y3 y4) = f17e0 y0 y1 y2 := hide (by kernel_rfl)
theorem f17z2_f17e0 (y0 : Option (Nat × Nat)) (y1 : Int) (y2 : Int) : Ann.clr f17a2 (f17e0 y0 y1 y2) = f17e0 y0 y1 y2 := hide (by kernel_rfl)
theorem f17n4 {R : Type} (call : Bool → CallF R) (dem : Bool) (N : Nat) (J : KF R) (e : Env) (σ : St) : runK Try.prog call dem N f17c4 f17a4 J e σ = runK Try.prog call dem N f17c13 f17a13 (seqC (fun K e σ => runK Try.prog call dem N f17c14 f17a14 K e σ) f17a4 J) e σ := runK_seq' (by kernel_rfl) (by kernel_rfl) (by kernel_rfl)
theorem f17r13_f17e0 {R : Type} (call : Bool → CallF R) (dem : Bool) (N : Nat) (y0 : Option (Nat × Nat)) (y1 : Int) (y2 : Int) (J : KF R) (σ : St) :
    runK Try.prog call dem N f17c13 f17a13 J (f17e0 y0 y1 y2) σ =
Option.bind
  (St.st (St.new σ (Blk.cells [AV.int IntKind.i64 (0 : Int), AV.int IntKind.i64 (0 : Int)] true)) (St.next σ) (0 : Nat)
    [AV.int IntKind.i64 y1, AV.int IntKind.i64 y2])
  fun v0 => J Ex.normal (f17e8 y0 y1 y2 (St.next σ) y1 y2 y1 y2) v0 := hide (by kernel_rfl)
theorem f17z4_f17e8 (y0 : Option (Nat × Nat)) (y1 : Int) (y2 : Int) (y3 : Nat) (y4 : Int) (y5 : Int) (y6 : Int) (y7 : Int) : Ann.clr f17a4 (f17e8 y0 y1 y2 y3 y4 y5 y6 y7) = f17e9 y0 y1 y3 := hide (by kernel_rfl)
theorem f17n14 {R : Type} (call : Bool → CallF R) (dem : Bool) (N : Nat) (J : KF R) (e : Env) (σ : St) : runK Try.prog call dem N f17c14 f17a14 J e σ = runK Try.prog call dem N f17c15 f17a15 (seqC (fun K e σ => runK Try.prog call dem N f17c16 f17a16 K e σ) f17a14 J) e σ := runK_seq' (by kernel_rfl) (by kernel_rfl) (by kernel_rfl)
theorem f17n15 {R : Type} (call : Bool → CallF R) (dem : Bool) (N : Nat) (J : KF R) (e : Env) (σ : St) : runK Try.prog call dem N f17c15 f17a15 J e σ = runK Try.prog call dem N f17c17 f17a17 (seqC (fun K e σ => runK Try.prog call dem N f17c18 f17a18 K e σ) f17a15 J) e σ := runK_seq' (by kernel_rfl) (by kernel_rfl) (by kernel_rfl)
theorem f17r17_f17e9 {R : Type} (call : Bool → CallF R) (dem : Bool) (N : Nat) (y0 : Option (Nat × Nat)) (y1 : Int) (y2 : Nat) (J : KF R) (σ : St) :
    runK Try.prog call dem N f17c17 f17a17 J (f17e9 y0 y1 y2) σ =
Option.bind y0 fun v0 =>
  Option.bind (St.ld σ (Prod.fst v0) (Prod.snd v0 + (3 : Nat))) fun v1 =>
    Option.bind (AV.toMap v1) fun v2 =>
      Option.bind (St.ld σ y2 (0 : Nat)) fun v3 =>
        Option.bind (AV.toInt IntKind.i64 v3) fun v4 =>
          Option.bind (St.ld σ y2 (1 : Nat)) fun v5 =>
            Option.bind (AV.toInt IntKind.i64 v5) fun v6 =>
              Option.bind (St.entries σ v2) fun v7 =>
                Option.bind (findKey true [Sh.int IntKind.i64, Sh.int IntKind.i64] [AV.int IntKind.i64 v4, AV.int IntKind.i64 v6] v7 (0 : Nat))
                  fun v8 =>
                  match v8 with
                  | some v9 =>
                    Option.bind (AV.toPtr (Prod.snd v9)) fun v10 =>
                      J Ex.normal
                        (f17e10 y0 y1 y2 v10 true v10 true y0 (some v0) (some (Prod.fst v0, Prod.snd v0 + (3 : Nat))) v2 v4 v6 v10 true v10 true) σ
                  | none =>
                    J Ex.normal
                      (f17e10 y0 y1 y2 none false none false y0 (some v0) (some (Prod.fst v0, Prod.snd v0 + (3 : Nat))) v2 v4 v6 none false none
                        false)
                      σ := hide (by kernel_rfl)
theorem f17z15_f17e10 (y0 : Option (Nat × Nat)) (y1 : Int) (y2 : Nat) (y3 : Option (Nat × Nat)) (y4 : Bool) (y5 : Option (Nat × Nat)) (y6 : Bool) (y7 : Option (Nat × Nat)) (y8 : Option (Nat × Nat)) (y9 : Option (Nat × Nat)) (y10 : Option Nat) (y11 : Int) (y12 : Int) (y13 : Option (Nat × Nat)) (y14 : Bool) (y15 : Option (Nat × Nat)) (y16 : Bool) : Ann.clr f17a15 (f17e10 y0 y1 y2 y3 y4 y5 y6 y7 y8 y9 y10 y11 y12 y13 y14 y15 y16) = f17e11 y0 y1 y2 y3 y4 := hide (by kernel_rfl)
theorem f17n18 {R : Type} (call : Bool → CallF R) (dem : Bool) (N : Nat) (J : KF R) (e : Env) (σ : St) : runK Try.prog call dem N f17c18 f17a18 J e σ = runK Try.prog call dem N f17c19 f17a19 (seqC (fun K e σ => runK Try.prog call dem N f17c20 f17a20 K e σ) f17a18 J) e σ := runK_seq' (by kernel_rfl) (by kernel_rfl) (by kernel_rfl)
theorem f17r19_f17e11 {R : Type} (call : Bool → CallF R) (dem : Bool) (N : Nat) (y0 : Option (Nat × Nat)) (y1 : Int) (y2 : Nat) (y3 : Option (Nat × Nat)) (y4 : Bool) (J : KF R) (σ : St) :
    runK Try.prog call dem N f17c19 f17a19 J (f17e11 y0 y1 y2 y3 y4) σ =
J Ex.normal (f17e12 y0 y1 y2 y3 y4 y4) σ := hide (by kernel_rfl)
theorem f17z18_f17e12 (y0 : Option (Nat × Nat)) (y1 : Int) (y2 : Nat) (y3 : Option (Nat × Nat)) (y4 : Bool) (y5 : Bool) : Ann.clr f17a18 (f17e12 y0 y1 y2 y3 y4 y5) = f17e13 y0 y1 y2 y3 y5 := hide (by kernel_rfl)
theorem f17x20_f17e13 {R : Type} (call : Bool → CallF R) (dem : Bool) (N : Nat) (y0 : Option (Nat × Nat)) (y1 : Int) (y2 : Nat) (y3 : Option (Nat × Nat)) (y4 : Bool) (J : KF R) (σ : St) : runK Try.prog call dem N f17c20 f17a20 J (f17e13 y0 y1 y2 y3 y4) σ = if y4 = true then runK Try.prog call dem N f17c21 f17a21 (condC f17a20 J) (f17e13 y0 y1 y2 y3 y4) σ else runK Try.prog call dem N f17c22 f17a22 (condC f17a20 J) (f17e13 y0 y1 y2 y3 y4) σ := runK_cond' (o := Operand.tmp (33 : Nat)) (by kernel_rfl) (by kernel_rfl) (by kernel_rfl) (by kernel_rfl)
theorem f17n21 {R : Type} (call : Bool → CallF R) (dem : Bool) (N : Nat) (J : KF R) (e : Env) (σ : St) : runK Try.prog call dem N f17c21 f17a21 J e σ = runK Try.prog call dem N f17c23 f17a23 (seqC (fun K e σ => runK Try.prog call dem N f17c24 f17a24 K e σ) f17a21 J) e σ := runK_seq' (by kernel_rfl) (by kernel_rfl) (by kernel_rfl)
theorem f17r23_f17e13 {R : Type} (call : Bool → CallF R) (dem : Bool) (N : Nat) (y0 : Option (Nat × Nat)) (y1 : Int) (y2 : Nat) (y3 : Option (Nat × Nat)) (y4 : Bool) (J : KF R) (σ : St) :
    runK Try.prog call dem N f17c23 f17a23 J (f17e13 y0 y1 y2 y3 y4) σ =
J Ex.normal (f17e14 y0 y1 y3 (0 : Int) y2 y3 y4 y3) σ := hide (by kernel_rfl)
theorem f17z21_f17e14 (y0 : Option (Nat × Nat)) (y1 : Int) (y2 : Option (Nat × Nat)) (y3 : Int) (y4 : Nat) (y5 : Option (Nat × Nat)) (y6 : Bool) (y7 : Option (Nat × Nat)) : Ann.clr f17a21 (f17e14 y0 y1 y2 y3 y4 y5 y6 y7) = f17e7 y2 y3 := hide (by kernel_rfl)
theorem f17y24_f17e7 {R : Type} (call : Bool → CallF R) (dem : Bool) (N : Nat) (y0 : Option (Nat × Nat)) (y1 : Int) (J : KF R) (σ : St) : runK Try.prog call dem N f17c24 f17a24 J (f17e7 y0 y1) σ = J .ret (f17e7 y0 y1) σ := runK_ret' (by kernel_rfl) (by kernel_rfl)
theorem f17n22 {R : Type} (call : Bool → CallF R) (dem : Bool) (N : Nat) (J : KF R) (e : Env) (σ : St) : runK Try.prog call dem N f17c22 f17a22 J e σ = J .normal e σ := runK_skip' (by kernel_rfl)
theorem f17z20_f17e13 (y0 : Option (Nat × Nat)) (y1 : Int) (y2 : Nat) (y3 : Option (Nat × Nat)) (y4 : Bool) : Ann.clr f17a20 (f17e13 y0 y1 y2 y3 y4) = f17e9 y0 y1 y2 := hide (by kernel_rfl)
theorem f17z14_f17e9 (y0 : Option (Nat × Nat)) (y1 : Int) (y2 : Nat) : Ann.clr f17a14 (f17e9 y0 y1 y2) = f17e9 y0 y1 y2 := hide (by kernel_rfl)
theorem f17n16 {R : Type} (call : Bool → CallF R) (dem : Bool) (N : Nat) (J : KF R) (e : Env) (σ : St) : runK Try.prog call dem N f17c16 f17a16 J e σ = runK Try.prog call dem N f17c25 f17a25 (seqC (fun K e σ => runK Try.prog call dem N f17c26 f17a26 K e σ) f17a16 J) e σ := runK_seq' (by kernel_rfl) (by kernel_rfl) (by kernel_rfl)
theorem f17r25_f17e9 {R : Type} (call : Bool → CallF R) (dem : Bool) (N : Nat) (y0 : Option (Nat × Nat)) (y1 : Int) (y2 : Nat) (J : KF R) (σ : St) :
    runK Try.prog call dem N f17c25 f17a25 J (f17e9 y0 y1 y2) σ =
Option.bind y0 fun v0 =>
  Option.bind (St.ld σ (Prod.fst v0) (Prod.snd v0)) fun v1 =>
    Option.bind (AV.toInt IntKind.i64 v1) fun v2 =>
      Option.bind y0 fun v3 =>
        Option.bind (St.ld σ (Prod.fst v3) (Prod.snd v3 + (1 : Nat))) fun v4 =>
          Option.bind (AV.toInt IntKind.i64 v4) fun v5 =>
            Option.bind y0 fun v6 =>
              Option.bind (St.ld σ (Prod.fst v6) (Prod.snd v6 + (1 : Nat))) fun v7 =>
                Option.bind (AV.toInt IntKind.i64 v7) fun v8 =>
                  if IntKind.wrap IntKind.i64 (IntKind.wrap IntKind.i64 ((3 : Int) * v8) + (1 : Int)) = (0 : Int) then none
                  else
                    call false (22 : Nat)
                      [AV.int IntKind.i64 v2, AV.int IntKind.i64 v5,
                        AV.int IntKind.i64 (Int.tmod y1 (IntKind.wrap IntKind.i64 (IntKind.wrap IntKind.i64 ((3 : Int) * v8) + (1 : Int))))]
                      σ fun v9 v10 =>
                      Option.bind (AV.toTuple v9) fun v11 =>
                        if List.length v11 = (2 : Nat) then
                          Option.bind (List.head? v11) fun v12 =>
                            Option.bind (AV.toPtr v12) fun v13 =>
                              Option.bind (List.head? (List.tail v11)) fun v14 =>
                                Option.bind (AV.toInt IntKind.i64 v14) fun v15 =>
                                  J Ex.normal
                                    (f17e15 y0 y1 y2 v13 v15 v13 v15 y0 (some v0) (some (Prod.fst v0, Prod.snd v0)) v2 y0 (some v3)
                                      (some (Prod.fst v3, Prod.snd v3 + (1 : Nat))) v5 y1 y0 (some v6) (some (Prod.fst v6, Prod.snd v6 + (1 : Nat)))
                                      v8 (IntKind.wrap IntKind.i64 ((3 : Int) * v8))
                                      (IntKind.wrap IntKind.i64 (IntKind.wrap IntKind.i64 ((3 : Int) * v8) + (1 : Int)))
                                      (Int.tmod y1 (IntKind.wrap IntKind.i64 (IntKind.wrap IntKind.i64 ((3 : Int) * v8) + (1 : Int)))) v13 v15 v13
                                      v15)
                                    v10
                        else none := hide (by kernel_rfl)
theorem f17z16_f17e15 (y0 : Option (Nat × Nat)) (y1 : Int) (y2 : Nat) (y3 : Option (Nat × Nat)) (y4 : Int) (y5 : Option (Nat × Nat)) (y6 : Int) (y7 : Option (Nat × Nat)) (y8 : Option (Nat × Nat)) (y9 : Option (Nat × Nat)) (y10 : Int) (y11 : Option (Nat × Nat)) (y12 : Option (Nat × Nat)) (y13 : Option (Nat × Nat)) (y14 : Int) (y15 : Int) (y16 : Option (Nat × Nat)) (y17 : Option (Nat × Nat)) (y18 : Option (Nat × Nat)) (y19 : Int) (y20 : Int) (y21 : Int) (y22 : Int) (y23 : Option (Nat × Nat)) (y24 : Int) (y25 : Option (Nat × Nat)) (y26 : Int) : Ann.clr f17a16 (f17e15 y0 y1 y2 y3 y4 y5 y6 y7 y8 y9 y10 y11 y12 y13 y14 y15 y16 y17 y18 y19 y20 y21 y22 y23 y24 y25 y26) = f17e16 y0 y2 y3 y4 := hide (by kernel_rfl)
theorem f17n26 {R : Type} (call : Bool → CallF R) (dem : Bool) (N : Nat) (J : KF R) (e : Env) (σ : St) : runK Try.prog call dem N f17c26 f17a26 J e σ = runK Try.prog call dem N f17c27 f17a27 (seqC (fun K e σ => runK Try.prog call dem N f17c28 f17a28 K e σ) f17a26 J) e σ := runK_seq' (by kernel_rfl) (by kernel_rfl) (by kernel_rfl)
theorem f17n27 {R : Type} (call : Bool → CallF R) (dem : Bool) (N : Nat) (J : KF R) (e : Env) (σ : St) : runK Try.prog call dem N f17c27 f17a27 J e σ = runK Try.prog call dem N f17c29 f17a29 (seqC (fun K e σ => runK Try.prog call dem N f17c30 f17a30 K e σ) f17a27 J) e σ := runK_seq' (by kernel_rfl) (by kernel_rfl) (by kernel_rfl)
theorem f17r29_f17e16 {R : Type} (call : Bool → CallF R) (dem : Bool) (N : Nat) (y0 : Option (Nat × Nat)) (y1 : Nat) (y2 : Option (Nat × Nat)) (y3 : Int) (J : KF R) (σ : St) :
    runK Try.prog call dem N f17c29 f17a29 J (f17e16 y0 y1 y2 y3) σ =
J Ex.normal (f17e17 y0 y1 y2 y3 y3 (y3 == (0 : Int))) σ := hide (by kernel_rfl)
theorem f17z27_f17e17 (y0 : Option (Nat × Nat)) (y1 : Nat) (y2 : Option (Nat × Nat)) (y3 : Int) (y4 : Int) (y5 : Bool) : Ann.clr f17a27 (f17e17 y0 y1 y2 y3 y4 y5) = f17e18 y0 y1 y2 y3 y5 := hide (by kernel_rfl)
theorem f17x30_f17e18 {R : Type} (call : Bool → CallF R) (dem : Bool) (N : Nat) (y0 : Option (Nat × Nat)) (y1 : Nat) (y2 : Option (Nat × Nat)) (y3 : Int) (y4 : Bool) (J : KF R) (σ : St) : runK Try.prog call dem N f17c30 f17a30 J (f17e18 y0 y1 y2 y3 y4) σ = if y4 = true then runK Try.prog call dem N f17c31 f17a31 (condC f17a30 J) (f17e18 y0 y1 y2 y3 y4) σ else runK Try.prog call dem N f17c32 f17a32 (condC f17a30 J) (f17e18 y0 y1 y2 y3 y4) σ := runK_cond' (o := Operand.tmp (56 : Nat)) (by kernel_rfl) (by kernel_rfl) (by kernel_rfl) (by kernel_rfl)
theorem f17r31_f17e18 {R : Type} (call : Bool → CallF R) (dem : Bool) (N : Nat) (y0 : Option (Nat × Nat)) (y1 : Nat) (y2 : Option (Nat × Nat)) (y3 : Int) (y4 : Bool) (J : KF R) (σ : St) :
    runK Try.prog call dem N f17c31 f17a31 J (f17e18 y0 y1 y2 y3 y4) σ =
Option.bind y0 fun v0 =>
  Option.bind (St.ld σ (Prod.fst v0) (Prod.snd v0 + (3 : Nat))) fun v1 =>
    Option.bind (AV.toMap v1) fun v2 =>
      Option.bind (St.ld σ y1 (0 : Nat)) fun v3 =>
        Option.bind (AV.toInt IntKind.i64 v3) fun v4 =>
          Option.bind (St.ld σ y1 (1 : Nat)) fun v5 =>
            Option.bind (AV.toInt IntKind.i64 v5) fun v6 =>
              match some (TypeDesc.map (105 : Nat) (30 : Nat)), AV.map v2 with
              | some (TypeDesc.map v7 v8), AV.map (some v9) =>
                Option.bind (keyArg (Program.mk Try.progTables Try.funcs) v7 (AV.agg [AV.int IntKind.i64 v4, AV.int IntKind.i64 v6])) fun v10 =>
                  Option.bind (St.map σ v9) fun v11 =>
                    Option.bind
                      (mapSet (Prod.fst v10) (Prod.fst (Prod.snd v10)) (Prod.snd (Prod.snd v10))
                        (AV.agg [AV.int IntKind.i64 v4, AV.int IntKind.i64 v6]) (AV.ptr y2) (Prod.fst v11) (Prod.snd v11))
                      fun v12 =>
                      J Ex.normal (f17e19 y0 y1 y2 y3 y4 y0 (some v0) (some (Prod.fst v0, Prod.snd v0 + (3 : Nat))) v2 v4 v6 y2)
                        (St.put σ v9 (Blk.map (Prod.fst v12) (Prod.snd v12)))
              | v7, v8 => none := hide (by kernel_rfl)
theorem f17z30_f17e19 (y0 : Option (Nat × Nat)) (y1 : Nat) (y2 : Option (Nat × Nat)) (y3 : Int) (y4 : Bool) (y5 : Option (Nat × Nat)) (y6 : Option (Nat × Nat)) (y7 : Option (Nat × Nat)) (y8 : Option Nat) (y9 : Int) (y10 : Int) (y11 : Option (Nat × Nat)) : Ann.clr f17a30 (f17e19 y0 y1 y2 y3 y4 y5 y6 y7 y8 y9 y10 y11) = f17e20 y2 y3 := hide (by kernel_rfl)
theorem f17n32 {R : Type} (call : Bool → CallF R) (dem : Bool) (N : Nat) (J : KF R) (e : Env) (σ : St) : runK Try.prog call dem N f17c32 f17a32 J e σ = J .normal e σ := runK_skip' (by kernel_rfl)
theorem f17z30_f17e18 (y0 : Option (Nat × Nat)) (y1 : Nat) (y2 : Option (Nat × Nat)) (y3 : Int) (y4 : Bool) : Ann.clr f17a30 (f17e18 y0 y1 y2 y3 y4) = f17e20 y2 y3 := hide (by kernel_rfl)
theorem f17z26_f17e20 (y0 : Option (Nat × Nat)) (y1 : Int) : Ann.clr f17a26 (f17e20 y0 y1) = f17e20 y0 y1 := hide (by kernel_rfl)
theorem f17n28 {R : Type} (call : Bool → CallF R) (dem : Bool) (N : Nat) (J : KF R) (e : Env) (σ : St) : runK Try.prog call dem N f17c28 f17a28 J e σ = runK Try.prog call dem N f17c33 f17a33 (seqC (fun K e σ => runK Try.prog call dem N f17c34 f17a34 K e σ) f17a28 J) e σ := runK_seq' (by kernel_rfl) (by kernel_rfl) (by kernel_rfl)
theorem f17r33_f17e20 {R : Type} (call : Bool → CallF R) (dem : Bool) (N : Nat) (y0 : Option (Nat × Nat)) (y1 : Int) (J : KF R) (σ : St) :
    runK Try.prog call dem N f17c33 f17a33 J (f17e20 y0 y1) σ =
J Ex.normal (f17e21 y0 y1 y0 y1 y0 y1) σ := hide (by kernel_rfl)
theorem f17z28_f17e21 (y0 : Option (Nat × Nat)) (y1 : Int) (y2 : Option (Nat × Nat)) (y3 : Int) (y4 : Option (Nat × Nat)) (y5 : Int) : Ann.clr f17a28 (f17e21 y0 y1 y2 y3 y4 y5) = f17e7 y0 y1 := hide (by kernel_rfl)
theorem f17y34_f17e7 {R : Type} (call : Bool → CallF R) (dem : Bool) (N : Nat) (y0 : Option (Nat × Nat)) (y1 : Int) (J : KF R) (σ : St) : runK Try.prog call dem N f17c34 f17a34 J (f17e7 y0 y1) σ = J .ret (f17e7 y0 y1) σ := runK_ret' (by kernel_rfl) (by kernel_rfl)
theorem f17b_f17e7_r {R : Type} (y0 : Option (Nat × Nat)) (y1 : Int) (σ : St) (K : AV → St → Option R) : bodyC Try.prog f17rs K (Ex.ret) (f17e7 y0 y1) σ =
K (AV.tuple [AV.ptr y0, AV.int IntKind.i64 y1]) σ := hide (by kernel_rfl)
attribute [go_sem] f17_eq f17n0 f17r1_f17e0 f17z0_f17e1 f17n2 f17n3 f17r5_f17e0 f17z3_f17e2 f17n6 f17r7_f17e3 f17z6_f17e4 f17x8_f17e5 f17n9 f17r11_f17e5 f17z9_f17e6 f17y12_f17e7 f17n10 f17z8_f17e5 f17z2_f17e0 f17n4 f17r13_f17e0 f17z4_f17e8 f17n14 f17n15 f17r17_f17e9 f17z15_f17e10 f17n18 f17r19_f17e11 f17z18_f17e12 f17x20_f17e13 f17n21 f17r23_f17e13 f17z21_f17e14 f17y24_f17e7 f17n22 f17z20_f17e13 f17z14_f17e9 f17n16 f17r25_f17e9 f17z16_f17e15 f17n26 f17n27 f17r29_f17e16 f17z27_f17e17 f17x30_f17e18 f17r31_f17e18 f17z30_f17e19 f17n32 f17z30_f17e18 f17z26_f17e20 f17n28 f17r33_f17e20 f17z28_f17e21 f17y34_f17e7 f17b_f17e7_r

end Go.Proofs.Ytmgacgonoodkfaa
