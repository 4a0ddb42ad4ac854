/- What the machine does with each piece of code, in plain text. PRINTED by a program of this workplace; Lean checks it. -/
import Derived.Test.YtmgacgonoodkfaaWiAnn
import Derived.Test.YtmgacgonoodkfaaProg
import Derived.KernelRfl
import Derived.Attr
namespace Go.Proofs.Ytmgacgonoodkfaa
open Go.AM
set_option maxRecDepth 100000
set_option linter.unusedVariables false
noncomputable def f22rs : List ResultVar := [ResultVar.tmp (6 : Nat), ResultVar.tmp (7 : Nat)]
noncomputable def f22c0 : Code := subCode [] (bodyOf Try.prog 22)
def f22a0 : Ann := subAnn [] ann22
noncomputable def f22c1 : Code := subCode [0] (bodyOf Try.prog 22)
def f22a1 : Ann := subAnn [0] ann22
noncomputable def f22c2 : Code := subCode [1] (bodyOf Try.prog 22)
def f22a2 : Ann := subAnn [1] ann22
noncomputable def f22c3 : Code := subCode [1, 0] (bodyOf Try.prog 22)
def f22a3 : Ann := subAnn [1, 0] ann22
noncomputable def f22c4 : Code := subCode [1, 1] (bodyOf Try.prog 22)
def f22a4 : Ann := subAnn [1, 1] ann22
noncomputable def f22c5 : Code := subCode [1, 0, 0] (bodyOf Try.prog 22)
def f22a5 : Ann := subAnn [1, 0, 0] ann22
noncomputable def f22c6 : Code := subCode [1, 0, 1] (bodyOf Try.prog 22)
def f22a6 : Ann := subAnn [1, 0, 1] ann22
noncomputable def f22c7 : Code := subCode [1, 0, 1, 0] (bodyOf Try.prog 22)
def f22a7 : Ann := subAnn [1, 0, 1, 0] ann22
noncomputable def f22c8 : Code := subCode [1, 0, 1, 1] (bodyOf Try.prog 22)
def f22a8 : Ann := subAnn [1, 0, 1, 1] ann22
noncomputable def f22c9 : Code := subCode [1, 0, 1, 0, 0] (bodyOf Try.prog 22)
def f22a9 : Ann := subAnn [1, 0, 1, 0, 0] ann22
noncomputable def f22c10 : Code := subCode [1, 0, 1, 0, 1] (bodyOf Try.prog 22)
def f22a10 : Ann := subAnn [1, 0, 1, 0, 1] ann22
noncomputable def f22c11 : Code := subCode [1, 1, 0] (bodyOf Try.prog 22)
def f22a11 : Ann := subAnn [1, 1, 0] ann22
noncomputable def f22c12 : Code := subCode [1, 1, 1] (bodyOf Try.prog 22)
def f22a12 : Ann := subAnn [1, 1, 1] ann22
noncomputable def f22c13 : Code := subCode [1, 1, 1, 0] (bodyOf Try.prog 22)
def f22a13 : Ann := subAnn [1, 1, 1, 0] ann22
noncomputable def f22c14 : Code := subCode [1, 1, 1, 1] (bodyOf Try.prog 22)
def f22a14 : Ann := subAnn [1, 1, 1, 1] ann22
noncomputable def f22c15 : Code := subCode [1, 1, 1, 0, 0] (bodyOf Try.prog 22)
def f22a15 : Ann := subAnn [1, 1, 1, 0, 0] ann22
noncomputable def f22c16 : Code := subCode [1, 1, 1, 0, 1] (bodyOf Try.prog 22)
def f22a16 : Ann := subAnn [1, 1, 1, 0, 1] ann22
noncomputable def f22c17 : Code := subCode [1, 1, 1, 0, 1, 0] (bodyOf Try.prog 22)
def f22a17 : Ann := subAnn [1, 1, 1, 0, 1, 0] ann22
noncomputable def f22c18 : Code := subCode [1, 1, 1, 0, 1, 0, 0] (bodyOf Try.prog 22)
def f22a18 : Ann := subAnn [1, 1, 1, 0, 1, 0, 0] ann22
noncomputable def f22c19 : Code := subCode [1, 1, 1, 0, 1, 0, 0, 0] (bodyOf Try.prog 22)
def f22a19 : Ann := subAnn [1, 1, 1, 0, 1, 0, 0, 0] ann22
noncomputable def f22c20 : Code := subCode [1, 1, 1, 0, 1, 0, 0, 1] (bodyOf Try.prog 22)
def f22a20 : Ann := subAnn [1, 1, 1, 0, 1, 0, 0, 1] ann22
noncomputable def f22c21 : Code := subCode [1, 1, 1, 0, 1, 0, 0, 1, 0] (bodyOf Try.prog 22)
def f22a21 : Ann := subAnn [1, 1, 1, 0, 1, 0, 0, 1, 0] ann22
noncomputable def f22c22 : Code := subCode [1, 1, 1, 0, 1, 0, 0, 1, 1] (bodyOf Try.prog 22)
def f22a22 : Ann := subAnn [1, 1, 1, 0, 1, 0, 0, 1, 1] ann22
noncomputable def f22c23 : Code := subCode [1, 1, 1, 0, 1, 0, 0, 1, 0, 0] (bodyOf Try.prog 22)
def f22a23 : Ann := subAnn [1, 1, 1, 0, 1, 0, 0, 1, 0, 0] ann22
noncomputable def f22c24 : Code := subCode [1, 1, 1, 0, 1, 0, 0, 1, 0, 1] (bodyOf Try.prog 22)
def f22a24 : Ann := subAnn [1, 1, 1, 0, 1, 0, 0, 1, 0, 1] ann22
noncomputable def f22c25 : Code := subCode [1, 1, 1, 0, 1, 0, 0, 1, 1, 0] (bodyOf Try.prog 22)
def f22a25 : Ann := subAnn [1, 1, 1, 0, 1, 0, 0, 1, 1, 0] ann22
noncomputable def f22c26 : Code := subCode [1, 1, 1, 0, 1, 0, 0, 1, 1, 1] (bodyOf Try.prog 22)
def f22a26 : Ann := subAnn [1, 1, 1, 0, 1, 0, 0, 1, 1, 1] ann22
noncomputable def f22c27 : Code := subCode [1, 1, 1, 0, 1, 0, 0, 1, 1, 0, 0] (bodyOf Try.prog 22)
def f22a27 : Ann := subAnn [1, 1, 1, 0, 1, 0, 0, 1, 1, 0, 0] ann22
noncomputable def f22c28 : Code := subCode [1, 1, 1, 0, 1, 0, 0, 1, 1, 0, 0, 0] (bodyOf Try.prog 22)
def f22a28 : Ann := subAnn [1, 1, 1, 0, 1, 0, 0, 1, 1, 0, 0, 0] ann22
noncomputable def f22c29 : Code := subCode [1, 1, 1, 0, 1, 0, 0, 1, 1, 0, 0, 1] (bodyOf Try.prog 22)
def f22a29 : Ann := subAnn [1, 1, 1, 0, 1, 0, 0, 1, 1, 0, 0, 1] ann22
noncomputable def f22c30 : Code := subCode [1, 1, 1, 1, 0] (bodyOf Try.prog 22)
def f22a30 : Ann := subAnn [1, 1, 1, 1, 0] ann22
noncomputable def f22c31 : Code := subCode [1, 1, 1, 1, 1] (bodyOf Try.prog 22)
def f22a31 : Ann := subAnn [1, 1, 1, 1, 1] ann22
noncomputable def f22L17 {R : Type} (call : Bool → CallF R) (dem : Bool) (N : Nat) : KF R → Env → St → Option R := fun K e σ => runK Try.prog call dem N f22c18 f22a18 K e σ
def f22e0 (y0 : Int) (y1 : Int) (y2 : Int) : Env := AV.int IntKind.i64 y0 :: AV.int IntKind.i64 y1 :: AV.int IntKind.i64 y2 :: Env.sp 50 []
def f22e1 (y0 : Int) (y1 : Int) (y2 : Int) (y3 : Option (Nat × Nat)) (y4 : Int) : Env := AV.int IntKind.i64 y0 :: AV.int IntKind.i64 y1 :: AV.int IntKind.i64 y2 :: Env.sp 3 (AV.ptr y3 :: AV.int IntKind.i64 y4 :: Env.sp 45 [])
def f22e2 (y0 : Int) (y1 : Int) (y2 : Int) (y3 : Int) (y4 : Bool) (y5 : Bool) (y6 : Bool) (y7 : Bool) (y8 : Bool) (y9 : Bool) (y10 : Bool) (y11 : Bool) (y12 : Bool) (y13 : Bool) (y14 : Bool) : Env := AV.int IntKind.i64 y0 :: AV.int IntKind.i64 y1 :: AV.int IntKind.i64 y2 :: Env.sp 7 (AV.int IntKind.i64 y3 :: AV.bool y4 :: AV.bool y5 :: AV.tuple [] :: AV.tuple [] :: AV.bool y6 :: AV.bool y7 :: AV.tuple [] :: AV.tuple [] :: AV.bool y8 :: AV.bool y9 :: AV.tuple [] :: AV.tuple [] :: AV.bool y10 :: AV.bool y11 :: AV.tuple [] :: AV.tuple [] :: AV.bool y12 :: AV.bool y13 :: AV.tuple [] :: AV.tuple [] :: AV.tuple [] :: AV.tuple [] :: AV.bool y14 :: Env.sp 19 [])
def f22e3 (y0 : Int) (y1 : Int) (y2 : Int) (y3 : Int) (y4 : Bool) (y5 : Bool) (y6 : Int) (y7 : Bool) (y8 : Bool) (y9 : Bool) (y10 : Bool) (y11 : Bool) (y12 : Bool) (y13 : Bool) (y14 : Bool) (y15 : Bool) (y16 : Bool) : Env := AV.int IntKind.i64 y0 :: AV.int IntKind.i64 y1 :: AV.int IntKind.i64 y2 :: Env.sp 7 (AV.int IntKind.i64 y3 :: AV.bool y4 :: AV.bool y5 :: AV.int IntKind.i64 y6 :: AV.bool y7 :: AV.bool y8 :: AV.bool y9 :: AV.tuple [] :: AV.tuple [] :: AV.bool y10 :: AV.bool y11 :: AV.tuple [] :: AV.tuple [] :: AV.bool y12 :: AV.bool y13 :: AV.tuple [] :: AV.tuple [] :: AV.bool y14 :: AV.bool y15 :: AV.tuple [] :: AV.tuple [] :: AV.tuple [] :: AV.tuple [] :: AV.bool y16 :: Env.sp 19 [])
def f22e4 (y0 : Int) (y1 : Int) (y2 : Int) (y3 : Int) (y4 : Bool) (y5 : Bool) (y6 : Int) (y7 : Bool) (y8 : Bool) (y9 : Bool) (y10 : Int) (y11 : Bool) (y12 : Bool) (y13 : Bool) (y14 : Bool) (y15 : Bool) (y16 : Bool) (y17 : Bool) (y18 : Bool) : Env := AV.int IntKind.i64 y0 :: AV.int IntKind.i64 y1 :: AV.int IntKind.i64 y2 :: Env.sp 7 (AV.int IntKind.i64 y3 :: AV.bool y4 :: AV.bool y5 :: AV.int IntKind.i64 y6 :: AV.bool y7 :: AV.bool y8 :: AV.bool y9 :: AV.int IntKind.i64 y10 :: AV.bool y11 :: AV.bool y12 :: AV.bool y13 :: AV.tuple [] :: AV.tuple [] :: AV.bool y14 :: AV.bool y15 :: AV.tuple [] :: AV.tuple [] :: AV.bool y16 :: AV.bool y17 :: AV.tuple [] :: AV.tuple [] :: AV.tuple [] :: AV.tuple [] :: AV.bool y18 :: Env.sp 19 [])
def f22e5 (y0 : Int) (y1 : Int) (y2 : Int) (y3 : Int) (y4 : Bool) (y5 : Bool) (y6 : Int) (y7 : Bool) (y8 : Bool) (y9 : Bool) (y10 : Int) (y11 : Bool) (y12 : Bool) (y13 : Bool) (y14 : Int) (y15 : Bool) (y16 : Bool) (y17 : Bool) (y18 : Bool) (y19 : Bool) (y20 : Bool) : Env := AV.int IntKind.i64 y0 :: AV.int IntKind.i64 y1 :: AV.int IntKind.i64 y2 :: Env.sp 7 (AV.int IntKind.i64 y3 :: AV.bool y4 :: AV.bool y5 :: AV.int IntKind.i64 y6 :: AV.bool y7 :: AV.bool y8 :: AV.bool y9 :: AV.int IntKind.i64 y10 :: AV.bool y11 :: AV.bool y12 :: AV.bool y13 :: AV.int IntKind.i64 y14 :: AV.bool y15 :: AV.bool y16 :: AV.bool y17 :: AV.tuple [] :: AV.tuple [] :: AV.bool y18 :: AV.bool y19 :: AV.tuple [] :: AV.tuple [] :: AV.tuple [] :: AV.tuple [] :: AV.bool y20 :: Env.sp 19 [])
def f22e6 (y0 : Int) (y1 : Int) (y2 : Int) (y3 : Int) (y4 : Bool) (y5 : Bool) (y6 : Int) (y7 : Bool) (y8 : Bool) (y9 : Bool) (y10 : Int) (y11 : Bool) (y12 : Bool) (y13 : Bool) (y14 : Int) (y15 : Bool) (y16 : Bool) (y17 : Bool) (y18 : Int) (y19 : Bool) (y20 : Bool) (y21 : Bool) (y22 : Bool) : Env := AV.int IntKind.i64 y0 :: AV.int IntKind.i64 y1 :: AV.int IntKind.i64 y2 :: Env.sp 7 (AV.int IntKind.i64 y3 :: AV.bool y4 :: AV.bool y5 :: AV.int IntKind.i64 y6 :: AV.bool y7 :: AV.bool y8 :: AV.bool y9 :: AV.int IntKind.i64 y10 :: AV.bool y11 :: AV.bool y12 :: AV.bool y13 :: AV.int IntKind.i64 y14 :: AV.bool y15 :: AV.bool y16 :: AV.bool y17 :: AV.int IntKind.i64 y18 :: AV.bool y19 :: AV.bool y20 :: AV.bool y21 :: AV.tuple [] :: AV.tuple [] :: AV.tuple [] :: AV.tuple [] :: AV.bool y22 :: Env.sp 19 [])
def f22e7 (y0 : Int) (y1 : Int) (y2 : Int) (y3 : Int) (y4 : Bool) (y5 : Bool) (y6 : Int) (y7 : Bool) (y8 : Bool) (y9 : Bool) (y10 : Int) (y11 : Bool) (y12 : Bool) (y13 : Bool) (y14 : Int) (y15 : Bool) (y16 : Bool) (y17 : Bool) (y18 : Int) (y19 : Bool) (y20 : Bool) (y21 : Bool) (y22 : Int) (y23 : Int) (y24 : Int) (y25 : Bool) (y26 : Bool) : Env := AV.int IntKind.i64 y0 :: AV.int IntKind.i64 y1 :: AV.int IntKind.i64 y2 :: Env.sp 7 (AV.int IntKind.i64 y3 :: AV.bool y4 :: AV.bool y5 :: AV.int IntKind.i64 y6 :: AV.bool y7 :: AV.bool y8 :: AV.bool y9 :: AV.int IntKind.i64 y10 :: AV.bool y11 :: AV.bool y12 :: AV.bool y13 :: AV.int IntKind.i64 y14 :: AV.bool y15 :: AV.bool y16 :: AV.bool y17 :: AV.int IntKind.i64 y18 :: AV.bool y19 :: AV.bool y20 :: AV.bool y21 :: AV.int IntKind.i64 y22 :: AV.int IntKind.i64 y23 :: AV.int IntKind.i64 y24 :: AV.bool y25 :: AV.bool y26 :: Env.sp 19 [])
def f22e8 (y0 : Int) (y1 : Int) (y2 : Int) (y3 : Bool) : Env := AV.int IntKind.i64 y0 :: AV.int IntKind.i64 y1 :: AV.int IntKind.i64 y2 :: Env.sp 30 (AV.bool y3 :: Env.sp 19 [])
def f22e9 (y0 : Int) (y1 : Int) (y2 : Int) (y3 : Option (Nat × Nat)) (y4 : Int) (y5 : Bool) : Env := AV.int IntKind.i64 y0 :: AV.int IntKind.i64 y1 :: AV.int IntKind.i64 y2 :: Env.sp 3 (AV.ptr y3 :: AV.int IntKind.i64 y4 :: Env.sp 25 (AV.bool y5 :: Env.sp 19 []))
def f22e10 (y0 : Option (Nat × Nat)) (y1 : Int) : Env := Env.sp 6 (AV.ptr y0 :: AV.int IntKind.i64 y1 :: Env.sp 45 [])
def f22e11 (y0 : Int) (y1 : Int) (y2 : Int) (y3 : Nat) (y4 : Int) (y5 : Int) (y6 : Int) (y7 : Int) (y8 : Int) (y9 : Int) (y10 : Option (Nat × Nat)) (y11 : Nat) (y12 : Option Nat) (y13 : Option (Nat × Nat)) (y14 : Nat) (y15 : Option Nat) (y16 : Option (Nat × Nat)) (y17 : Nat) (y18 : Option Nat) (y19 : Nat) : Env := AV.int IntKind.i64 y0 :: AV.int IntKind.i64 y1 :: AV.int IntKind.i64 y2 :: Env.sp 5 (AV.ptr (some (y3, (0 : Nat))) :: Env.sp 25 (AV.int IntKind.i64 y4 :: AV.int IntKind.i64 y5 :: AV.int IntKind.i64 y6 :: AV.agg
  [AV.int IntKind.i64 y7, AV.int IntKind.i64 y8, AV.int IntKind.i64 y9, AV.slice y10 y11 y12 (3 : Nat), AV.slice y13 y14 y15 (3 : Nat),
    AV.slice y16 y17 y18 (3 : Nat)] :: AV.ptr (some (y19, (0 : Nat))) :: Env.sp 14 []))
def f22e12 (y0 : Int) (y1 : Nat) : Env := Env.sp 1 (AV.int IntKind.i64 y0 :: Env.sp 6 (AV.ptr (some (y1, (0 : Nat))) :: Env.sp 44 []))
def f22e13 (y0 : Int) (y1 : Nat) (y2 : Int) : Env := Env.sp 1 (AV.int IntKind.i64 y0 :: Env.sp 6 (AV.ptr (some (y1, (0 : Nat))) :: Env.sp 30 (AV.int IntKind.i64 y2 :: Env.sp 13 [])))
def f22e14 (y0 : Int) (y1 : Nat) (y2 : Int) (y3 : Bool) : Env := Env.sp 1 (AV.int IntKind.i64 y0 :: Env.sp 6 (AV.ptr (some (y1, (0 : Nat))) :: Env.sp 30 (AV.int IntKind.i64 y2 :: AV.bool y3 :: Env.sp 12 [])))
def f22e15 (y0 : Nat) : Env := Env.sp 8 (AV.ptr (some (y0, (0 : Nat))) :: Env.sp 44 [])
def f22e16 (y0 : Int) (y1 : Nat) (y2 : Int) (y3 : Int) (y4 : Int) : Env := Env.sp 1 (AV.int IntKind.i64 y0 :: Env.sp 6 (AV.ptr (some (y1, (0 : Nat))) :: AV.int IntKind.i64 y2 :: Env.sp 29 (AV.int IntKind.i64 y3 :: Env.sp 1 (AV.int IntKind.i64 y4 :: Env.sp 11 []))))
def f22e17 (y0 : Int) (y1 : Nat) (y2 : Int) (y3 : Int) : Env := Env.sp 1 (AV.int IntKind.i64 y0 :: Env.sp 6 (AV.ptr (some (y1, (0 : Nat))) :: AV.int IntKind.i64 y2 :: Env.sp 29 (AV.int IntKind.i64 y3 :: Env.sp 13 [])))
def f22e18 (y0 : Int) (y1 : Nat) (y2 : Int) (y3 : Int) (y4 : Nat) (y5 : Int) (y6 : Int) (y7 : Int) (y8 : Int) (y9 : Option (Nat × Nat)) (y10 : Nat) (y11 : Option Nat) (y12 : Nat) (y13 : Nat) (y14 : Option (Nat × Nat)) : Env := Env.sp 1 (AV.int IntKind.i64 y0 :: Env.sp 6 (AV.ptr (some (y1, (0 : Nat))) :: AV.int IntKind.i64 y2 :: Env.sp 29 (AV.int IntKind.i64 y3 :: Env.sp 2 (AV.ptr (some (y4, (0 : Nat))) :: AV.int IntKind.i64 y5 :: AV.int IntKind.i64 y6 :: AV.int IntKind.i64 y7 :: AV.int IntKind.i64 y8 :: AV.slice y9 y10 y11 (3 : Nat) :: AV.ptr (some (y12, (0 : Nat))) :: AV.ptr (some (y13, (3 : Nat))) :: AV.ptr y14 :: Env.sp 2 []))))
def f22e19 (y0 : Int) (y1 : Nat) (y2 : Int) (y3 : Int) : Env := Env.sp 1 (AV.int IntKind.i64 y0 :: Env.sp 6 (AV.ptr (some (y1, (0 : Nat))) :: Env.sp 30 (AV.int IntKind.i64 y2 :: Env.sp 11 (AV.int IntKind.i64 y3 :: Env.sp 1 []))))
def f22e20 (y0 : Nat) (y1 : Int) (y2 : Nat) (y3 : Nat) : Env := Env.sp 6 (AV.ptr (some (y0, (0 : Nat))) :: AV.int IntKind.i64 y1 :: AV.ptr (some (y2, (0 : Nat))) :: Env.sp 43 (AV.ptr (some (y3, (0 : Nat))) :: []))
def f22e21 (y0 : Nat) (y1 : Int) : Env := Env.sp 6 (AV.ptr (some (y0, (0 : Nat))) :: AV.int IntKind.i64 y1 :: Env.sp 45 [])

/- function 22 -/
theorem f22_eq {R : Type} (call : Bool → CallF R) (dem : Bool) (N : Nat) (y0 : Int) (y1 : Int) (y2 : Int) (σ : St) (K : AV → St → Option R) :
    bodyK Try.prog call dem N ann 22 [AV.int IntKind.i64 y0, AV.int IntKind.i64 y1, AV.int IntKind.i64 y2] σ K = runK Try.prog call dem N f22c0 f22a0 (bodyC Try.prog f22rs K) (f22e0 y0 y1 y2) σ := bodyK_of (fn := ((Try.prog.funcs[22]?).get rfl)) (by kernel_rfl) (by kernel_rfl) (by kernel_rfl) (by kernel_rfl) (by kernel_rfl) (by kernel_rfl)
theorem f22n0 {R : Type} (call : Bool → CallF R) (dem : Bool) (N : Nat) (J : KF R) (e : Env) (σ : St) : runK Try.prog call dem N f22c0 f22a0 J e σ = runK Try.prog call dem N f22c1 f22a1 (seqC (fun K e σ => runK Try.prog call dem N f22c2 f22a2 K e σ) f22a0 J) e σ := runK_seq' (by kernel_rfl) (by kernel_rfl) (by kernel_rfl)
theorem f22r1_f22e0 {R : Type} (call : Bool → CallF R) (dem : Bool) (N : Nat) (y0 : Int) (y1 : Int) (y2 : Int) (J : KF R) (σ : St) :
    runK Try.prog call dem N f22c1 f22a1 J (f22e0 y0 y1 y2) σ =
J Ex.normal (f22e1 y0 y1 y2 none (0 : Int)) σ := hide (by kernel_rfl)
theorem f22z0_f22e1 (y0 : Int) (y1 : Int) (y2 : Int) (y3 : Option (Nat × Nat)) (y4 : Int) : Ann.clr f22a0 (f22e1 y0 y1 y2 y3 y4) = f22e0 y0 y1 y2 := hide (by kernel_rfl)
theorem f22n2 {R : Type} (call : Bool → CallF R) (dem : Bool) (N : Nat) (J : KF R) (e : Env) (σ : St) : runK Try.prog call dem N f22c2 f22a2 J e σ = runK Try.prog call dem N f22c3 f22a3 (seqC (fun K e σ => runK Try.prog call dem N f22c4 f22a4 K e σ) f22a2 J) e σ := runK_seq' (by kernel_rfl) (by kernel_rfl) (by kernel_rfl)
theorem f22n3 {R : Type} (call : Bool → CallF R) (dem : Bool) (N : Nat) (J : KF R) (e : Env) (σ : St) : runK Try.prog call dem N f22c3 f22a3 J e σ = runK Try.prog call dem N f22c5 f22a5 (seqC (fun K e σ => runK Try.prog call dem N f22c6 f22a6 K e σ) f22a3 J) e σ := runK_seq' (by kernel_rfl) (by kernel_rfl) (by kernel_rfl)
theorem f22r5_f22e0 {R : Type} (call : Bool → CallF R) (dem : Bool) (N : Nat) (y0 : Int) (y1 : Int) (y2 : Int) (J : KF R) (σ : St) :
    runK Try.prog call dem N f22c5 f22a5 J (f22e0 y0 y1 y2) σ =
if decide (y0 < (0 : Int)) = true then J Ex.normal (f22e2 y0 y1 y2 y0 (decide (y0 < (0 : Int))) true true true true true true true true true true) σ
else
  if decide (y0 > (4 : Int)) = true then
    J Ex.normal
      (f22e3 y0 y1 y2 y0 (decide (y0 < (0 : Int))) false y0 (decide (y0 > (4 : Int))) (decide (y0 > (4 : Int))) true true true true true true true
        true)
      σ
  else
    if decide (y1 < (0 : Int)) = true then
      J Ex.normal
        (f22e4 y0 y1 y2 y0 (decide (y0 < (0 : Int))) false y0 (decide (y0 > (4 : Int))) (decide (y0 > (4 : Int))) false y1 (decide (y1 < (0 : Int)))
          (decide (y1 < (0 : Int))) true true true true true true)
        σ
    else
      if decide (y1 > (3 : Int)) = true then
        J Ex.normal
          (f22e5 y0 y1 y2 y0 (decide (y0 < (0 : Int))) false y0 (decide (y0 > (4 : Int))) (decide (y0 > (4 : Int))) false y1 (decide (y1 < (0 : Int)))
            (decide (y1 < (0 : Int))) false y1 (decide (y1 > (3 : Int))) (decide (y1 > (3 : Int))) true true true true)
          σ
      else
        if decide (y2 < (0 : Int)) = true then
          J Ex.normal
            (f22e6 y0 y1 y2 y0 (decide (y0 < (0 : Int))) false y0 (decide (y0 > (4 : Int))) (decide (y0 > (4 : Int))) false y1
              (decide (y1 < (0 : Int))) (decide (y1 < (0 : Int))) false y1 (decide (y1 > (3 : Int))) (decide (y1 > (3 : Int))) false y2
              (decide (y2 < (0 : Int))) (decide (y2 < (0 : Int))) true true)
            σ
        else
          J Ex.normal
            (f22e7 y0 y1 y2 y0 (decide (y0 < (0 : Int))) false y0 (decide (y0 > (4 : Int))) (decide (y0 > (4 : Int))) false y1
              (decide (y1 < (0 : Int))) (decide (y1 < (0 : Int))) false y1 (decide (y1 > (3 : Int))) (decide (y1 > (3 : Int))) false y2
              (decide (y2 < (0 : Int))) (decide (y2 < (0 : Int))) false y2 y1 (IntKind.wrap IntKind.i64 ((3 : Int) * y1))
              (decide (y2 > IntKind.wrap IntKind.i64 ((3 : Int) * y1))) (decide (y2 > IntKind.wrap IntKind.i64 ((3 : Int) * y1))))
            σ := hide (by kernel_rfl)
theorem f22z3_f22e2 (y0 : Int) (y1 : Int) (y2 : Int) (y3 : Int) (y4 : Bool) (y5 : Bool) (y6 : Bool) (y7 : Bool) (y8 : Bool) (y9 : Bool) (y10 : Bool) (y11 : Bool) (y12 : Bool) (y13 : Bool) (y14 : Bool) : Ann.clr f22a3 (f22e2 y0 y1 y2 y3 y4 y5 y6 y7 y8 y9 y10 y11 y12 y13 y14) = f22e8 y0 y1 y2 y14 := hide (by kernel_rfl)
theorem f22x6_f22e8 {R : Type} (call : Bool → CallF R) (dem : Bool) (N : Nat) (y0 : Int) (y1 : Int) (y2 : Int) (y3 : Bool) (J : KF R) (σ : St) : runK Try.prog call dem N f22c6 f22a6 J (f22e8 y0 y1 y2 y3) σ = if y3 = true then runK Try.prog call dem N f22c7 f22a7 (condC f22a6 J) (f22e8 y0 y1 y2 y3) σ else runK Try.prog call dem N f22c8 f22a8 (condC f22a6 J) (f22e8 y0 y1 y2 y3) σ := runK_cond' (o := Operand.tmp (33 : Nat)) (by kernel_rfl) (by kernel_rfl) (by kernel_rfl) (by kernel_rfl)
theorem f22n7 {R : Type} (call : Bool → CallF R) (dem : Bool) (N : Nat) (J : KF R) (e : Env) (σ : St) : runK Try.prog call dem N f22c7 f22a7 J e σ = runK Try.prog call dem N f22c9 f22a9 (seqC (fun K e σ => runK Try.prog call dem N f22c10 f22a10 K e σ) f22a7 J) e σ := runK_seq' (by kernel_rfl) (by kernel_rfl) (by kernel_rfl)
theorem f22r9_f22e8 {R : Type} (call : Bool → CallF R) (dem : Bool) (N : Nat) (y0 : Int) (y1 : Int) (y2 : Int) (y3 : Bool) (J : KF R) (σ : St) :
    runK Try.prog call dem N f22c9 f22a9 J (f22e8 y0 y1 y2 y3) σ =
J Ex.normal (f22e9 y0 y1 y2 none (1 : Int) y3) σ := hide (by kernel_rfl)
theorem f22z7_f22e9 (y0 : Int) (y1 : Int) (y2 : Int) (y3 : Option (Nat × Nat)) (y4 : Int) (y5 : Bool) : Ann.clr f22a7 (f22e9 y0 y1 y2 y3 y4 y5) = f22e10 y3 y4 := hide (by kernel_rfl)
theorem f22y10_f22e10 {R : Type} (call : Bool → CallF R) (dem : Bool) (N : Nat) (y0 : Option (Nat × Nat)) (y1 : Int) (J : KF R) (σ : St) : runK Try.prog call dem N f22c10 f22a10 J (f22e10 y0 y1) σ = J .ret (f22e10 y0 y1) σ := runK_ret' (by kernel_rfl) (by kernel_rfl)
theorem f22n8 {R : Type} (call : Bool → CallF R) (dem : Bool) (N : Nat) (J : KF R) (e : Env) (σ : St) : runK Try.prog call dem N f22c8 f22a8 J e σ = J .normal e σ := runK_skip' (by kernel_rfl)
theorem f22z6_f22e8 (y0 : Int) (y1 : Int) (y2 : Int) (y3 : Bool) : Ann.clr f22a6 (f22e8 y0 y1 y2 y3) = f22e0 y0 y1 y2 := hide (by kernel_rfl)
theorem f22z3_f22e3 (y0 : Int) (y1 : Int) (y2 : Int) (y3 : Int) (y4 : Bool) (y5 : Bool) (y6 : Int) (y7 : Bool) (y8 : Bool) (y9 : Bool) (y10 : Bool) (y11 : Bool) (y12 : Bool) (y13 : Bool) (y14 : Bool) (y15 : Bool) (y16 : Bool) : Ann.clr f22a3 (f22e3 y0 y1 y2 y3 y4 y5 y6 y7 y8 y9 y10 y11 y12 y13 y14 y15 y16) = f22e8 y0 y1 y2 y16 := hide (by kernel_rfl)
theorem f22z3_f22e4 (y0 : Int) (y1 : Int) (y2 : Int) (y3 : Int) (y4 : Bool) (y5 : Bool) (y6 : Int) (y7 : Bool) (y8 : Bool) (y9 : Bool) (y10 : Int) (y11 : Bool) (y12 : Bool) (y13 : Bool) (y14 : Bool) (y15 : Bool) (y16 : Bool) (y17 : Bool) (y18 : Bool) : Ann.clr f22a3 (f22e4 y0 y1 y2 y3 y4 y5 y6 y7 y8 y9 y10 y11 y12 y13 y14 y15 y16 y17 y18) = f22e8 y0 y1 y2 y18 := hide (by kernel_rfl)
theorem f22z3_f22e5 (y0 : Int) (y1 : Int) (y2 : Int) (y3 : Int) (y4 : Bool) (y5 : Bool) (y6 : Int) (y7 : Bool) (y8 : Bool) (y9 : Bool) (y10 : Int) (y11 : Bool) (y12 : Bool) (y13 : Bool) (y14 : Int) (y15 : Bool) (y16 : Bool) (y17 : Bool) (y18 : Bool) (y19 : Bool) (y20 : Bool) : Ann.clr f22a3 (f22e5 y0 y1 y2 y3 y4 y5 y6 y7 y8 y9 y10 y11 y12 y13 y14 y15 y16 y17 y18 y19 y20) = f22e8 y0 y1 y2 y20 := hide (by kernel_rfl)
theorem f22z3_f22e6 (y0 : Int) (y1 : Int) (y2 : Int) (y3 : Int) (y4 : Bool) (y5 : Bool) (y6 : Int) (y7 : Bool) (y8 : Bool) (y9 : Bool) (y10 : Int) (y11 : Bool) (y12 : Bool) (y13 : Bool) (y14 : Int) (y15 : Bool) (y16 : Bool) (y17 : Bool) (y18 : Int) (y19 : Bool) (y20 : Bool) (y21 : Bool) (y22 : Bool) : Ann.clr f22a3 (f22e6 y0 y1 y2 y3 y4 y5 y6 y7 y8 y9 y10 y11 y12 y13 y14 y15 y16 y17 y18 y19 y20 y21 y22) = f22e8 y0 y1 y2 y22 := hide (by kernel_rfl)
theorem f22z3_f22e7 (y0 : Int) (y1 : Int) (y2 : Int) (y3 : Int) (y4 : Bool) (y5 : Bool) (y6 : Int) (y7 : Bool) (y8 : Bool) (y9 : Bool) (y10 : Int) (y11 : Bool) (y12 : Bool) (y13 : Bool) (y14 : Int) (y15 : Bool) (y16 : Bool) (y17 : Bool) (y18 : Int) (y19 : Bool) (y20 : Bool) (y21 : Bool) (y22 : Int) (y23 : Int) (y24 : Int) (y25 : Bool) (y26 : Bool) : Ann.clr f22a3 (f22e7 y0 y1 y2 y3 y4 y5 y6 y7 y8 y9 y10 y11 y12 y13 y14 y15 y16 y17 y18 y19 y20 y21 y22 y23 y24 y25 y26) = f22e8 y0 y1 y2 y26 := hide (by kernel_rfl)
theorem f22z2_f22e0 (y0 : Int) (y1 : Int) (y2 : Int) : Ann.clr f22a2 (f22e0 y0 y1 y2) = f22e0 y0 y1 y2 := hide (by kernel_rfl)
theorem f22n4 {R : Type} (call : Bool → CallF R) (dem : Bool) (N : Nat) (J : KF R) (e : Env) (σ : St) : runK Try.prog call dem N f22c4 f22a4 J e σ = runK Try.prog call dem N f22c11 f22a11 (seqC (fun K e σ => runK Try.prog call dem N f22c12 f22a12 K e σ) f22a4 J) e σ := runK_seq' (by kernel_rfl) (by kernel_rfl) (by kernel_rfl)
theorem f22r11_f22e0 {R : Type} (call : Bool → CallF R) (dem : Bool) (N : Nat) (y0 : Int) (y1 : Int) (y2 : Int) (J : KF R) (σ : St) :
    runK Try.prog call dem N f22c11 f22a11 J (f22e0 y0 y1 y2) σ =
J Ex.normal
  (f22e11 y0 y1 y2 (St.next σ) y0 y1 y2 y0 y1 y2 none (0 : Nat) (some (0 : Nat)) none (0 : Nat) (some (0 : Nat)) none (0 : Nat) (some (0 : Nat))
    (St.next σ))
  (St.new σ
    (Blk.cells
      [AV.int IntKind.i64 y0, AV.int IntKind.i64 y1, AV.int IntKind.i64 y2, AV.slice none (0 : Nat) (some (0 : Nat)) (3 : Nat),
        AV.slice none (0 : Nat) (some (0 : Nat)) (3 : Nat), AV.slice none (0 : Nat) (some (0 : Nat)) (3 : Nat)]
      true)) := hide (by kernel_rfl)
theorem f22z4_f22e11 (y0 : Int) (y1 : Int) (y2 : Int) (y3 : Nat) (y4 : Int) (y5 : Int) (y6 : Int) (y7 : Int) (y8 : Int) (y9 : Int) (y10 : Option (Nat × Nat)) (y11 : Nat) (y12 : Option Nat) (y13 : Option (Nat × Nat)) (y14 : Nat) (y15 : Option Nat) (y16 : Option (Nat × Nat)) (y17 : Nat) (y18 : Option Nat) (y19 : Nat) : Ann.clr f22a4 (f22e11 y0 y1 y2 y3 y4 y5 y6 y7 y8 y9 y10 y11 y12 y13 y14 y15 y16 y17 y18 y19) = f22e12 y1 y3 := hide (by kernel_rfl)
theorem f22n12 {R : Type} (call : Bool → CallF R) (dem : Bool) (N : Nat) (J : KF R) (e : Env) (σ : St) : runK Try.prog call dem N f22c12 f22a12 J e σ = runK Try.prog call dem N f22c13 f22a13 (seqC (fun K e σ => runK Try.prog call dem N f22c14 f22a14 K e σ) f22a12 J) e σ := runK_seq' (by kernel_rfl) (by kernel_rfl) (by kernel_rfl)
theorem f22n13 {R : Type} (call : Bool → CallF R) (dem : Bool) (N : Nat) (J : KF R) (e : Env) (σ : St) : runK Try.prog call dem N f22c13 f22a13 J e σ = runK Try.prog call dem N f22c15 f22a15 (seqC (fun K e σ => runK Try.prog call dem N f22c16 f22a16 K e σ) f22a13 J) e σ := runK_seq' (by kernel_rfl) (by kernel_rfl) (by kernel_rfl)
theorem f22r15_f22e12 {R : Type} (call : Bool → CallF R) (dem : Bool) (N : Nat) (y0 : Int) (y1 : Nat) (J : KF R) (σ : St) :
    runK Try.prog call dem N f22c15 f22a15 J (f22e12 y0 y1) σ =
J Ex.normal (f22e13 y0 y1 (0 : Int)) σ := hide (by kernel_rfl)
theorem f22z13_f22e13 (y0 : Int) (y1 : Nat) (y2 : Int) : Ann.clr f22a13 (f22e13 y0 y1 y2) = f22e13 y0 y1 y2 := hide (by kernel_rfl)
theorem f22n16 {R : Type} (call : Bool → CallF R) (dem : Bool) (N : Nat) (J : KF R) (e : Env) (σ : St) : runK Try.prog call dem N f22c16 f22a16 J e σ = runK Try.prog call dem N f22c17 f22a17 (blockC 0 f22a16 J) e σ := runK_block' (by kernel_rfl) (by kernel_rfl)
theorem f22L17_eq {R : Type} (call : Bool → CallF R) (dem : Bool) (N : Nat) (J : KF R) (e : Env) (σ : St) : f22L17 call dem N J e σ = runK Try.prog call dem N f22c18 f22a18 J e σ := hide rfl
theorem f22z17_f22e13 (y0 : Int) (y1 : Nat) (y2 : Int) : Ann.clr f22a17 (f22e13 y0 y1 y2) = f22e13 y0 y1 y2 := hide (by kernel_rfl)
theorem f22l17_f22e13 {R : Type} (call : Bool → CallF R) (dem : Bool) (N : Nat) (y0 : Int) (y1 : Nat) (y2 : Int) (J : KF R) (σ : St) : runK Try.prog call dem N f22c17 f22a17 J (f22e13 y0 y1 y2) σ = loopK (f22L17 call dem N) f22a17 N J (f22e13 y0 y1 y2) σ := runK_loop' (by kernel_rfl) (by kernel_rfl) (by kernel_rfl)
theorem f22n18 {R : Type} (call : Bool → CallF R) (dem : Bool) (N : Nat) (J : KF R) (e : Env) (σ : St) : runK Try.prog call dem N f22c18 f22a18 J e σ = runK Try.prog call dem N f22c19 f22a19 (seqC (fun K e σ => runK Try.prog call dem N f22c20 f22a20 K e σ) f22a18 J) e σ := runK_seq' (by kernel_rfl) (by kernel_rfl) (by kernel_rfl)
theorem f22r19_f22e13 {R : Type} (call : Bool → CallF R) (dem : Bool) (N : Nat) (y0 : Int) (y1 : Nat) (y2 : Int) (J : KF R) (σ : St) :
    runK Try.prog call dem N f22c19 f22a19 J (f22e13 y0 y1 y2) σ =
J Ex.normal (f22e14 y0 y1 y2 (decide (y2 < (3 : Int)))) σ := hide (by kernel_rfl)
theorem f22z18_f22e14 (y0 : Int) (y1 : Nat) (y2 : Int) (y3 : Bool) : Ann.clr f22a18 (f22e14 y0 y1 y2 y3) = f22e14 y0 y1 y2 y3 := hide (by kernel_rfl)
theorem f22n20 {R : Type} (call : Bool → CallF R) (dem : Bool) (N : Nat) (J : KF R) (e : Env) (σ : St) : runK Try.prog call dem N f22c20 f22a20 J e σ = runK Try.prog call dem N f22c21 f22a21 (seqC (fun K e σ => runK Try.prog call dem N f22c22 f22a22 K e σ) f22a20 J) e σ := runK_seq' (by kernel_rfl) (by kernel_rfl) (by kernel_rfl)
theorem f22x21_f22e14 {R : Type} (call : Bool → CallF R) (dem : Bool) (N : Nat) (y0 : Int) (y1 : Nat) (y2 : Int) (y3 : Bool) (J : KF R) (σ : St) : runK Try.prog call dem N f22c21 f22a21 J (f22e14 y0 y1 y2 y3) σ = if y3 = true then runK Try.prog call dem N f22c23 f22a23 (condC f22a21 J) (f22e14 y0 y1 y2 y3) σ else runK Try.prog call dem N f22c24 f22a24 (condC f22a21 J) (f22e14 y0 y1 y2 y3) σ := runK_cond' (o := Operand.tmp (40 : Nat)) (by kernel_rfl) (by kernel_rfl) (by kernel_rfl) (by kernel_rfl)
theorem f22n23 {R : Type} (call : Bool → CallF R) (dem : Bool) (N : Nat) (J : KF R) (e : Env) (σ : St) : runK Try.prog call dem N f22c23 f22a23 J e σ = J .normal e σ := runK_skip' (by kernel_rfl)
theorem f22z21_f22e14 (y0 : Int) (y1 : Nat) (y2 : Int) (y3 : Bool) : Ann.clr f22a21 (f22e14 y0 y1 y2 y3) = f22e13 y0 y1 y2 := hide (by kernel_rfl)
theorem f22y24_f22e14 {R : Type} (call : Bool → CallF R) (dem : Bool) (N : Nat) (y0 : Int) (y1 : Nat) (y2 : Int) (y3 : Bool) (J : KF R) (σ : St) : runK Try.prog call dem N f22c24 f22a24 J (f22e14 y0 y1 y2 y3) σ = J (.exit 0) (f22e15 y1) σ := runK_exit' (by kernel_rfl) (by kernel_rfl)
theorem f22z20_f22e13 (y0 : Int) (y1 : Nat) (y2 : Int) : Ann.clr f22a20 (f22e13 y0 y1 y2) = f22e13 y0 y1 y2 := hide (by kernel_rfl)
theorem f22n22 {R : Type} (call : Bool → CallF R) (dem : Bool) (N : Nat) (J : KF R) (e : Env) (σ : St) : runK Try.prog call dem N f22c22 f22a22 J e σ = runK Try.prog call dem N f22c25 f22a25 (seqC (fun K e σ => runK Try.prog call dem N f22c26 f22a26 K e σ) f22a22 J) e σ := runK_seq' (by kernel_rfl) (by kernel_rfl) (by kernel_rfl)
theorem f22n25 {R : Type} (call : Bool → CallF R) (dem : Bool) (N : Nat) (J : KF R) (e : Env) (σ : St) : runK Try.prog call dem N f22c25 f22a25 J e σ = runK Try.prog call dem N f22c27 f22a27 (blockC 1 f22a25 J) e σ := runK_block' (by kernel_rfl) (by kernel_rfl)
theorem f22n27 {R : Type} (call : Bool → CallF R) (dem : Bool) (N : Nat) (J : KF R) (e : Env) (σ : St) : runK Try.prog call dem N f22c27 f22a27 J e σ = runK Try.prog call dem N f22c28 f22a28 (seqC (fun K e σ => runK Try.prog call dem N f22c29 f22a29 K e σ) f22a27 J) e σ := runK_seq' (by kernel_rfl) (by kernel_rfl) (by kernel_rfl)
theorem f22r28_f22e13 {R : Type} (call : Bool → CallF R) (dem : Bool) (N : Nat) (y0 : Int) (y1 : Nat) (y2 : Int) (J : KF R) (σ : St) :
    runK Try.prog call dem N f22c28 f22a28 J (f22e13 y0 y1 y2) σ =
J Ex.normal (f22e16 y0 y1 y2 y2 y2) σ := hide (by kernel_rfl)
theorem f22z27_f22e16 (y0 : Int) (y1 : Nat) (y2 : Int) (y3 : Int) (y4 : Int) : Ann.clr f22a27 (f22e16 y0 y1 y2 y3 y4) = f22e17 y0 y1 y2 y3 := hide (by kernel_rfl)
theorem f22r29_f22e17 {R : Type} (call : Bool → CallF R) (dem : Bool) (N : Nat) (y0 : Int) (y1 : Nat) (y2 : Int) (y3 : Int) (J : KF R) (σ : St) :
    runK Try.prog call dem N f22c29 f22a29 J (f22e17 y0 y1 y2 y3) σ =
if
    ((0 : Int) ≤ IntKind.wrap IntKind.i64 (IntKind.wrap IntKind.i64 ((3 : Int) * y0) + (1 : Int)) ∧
        IntKind.wrap IntKind.i64 (IntKind.wrap IntKind.i64 ((3 : Int) * y0) + (1 : Int)) ≤
            IntKind.wrap IntKind.i64 (IntKind.wrap IntKind.i64 ((3 : Int) * y0) + (1 : Int)) ∧
          IntKind.wrap IntKind.i64 (IntKind.wrap IntKind.i64 ((3 : Int) * y0) + (1 : Int)) ≤ (1099511627776 : Int)) ∧
      (0 : Nat) < (3 : Nat) ∧
        (3 : Nat) = (3 : Nat) ∧
          Int.toNat (IntKind.wrap IntKind.i64 (IntKind.wrap IntKind.i64 ((3 : Int) * y0) + (1 : Int))) * (41 : Nat) ≤ (70368744177664 : Nat) then
  if (0 : Nat) < (1 : Nat) ∧ (0 : Int) ≤ y2 ∧ y2 < (3 : Int) then
    Option.bind
      (St.st
        (St.new σ
          (Blk.cells
            (List.flatten
              (List.replicate (Int.toNat (IntKind.wrap IntKind.i64 (IntKind.wrap IntKind.i64 ((3 : Int) * y0) + (1 : Int))))
                [AV.bool false, AV.str (ByteArray.mk #[]), AV.str (ByteArray.mk #[])]))
            true))
        y1 ((3 : Nat) + Int.toNat y2 * (1 : Nat))
        [AV.slice (some (St.next σ, (0 : Nat))) (Int.toNat (IntKind.wrap IntKind.i64 (IntKind.wrap IntKind.i64 ((3 : Int) * y0) + (1 : Int))))
            (some (Int.toNat (IntKind.wrap IntKind.i64 (IntKind.wrap IntKind.i64 ((3 : Int) * y0) + (1 : Int))))) (3 : Nat)])
      fun v0 =>
      J Ex.normal
        (f22e18 y0 y1 y2 y3 y1 y2 y0 (IntKind.wrap IntKind.i64 ((3 : Int) * y0))
          (IntKind.wrap IntKind.i64 (IntKind.wrap IntKind.i64 ((3 : Int) * y0) + (1 : Int))) (some (St.next σ, (0 : Nat)))
          (Int.toNat (IntKind.wrap IntKind.i64 (IntKind.wrap IntKind.i64 ((3 : Int) * y0) + (1 : Int))))
          (some (Int.toNat (IntKind.wrap IntKind.i64 (IntKind.wrap IntKind.i64 ((3 : Int) * y0) + (1 : Int))))) y1 y1
          (some (y1, (3 : Nat) + Int.toNat y2 * (1 : Nat))))
        v0
  else none
else none := hide (by kernel_rfl)
theorem f22z25_f22e18 (y0 : Int) (y1 : Nat) (y2 : Int) (y3 : Int) (y4 : Nat) (y5 : Int) (y6 : Int) (y7 : Int) (y8 : Int) (y9 : Option (Nat × Nat)) (y10 : Nat) (y11 : Option Nat) (y12 : Nat) (y13 : Nat) (y14 : Option (Nat × Nat)) : Ann.clr f22a25 (f22e18 y0 y1 y2 y3 y4 y5 y6 y7 y8 y9 y10 y11 y12 y13 y14) = f22e13 y0 y1 y3 := hide (by kernel_rfl)
theorem f22z22_f22e13 (y0 : Int) (y1 : Nat) (y2 : Int) : Ann.clr f22a22 (f22e13 y0 y1 y2) = f22e13 y0 y1 y2 := hide (by kernel_rfl)
theorem f22r26_f22e13 {R : Type} (call : Bool → CallF R) (dem : Bool) (N : Nat) (y0 : Int) (y1 : Nat) (y2 : Int) (J : KF R) (σ : St) :
    runK Try.prog call dem N f22c26 f22a26 J (f22e13 y0 y1 y2) σ =
J Ex.normal (f22e19 y0 y1 (IntKind.wrap IntKind.i64 (y2 + (1 : Int))) (IntKind.wrap IntKind.i64 (y2 + (1 : Int)))) σ := hide (by kernel_rfl)
theorem f22z17_f22e19 (y0 : Int) (y1 : Nat) (y2 : Int) (y3 : Int) : Ann.clr f22a17 (f22e19 y0 y1 y2 y3) = f22e13 y0 y1 y2 := hide (by kernel_rfl)
theorem f22z16_f22e15 (y0 : Nat) : Ann.clr f22a16 (f22e15 y0) = f22e15 y0 := hide (by kernel_rfl)
theorem f22z12_f22e15 (y0 : Nat) : Ann.clr f22a12 (f22e15 y0) = f22e15 y0 := hide (by kernel_rfl)
theorem f22n14 {R : Type} (call : Bool → CallF R) (dem : Bool) (N : Nat) (J : KF R) (e : Env) (σ : St) : runK Try.prog call dem N f22c14 f22a14 J e σ = runK Try.prog call dem N f22c30 f22a30 (seqC (fun K e σ => runK Try.prog call dem N f22c31 f22a31 K e σ) f22a14 J) e σ := runK_seq' (by kernel_rfl) (by kernel_rfl) (by kernel_rfl)
theorem f22r30_f22e15 {R : Type} (call : Bool → CallF R) (dem : Bool) (N : Nat) (y0 : Nat) (J : KF R) (σ : St) :
    runK Try.prog call dem N f22c30 f22a30 J (f22e15 y0) σ =
J Ex.normal (f22e20 y0 (0 : Int) y0 y0) σ := hide (by kernel_rfl)
theorem f22z14_f22e20 (y0 : Nat) (y1 : Int) (y2 : Nat) (y3 : Nat) : Ann.clr f22a14 (f22e20 y0 y1 y2 y3) = f22e21 y0 y1 := hide (by kernel_rfl)
theorem f22y31_f22e21 {R : Type} (call : Bool → CallF R) (dem : Bool) (N : Nat) (y0 : Nat) (y1 : Int) (J : KF R) (σ : St) : runK Try.prog call dem N f22c31 f22a31 J (f22e21 y0 y1) σ = J .ret (f22e21 y0 y1) σ := runK_ret' (by kernel_rfl) (by kernel_rfl)
theorem f22b_f22e10_r {R : Type} (y0 : Option (Nat × Nat)) (y1 : Int) (σ : St) (K : AV → St → Option R) : bodyC Try.prog f22rs K (Ex.ret) (f22e10 y0 y1) σ =
K (AV.tuple [AV.ptr y0, AV.int IntKind.i64 y1]) σ := hide (by kernel_rfl)
theorem f22b_f22e21_r {R : Type} (y0 : Nat) (y1 : Int) (σ : St) (K : AV → St → Option R) : bodyC Try.prog f22rs K (Ex.ret) (f22e21 y0 y1) σ =
K (AV.tuple [AV.ptr (some (y0, (0 : Nat))), AV.int IntKind.i64 y1]) σ := hide (by kernel_rfl)
attribute [go_sem] f22_eq f22n0 f22r1_f22e0 f22z0_f22e1 f22n2 f22n3 f22r5_f22e0 f22z3_f22e2 f22x6_f22e8 f22n7 f22r9_f22e8 f22z7_f22e9 f22y10_f22e10 f22n8 f22z6_f22e8 f22z3_f22e3 f22z3_f22e4 f22z3_f22e5 f22z3_f22e6 f22z3_f22e7 f22z2_f22e0 f22n4 f22r11_f22e0 f22z4_f22e11 f22n12 f22n13 f22r15_f22e12 f22z13_f22e13 f22n16 f22L17_eq f22z17_f22e13 f22l17_f22e13 f22n18 f22r19_f22e13 f22z18_f22e14 f22n20 f22x21_f22e14 f22n23 f22z21_f22e14 f22y24_f22e14 f22z20_f22e13 f22n22 f22n25 f22n27 f22r28_f22e13 f22z27_f22e16 f22r29_f22e17 f22z25_f22e18 f22z22_f22e13 f22r26_f22e13 f22z17_f22e19 f22z16_f22e15 f22z12_f22e15 f22n14 f22r30_f22e15 f22z14_f22e20 f22y31_f22e21 f22b_f22e10_r f22b_f22e21_r

noncomputable def f24rs : List ResultVar := [ResultVar.tmp (10 : Nat), ResultVar.tmp (11 : Nat)]
noncomputable def f24c0 : Code := subCode [] (bodyOf Try.prog 24)
def f24a0 : Ann := subAnn [] ann24
noncomputable def f24c1 : Code := subCode [0] (bodyOf Try.prog 24)
def f24a1 : Ann := subAnn [0] ann24
noncomputable def f24c2 : Code := subCode [1] (bodyOf Try.prog 24)
def f24a2 : Ann := subAnn [1] ann24
noncomputable def f24c3 : Code := subCode [1, 0] (bodyOf Try.prog 24)
def f24a3 : Ann := subAnn [1, 0] ann24
noncomputable def f24c4 : Code := subCode [1, 1] (bodyOf Try.prog 24)
def f24a4 : Ann := subAnn [1, 1] ann24
noncomputable def f24c5 : Code := subCode [1, 0, 0] (bodyOf Try.prog 24)
def f24a5 : Ann := subAnn [1, 0, 0] ann24
noncomputable def f24c6 : Code := subCode [1, 0, 0, 0] (bodyOf Try.prog 24)
def f24a6 : Ann := subAnn [1, 0, 0, 0] ann24
noncomputable def f24c7 : Code := subCode [1, 0, 0, 1] (bodyOf Try.prog 24)
def f24a7 : Ann := subAnn [1, 0, 0, 1] ann24
noncomputable def f24c8 : Code := subCode [1, 0, 0, 1, 0] (bodyOf Try.prog 24)
def f24a8 : Ann := subAnn [1, 0, 0, 1, 0] ann24
noncomputable def f24c9 : Code := subCode [1, 0, 0, 1, 1] (bodyOf Try.prog 24)
def f24a9 : Ann := subAnn [1, 0, 0, 1, 1] ann24
noncomputable def f24c10 : Code := subCode [1, 0, 0, 1, 0, 0] (bodyOf Try.prog 24)
def f24a10 : Ann := subAnn [1, 0, 0, 1, 0, 0] ann24
noncomputable def f24c11 : Code := subCode [1, 0, 0, 1, 0, 1] (bodyOf Try.prog 24)
def f24a11 : Ann := subAnn [1, 0, 0, 1, 0, 1] ann24
noncomputable def f24c12 : Code := subCode [1, 0, 0, 1, 1, 0] (bodyOf Try.prog 24)
def f24a12 : Ann := subAnn [1, 0, 0, 1, 1, 0] ann24
noncomputable def f24c13 : Code := subCode [1, 0, 0, 1, 1, 1] (bodyOf Try.prog 24)
def f24a13 : Ann := subAnn [1, 0, 0, 1, 1, 1] ann24
noncomputable def f24c14 : Code := subCode [1, 0, 0, 1, 1, 1, 0] (bodyOf Try.prog 24)
def f24a14 : Ann := subAnn [1, 0, 0, 1, 1, 1, 0] ann24
noncomputable def f24c15 : Code := subCode [1, 0, 0, 1, 1, 1, 1] (bodyOf Try.prog 24)
def f24a15 : Ann := subAnn [1, 0, 0, 1, 1, 1, 1] ann24
noncomputable def f24c16 : Code := subCode [1, 0, 0, 1, 1, 1, 0, 0] (bodyOf Try.prog 24)
def f24a16 : Ann := subAnn [1, 0, 0, 1, 1, 1, 0, 0] ann24
noncomputable def f24c17 : Code := subCode [1, 0, 0, 1, 1, 1, 0, 1] (bodyOf Try.prog 24)
def f24a17 : Ann := subAnn [1, 0, 0, 1, 1, 1, 0, 1] ann24
noncomputable def f24c18 : Code := subCode [1, 0, 0, 1, 1, 1, 1, 0] (bodyOf Try.prog 24)
def f24a18 : Ann := subAnn [1, 0, 0, 1, 1, 1, 1, 0] ann24
noncomputable def f24c19 : Code := subCode [1, 0, 0, 1, 1, 1, 1, 1] (bodyOf Try.prog 24)
def f24a19 : Ann := subAnn [1, 0, 0, 1, 1, 1, 1, 1] ann24
noncomputable def f24c20 : Code := subCode [1, 0, 0, 1, 1, 1, 1, 1, 0] (bodyOf Try.prog 24)
def f24a20 : Ann := subAnn [1, 0, 0, 1, 1, 1, 1, 1, 0] ann24
noncomputable def f24c21 : Code := subCode [1, 0, 0, 1, 1, 1, 1, 1, 1] (bodyOf Try.prog 24)
def f24a21 : Ann := subAnn [1, 0, 0, 1, 1, 1, 1, 1, 1] ann24
noncomputable def f24c22 : Code := subCode [1, 0, 0, 1, 1, 1, 1, 1, 0, 0] (bodyOf Try.prog 24)
def f24a22 : Ann := subAnn [1, 0, 0, 1, 1, 1, 1, 1, 0, 0] ann24
noncomputable def f24c23 : Code := subCode [1, 0, 0, 1, 1, 1, 1, 1, 0, 1] (bodyOf Try.prog 24)
def f24a23 : Ann := subAnn [1, 0, 0, 1, 1, 1, 1, 1, 0, 1] ann24
noncomputable def f24c24 : Code := subCode [1, 0, 0, 1, 1, 1, 1, 1, 1, 0] (bodyOf Try.prog 24)
def f24a24 : Ann := subAnn [1, 0, 0, 1, 1, 1, 1, 1, 1, 0] ann24
noncomputable def f24c25 : Code := subCode [1, 0, 0, 1, 1, 1, 1, 1, 1, 1] (bodyOf Try.prog 24)
def f24a25 : Ann := subAnn [1, 0, 0, 1, 1, 1, 1, 1, 1, 1] ann24
noncomputable def f24c26 : Code := subCode [1, 0, 0, 1, 1, 1, 1, 1, 1, 1, 0] (bodyOf Try.prog 24)
def f24a26 : Ann := subAnn [1, 0, 0, 1, 1, 1, 1, 1, 1, 1, 0] ann24
noncomputable def f24c27 : Code := subCode [1, 0, 0, 1, 1, 1, 1, 1, 1, 1, 1] (bodyOf Try.prog 24)
def f24a27 : Ann := subAnn [1, 0, 0, 1, 1, 1, 1, 1, 1, 1, 1] ann24
noncomputable def f24c28 : Code := subCode [1, 0, 0, 1, 1, 1, 1, 1, 1, 1, 0, 0] (bodyOf Try.prog 24)
def f24a28 : Ann := subAnn [1, 0, 0, 1, 1, 1, 1, 1, 1, 1, 0, 0] ann24
noncomputable def f24c29 : Code := subCode [1, 0, 0, 1, 1, 1, 1, 1, 1, 1, 0, 1] (bodyOf Try.prog 24)
def f24a29 : Ann := subAnn [1, 0, 0, 1, 1, 1, 1, 1, 1, 1, 0, 1] ann24
noncomputable def f24c30 : Code := subCode [1, 0, 0, 1, 1, 1, 1, 1, 1, 1, 1, 0] (bodyOf Try.prog 24)
def f24a30 : Ann := subAnn [1, 0, 0, 1, 1, 1, 1, 1, 1, 1, 1, 0] ann24
noncomputable def f24c31 : Code := subCode [1, 0, 0, 1, 1, 1, 1, 1, 1, 1, 1, 1] (bodyOf Try.prog 24)
def f24a31 : Ann := subAnn [1, 0, 0, 1, 1, 1, 1, 1, 1, 1, 1, 1] ann24
noncomputable def f24c32 : Code := subCode [1, 0, 0, 1, 1, 1, 1, 1, 1, 1, 1, 1, 0] (bodyOf Try.prog 24)
def f24a32 : Ann := subAnn [1, 0, 0, 1, 1, 1, 1, 1, 1, 1, 1, 1, 0] ann24
noncomputable def f24c33 : Code := subCode [1, 0, 0, 1, 1, 1, 1, 1, 1, 1, 1, 1, 1] (bodyOf Try.prog 24)
def f24a33 : Ann := subAnn [1, 0, 0, 1, 1, 1, 1, 1, 1, 1, 1, 1, 1] ann24
noncomputable def f24c34 : Code := subCode [1, 0, 0, 1, 1, 1, 1, 1, 1, 1, 1, 1, 0, 0] (bodyOf Try.prog 24)
def f24a34 : Ann := subAnn [1, 0, 0, 1, 1, 1, 1, 1, 1, 1, 1, 1, 0, 0] ann24
noncomputable def f24c35 : Code := subCode [1, 0, 0, 1, 1, 1, 1, 1, 1, 1, 1, 1, 0, 1] (bodyOf Try.prog 24)
def f24a35 : Ann := subAnn [1, 0, 0, 1, 1, 1, 1, 1, 1, 1, 1, 1, 0, 1] ann24
noncomputable def f24c36 : Code := subCode [1, 1, 0] (bodyOf Try.prog 24)
def f24a36 : Ann := subAnn [1, 1, 0] ann24
noncomputable def f24c37 : Code := subCode [1, 1, 1] (bodyOf Try.prog 24)
def f24a37 : Ann := subAnn [1, 1, 1] ann24
noncomputable def f24c38 : Code := subCode [1, 1, 1, 0] (bodyOf Try.prog 24)
def f24a38 : Ann := subAnn [1, 1, 1, 0] ann24
noncomputable def f24c39 : Code := subCode [1, 1, 1, 1] (bodyOf Try.prog 24)
def f24a39 : Ann := subAnn [1, 1, 1, 1] ann24
def f24e0 (y0 : Option (Nat × Nat)) (y1 : Int) (y2 : Int) (y3 : ByteArray) (y4 : ByteArray) : Env := AV.ptr y0 :: AV.int IntKind.i64 y1 :: AV.int IntKind.i64 y2 :: AV.str y3 :: AV.str y4 :: Env.sp 56 []
def f24e1 (y0 : Option (Nat × Nat)) (y1 : Int) (y2 : Int) (y3 : ByteArray) (y4 : ByteArray) (y5 : Bool) (y6 : Int) : Env := AV.ptr y0 :: AV.int IntKind.i64 y1 :: AV.int IntKind.i64 y2 :: AV.str y3 :: AV.str y4 :: Env.sp 5 (AV.bool y5 :: AV.int IntKind.i64 y6 :: Env.sp 49 [])
def f24e2 (y0 : Option (Nat × Nat)) (y1 : Int) (y2 : Int) (y3 : ByteArray) (y4 : ByteArray) (y5 : Bool) (y6 : Int) (y7 : Bool) (y8 : Bool) (y9 : Bool) (y10 : Bool) (y11 : Bool) (y12 : Bool) : Env := AV.ptr y0 :: AV.int IntKind.i64 y1 :: AV.int IntKind.i64 y2 :: AV.str y3 :: AV.str y4 :: Env.sp 7 (AV.bool y5 :: AV.int IntKind.i64 y6 :: AV.bool y7 :: AV.bool y8 :: AV.bool y9 :: AV.tuple [] :: AV.tuple [] :: AV.bool y10 :: AV.bool y11 :: AV.tuple [] :: AV.tuple [] :: AV.tuple [] :: AV.tuple [] :: AV.tuple [] :: AV.tuple [] :: AV.tuple [] :: AV.tuple [] :: AV.tuple [] :: AV.tuple [] :: AV.tuple [] :: AV.bool y12 :: Env.sp 28 [])
def f24e3 (y0 : Option (Nat × Nat)) (y1 : Int) (y2 : Int) (y3 : ByteArray) (y4 : ByteArray) (y5 : Bool) (y6 : Int) (y7 : Bool) (y8 : Bool) (y9 : Bool) (y10 : Int) (y11 : Bool) (y12 : Bool) (y13 : Bool) (y14 : Bool) : Env := AV.ptr y0 :: AV.int IntKind.i64 y1 :: AV.int IntKind.i64 y2 :: AV.str y3 :: AV.str y4 :: Env.sp 7 (AV.bool y5 :: AV.int IntKind.i64 y6 :: AV.bool y7 :: AV.bool y8 :: AV.bool y9 :: AV.int IntKind.i64 y10 :: AV.bool y11 :: AV.bool y12 :: AV.bool y13 :: AV.tuple [] :: AV.tuple [] :: AV.tuple [] :: AV.tuple [] :: AV.tuple [] :: AV.tuple [] :: AV.tuple [] :: AV.tuple [] :: AV.tuple [] :: AV.tuple [] :: AV.tuple [] :: AV.bool y14 :: Env.sp 28 [])
def f24e4 (y0 : Option (Nat × Nat)) (y1 : Int) (y2 : Int) (y3 : ByteArray) (y4 : ByteArray) (y5 : Bool) (y6 : Int) (y7 : Bool) (y8 : Bool) (y9 : Bool) (y10 : Int) (y11 : Bool) (y12 : Bool) (y13 : Bool) (y14 : Option (Nat × Nat)) (y15 : Bool) (y16 : Bool) (y17 : Int) (y18 : Option (Nat × Nat)) (y19 : Option (Nat × Nat)) (y20 : Option (Nat × Nat)) (y21 : Int) (y22 : Int) (y23 : Bool) (y24 : Bool) (y25 : Bool) : Env := AV.ptr y0 :: AV.int IntKind.i64 y1 :: AV.int IntKind.i64 y2 :: AV.str y3 :: AV.str y4 :: Env.sp 7 (AV.bool y5 :: AV.int IntKind.i64 y6 :: AV.bool y7 :: AV.bool y8 :: AV.bool y9 :: AV.int IntKind.i64 y10 :: AV.bool y11 :: AV.bool y12 :: AV.bool y13 :: AV.ptr y14 :: AV.bool y15 :: AV.bool y16 :: AV.int IntKind.i64 y17 :: AV.ptr y18 :: AV.ptr y19 :: AV.ptr y20 :: AV.int IntKind.i64 y21 :: AV.int IntKind.i64 y22 :: AV.bool y23 :: AV.bool y24 :: AV.bool y25 :: Env.sp 28 [])
def f24e5 (y0 : Option (Nat × Nat)) (y1 : Int) (y2 : Int) (y3 : ByteArray) (y4 : ByteArray) (y5 : Bool) (y6 : Int) (y7 : Bool) (y8 : Bool) (y9 : Bool) (y10 : Int) (y11 : Bool) (y12 : Bool) (y13 : Bool) (y14 : Option (Nat × Nat)) (y15 : Bool) (y16 : Bool) (y17 : Bool) (y18 : Bool) : Env := AV.ptr y0 :: AV.int IntKind.i64 y1 :: AV.int IntKind.i64 y2 :: AV.str y3 :: AV.str y4 :: Env.sp 7 (AV.bool y5 :: AV.int IntKind.i64 y6 :: AV.bool y7 :: AV.bool y8 :: AV.bool y9 :: AV.int IntKind.i64 y10 :: AV.bool y11 :: AV.bool y12 :: AV.bool y13 :: AV.ptr y14 :: AV.bool y15 :: AV.bool y16 :: AV.tuple [] :: AV.tuple [] :: AV.tuple [] :: AV.tuple [] :: AV.tuple [] :: AV.tuple [] :: AV.tuple [] :: AV.bool y17 :: AV.bool y18 :: Env.sp 28 [])
def f24e6 (y0 : Option (Nat × Nat)) (y1 : Int) (y2 : Int) (y3 : ByteArray) (y4 : ByteArray) (y5 : Bool) : Env := AV.ptr y0 :: AV.int IntKind.i64 y1 :: AV.int IntKind.i64 y2 :: AV.str y3 :: AV.str y4 :: Env.sp 7 (AV.bool y5 :: Env.sp 48 [])
def f24e7 (y0 : Option (Nat × Nat)) (y1 : Int) (y2 : Int) (y3 : ByteArray) (y4 : ByteArray) (y5 : Bool) (y6 : Int) (y7 : Bool) : Env := AV.ptr y0 :: AV.int IntKind.i64 y1 :: AV.int IntKind.i64 y2 :: AV.str y3 :: AV.str y4 :: Env.sp 5 (AV.bool y5 :: AV.int IntKind.i64 y6 :: AV.bool y7 :: Env.sp 48 [])
def f24e8 (y0 : Bool) (y1 : Int) : Env := Env.sp 10 (AV.bool y0 :: AV.int IntKind.i64 y1 :: Env.sp 49 [])
def f24e9 (y0 : Option (Nat × Nat)) (y1 : Int) (y2 : Int) (y3 : ByteArray) (y4 : ByteArray) (y5 : Bool) (y6 : Bool) (y7 : ByteArray) (y8 : Int) (y9 : Bool) : Env := AV.ptr y0 :: AV.int IntKind.i64 y1 :: AV.int IntKind.i64 y2 :: AV.str y3 :: AV.str y4 :: Env.sp 7 (AV.bool y5 :: Env.sp 20 (AV.bool y6 :: AV.str y7 :: AV.int IntKind.i64 y8 :: AV.bool y9 :: Env.sp 24 []))
def f24e10 (y0 : Option (Nat × Nat)) (y1 : Int) (y2 : Int) (y3 : ByteArray) (y4 : ByteArray) (y5 : Bool) : Env := AV.ptr y0 :: AV.int IntKind.i64 y1 :: AV.int IntKind.i64 y2 :: AV.str y3 :: AV.str y4 :: Env.sp 28 (AV.bool y5 :: Env.sp 27 [])
def f24e11 (y0 : Option (Nat × Nat)) (y1 : Int) (y2 : Int) (y3 : ByteArray) (y4 : ByteArray) (y5 : Bool) (y6 : Int) (y7 : Bool) : Env := AV.ptr y0 :: AV.int IntKind.i64 y1 :: AV.int IntKind.i64 y2 :: AV.str y3 :: AV.str y4 :: Env.sp 5 (AV.bool y5 :: AV.int IntKind.i64 y6 :: Env.sp 21 (AV.bool y7 :: Env.sp 27 []))
def f24e12 (y0 : Option (Nat × Nat)) (y1 : Int) (y2 : Int) (y3 : ByteArray) (y4 : ByteArray) (y5 : Bool) (y6 : Bool) (y7 : ByteArray) (y8 : Int) (y9 : Bool) : Env := AV.ptr y0 :: AV.int IntKind.i64 y1 :: AV.int IntKind.i64 y2 :: AV.str y3 :: AV.str y4 :: Env.sp 28 (AV.bool y5 :: Env.sp 3 (AV.bool y6 :: AV.str y7 :: AV.int IntKind.i64 y8 :: AV.bool y9 :: Env.sp 20 []))
def f24e13 (y0 : Option (Nat × Nat)) (y1 : Int) (y2 : Int) (y3 : ByteArray) (y4 : ByteArray) (y5 : Bool) : Env := AV.ptr y0 :: AV.int IntKind.i64 y1 :: AV.int IntKind.i64 y2 :: AV.str y3 :: AV.str y4 :: Env.sp 32 (AV.bool y5 :: Env.sp 23 [])
def f24e14 (y0 : Option (Nat × Nat)) (y1 : Int) (y2 : Int) (y3 : ByteArray) (y4 : ByteArray) (y5 : Bool) (y6 : Int) (y7 : Bool) : Env := AV.ptr y0 :: AV.int IntKind.i64 y1 :: AV.int IntKind.i64 y2 :: AV.str y3 :: AV.str y4 :: Env.sp 5 (AV.bool y5 :: AV.int IntKind.i64 y6 :: Env.sp 25 (AV.bool y7 :: Env.sp 23 []))
def f24e15 (y0 : Option (Nat × Nat)) (y1 : Int) (y2 : Int) (y3 : ByteArray) (y4 : ByteArray) (y5 : Bool) (y6 : Bool) (y7 : Option (Nat × Nat)) (y8 : Bool) : Env := AV.ptr y0 :: AV.int IntKind.i64 y1 :: AV.int IntKind.i64 y2 :: AV.str y3 :: AV.str y4 :: Env.sp 32 (AV.bool y5 :: Env.sp 3 (AV.bool y6 :: AV.ptr y7 :: AV.bool y8 :: Env.sp 17 []))
def f24e16 (y0 : Option (Nat × Nat)) (y1 : Int) (y2 : Int) (y3 : ByteArray) (y4 : ByteArray) (y5 : Bool) : Env := AV.ptr y0 :: AV.int IntKind.i64 y1 :: AV.int IntKind.i64 y2 :: AV.str y3 :: AV.str y4 :: Env.sp 36 (AV.bool y5 :: Env.sp 19 [])
def f24e17 (y0 : Option (Nat × Nat)) (y1 : Int) (y2 : Int) (y3 : ByteArray) (y4 : ByteArray) (y5 : Bool) (y6 : Int) (y7 : Bool) : Env := AV.ptr y0 :: AV.int IntKind.i64 y1 :: AV.int IntKind.i64 y2 :: AV.str y3 :: AV.str y4 :: Env.sp 5 (AV.bool y5 :: AV.int IntKind.i64 y6 :: Env.sp 29 (AV.bool y7 :: Env.sp 19 []))
def f24e18 (y0 : Option (Nat × Nat)) (y1 : Int) (y2 : Int) (y3 : ByteArray) (y4 : ByteArray) (y5 : Bool) (y6 : Bool) (y7 : Option (Nat × Nat)) (y8 : Int) (y9 : Int) (y10 : Bool) (y11 : ByteArray) (y12 : ByteArray) (y13 : Bool) : Env := AV.ptr y0 :: AV.int IntKind.i64 y1 :: AV.int IntKind.i64 y2 :: AV.str y3 :: AV.str y4 :: Env.sp 36 (AV.bool y5 :: Env.sp 2 (AV.bool y6 :: AV.ptr y7 :: AV.int IntKind.i64 y8 :: AV.int IntKind.i64 y9 :: AV.agg [AV.bool y10, AV.str y11, AV.str y12] :: AV.bool y13 :: Env.sp 11 []))
def f24e19 (y0 : Option (Nat × Nat)) (y1 : Int) (y2 : Int) (y3 : ByteArray) (y4 : ByteArray) (y5 : Bool) : Env := AV.ptr y0 :: AV.int IntKind.i64 y1 :: AV.int IntKind.i64 y2 :: AV.str y3 :: AV.str y4 :: Env.sp 39 (AV.bool y5 :: Env.sp 16 [])
def f24e20 (y0 : Option (Nat × Nat)) (y1 : Int) (y2 : Int) (y3 : ByteArray) (y4 : ByteArray) (y5 : Bool) (y6 : Int) (y7 : Bool) : Env := AV.ptr y0 :: AV.int IntKind.i64 y1 :: AV.int IntKind.i64 y2 :: AV.str y3 :: AV.str y4 :: Env.sp 5 (AV.bool y5 :: AV.int IntKind.i64 y6 :: Env.sp 32 (AV.bool y7 :: Env.sp 16 []))
def f24e21 (y0 : Option (Nat × Nat)) (y1 : Int) (y2 : Int) (y3 : ByteArray) (y4 : ByteArray) (y5 : Option (Nat × Nat)) (y6 : Int) (y7 : Option (Nat × Nat)) (y8 : Option (Nat × Nat)) (y9 : Option (Nat × Nat)) (y10 : Option (Nat × Nat)) (y11 : Nat) (y12 : Option Nat) (y13 : Int) (y14 : ByteArray) (y15 : ByteArray) (y16 : Bool) (y17 : ByteArray) (y18 : ByteArray) (y19 : Option (Nat × Nat)) : Env := AV.ptr y0 :: AV.int IntKind.i64 y1 :: AV.int IntKind.i64 y2 :: AV.str y3 :: AV.str y4 :: Env.sp 45 (AV.ptr y5 :: AV.int IntKind.i64 y6 :: AV.ptr y7 :: AV.ptr y8 :: AV.ptr y9 :: AV.slice y10 y11 y12 (3 : Nat) :: AV.int IntKind.i64 y13 :: AV.str y14 :: AV.str y15 :: AV.agg [AV.bool y16, AV.str y17, AV.str y18] :: AV.ptr y19 :: [])
def f24e22 : Env := Env.sp 61 []

/- function 24 -/
theorem f24_eq {R : Type} (call : Bool → CallF R) (dem : Bool) (N : Nat) (y0 : Option (Nat × Nat)) (y1 : Int) (y2 : Int) (y3 : ByteArray) (y4 : ByteArray) (σ : St) (K : AV → St → Option R) :
    bodyK Try.prog call dem N ann 24 [AV.ptr y0, AV.int IntKind.i64 y1, AV.int IntKind.i64 y2, AV.str y3, AV.str y4] σ K = runK Try.prog call dem N f24c0 f24a0 (bodyC Try.prog f24rs K) (f24e0 y0 y1 y2 y3 y4) σ := bodyK_of (fn := ((Try.prog.funcs[24]?).get rfl)) (by kernel_rfl) (by kernel_rfl) (by kernel_rfl) (by kernel_rfl) (by kernel_rfl) (by kernel_rfl)
theorem f24n0 {R : Type} (call : Bool → CallF R) (dem : Bool) (N : Nat) (J : KF R) (e : Env) (σ : St) : runK Try.prog call dem N f24c0 f24a0 J e σ = runK Try.prog call dem N f24c1 f24a1 (seqC (fun K e σ => runK Try.prog call dem N f24c2 f24a2 K e σ) f24a0 J) e σ := runK_seq' (by kernel_rfl) (by kernel_rfl) (by kernel_rfl)
theorem f24r1_f24e0 {R : Type} (call : Bool → CallF R) (dem : Bool) (N : Nat) (y0 : Option (Nat × Nat)) (y1 : Int) (y2 : Int) (y3 : ByteArray) (y4 : ByteArray) (J : KF R) (σ : St) :
    runK Try.prog call dem N f24c1 f24a1 J (f24e0 y0 y1 y2 y3 y4) σ =
J Ex.normal (f24e1 y0 y1 y2 y3 y4 false (0 : Int)) σ := hide (by kernel_rfl)
theorem f24z0_f24e1 (y0 : Option (Nat × Nat)) (y1 : Int) (y2 : Int) (y3 : ByteArray) (y4 : ByteArray) (y5 : Bool) (y6 : Int) : Ann.clr f24a0 (f24e1 y0 y1 y2 y3 y4 y5 y6) = f24e0 y0 y1 y2 y3 y4 := hide (by kernel_rfl)
theorem f24n2 {R : Type} (call : Bool → CallF R) (dem : Bool) (N : Nat) (J : KF R) (e : Env) (σ : St) : runK Try.prog call dem N f24c2 f24a2 J e σ = runK Try.prog call dem N f24c3 f24a3 (seqC (fun K e σ => runK Try.prog call dem N f24c4 f24a4 K e σ) f24a2 J) e σ := runK_seq' (by kernel_rfl) (by kernel_rfl) (by kernel_rfl)
theorem f24n3 {R : Type} (call : Bool → CallF R) (dem : Bool) (N : Nat) (J : KF R) (e : Env) (σ : St) : runK Try.prog call dem N f24c3 f24a3 J e σ = runK Try.prog call dem N f24c5 f24a5 (blockC 0 f24a3 J) e σ := runK_block' (by kernel_rfl) (by kernel_rfl)
theorem f24n5 {R : Type} (call : Bool → CallF R) (dem : Bool) (N : Nat) (J : KF R) (e : Env) (σ : St) : runK Try.prog call dem N f24c5 f24a5 J e σ = runK Try.prog call dem N f24c6 f24a6 (seqC (fun K e σ => runK Try.prog call dem N f24c7 f24a7 K e σ) f24a5 J) e σ := runK_seq' (by kernel_rfl) (by kernel_rfl) (by kernel_rfl)
theorem f24r6_f24e0 {R : Type} (call : Bool → CallF R) (dem : Bool) (N : Nat) (y0 : Option (Nat × Nat)) (y1 : Int) (y2 : Int) (y3 : ByteArray) (y4 : ByteArray) (J : KF R) (σ : St) :
    runK Try.prog call dem N f24c6 f24a6 J (f24e0 y0 y1 y2 y3 y4) σ =
call dem (46 : Nat) [AV.int IntKind.i64 y1] σ fun v0 v1 =>
  Option.bind (AV.toBool v0) fun v2 =>
    if (!v2) = true then J Ex.normal (f24e2 y0 y1 y2 y3 y4 true y1 v2 (!v2) true true true true) v1
    else
      if decide (y2 < (0 : Int)) = true then
        J Ex.normal (f24e3 y0 y1 y2 y3 y4 true y1 v2 (!v2) false y2 (decide (y2 < (0 : Int))) (decide (y2 < (0 : Int))) true true) v1
      else
        if (!Option.isNone y0) = true then
          Option.bind y0 fun v3 =>
            Option.bind (St.ld v1 (Prod.fst v3) (Prod.snd v3 + (1 : Nat))) fun v4 =>
              Option.bind (AV.toInt IntKind.i64 v4) fun v5 =>
                J Ex.normal
                  (f24e4 y0 y1 y2 y3 y4 (decide (y2 > IntKind.wrap IntKind.i64 ((3 : Int) * v5))) y1 v2 (!v2) false y2 (decide (y2 < (0 : Int)))
                    (decide (y2 < (0 : Int))) false y0 (!Option.isNone y0) true y2 y0 (some v3) (some (Prod.fst v3, Prod.snd v3 + (1 : Nat))) v5
                    (IntKind.wrap IntKind.i64 ((3 : Int) * v5)) (decide (y2 > IntKind.wrap IntKind.i64 ((3 : Int) * v5)))
                    (decide (y2 > IntKind.wrap IntKind.i64 ((3 : Int) * v5))) (decide (y2 > IntKind.wrap IntKind.i64 ((3 : Int) * v5))))
                  v1
        else
          J Ex.normal
            (f24e5 y0 y1 y2 y3 y4 false y1 v2 (!v2) false y2 (decide (y2 < (0 : Int))) (decide (y2 < (0 : Int))) false y0 (!Option.isNone y0) false
              false false)
            v1 := hide (by kernel_rfl)
theorem f24z5_f24e2 (y0 : Option (Nat × Nat)) (y1 : Int) (y2 : Int) (y3 : ByteArray) (y4 : ByteArray) (y5 : Bool) (y6 : Int) (y7 : Bool) (y8 : Bool) (y9 : Bool) (y10 : Bool) (y11 : Bool) (y12 : Bool) : Ann.clr f24a5 (f24e2 y0 y1 y2 y3 y4 y5 y6 y7 y8 y9 y10 y11 y12) = f24e6 y0 y1 y2 y3 y4 y5 := hide (by kernel_rfl)
theorem f24x7_f24e6 {R : Type} (call : Bool → CallF R) (dem : Bool) (N : Nat) (y0 : Option (Nat × Nat)) (y1 : Int) (y2 : Int) (y3 : ByteArray) (y4 : ByteArray) (y5 : Bool) (J : KF R) (σ : St) : runK Try.prog call dem N f24c7 f24a7 J (f24e6 y0 y1 y2 y3 y4 y5) σ = if y5 = true then runK Try.prog call dem N f24c8 f24a8 (condC f24a7 J) (f24e6 y0 y1 y2 y3 y4 y5) σ else runK Try.prog call dem N f24c9 f24a9 (condC f24a7 J) (f24e6 y0 y1 y2 y3 y4 y5) σ := runK_cond' (o := Operand.tmp (12 : Nat)) (by kernel_rfl) (by kernel_rfl) (by kernel_rfl) (by kernel_rfl)
theorem f24n8 {R : Type} (call : Bool → CallF R) (dem : Bool) (N : Nat) (J : KF R) (e : Env) (σ : St) : runK Try.prog call dem N f24c8 f24a8 J e σ = runK Try.prog call dem N f24c10 f24a10 (seqC (fun K e σ => runK Try.prog call dem N f24c11 f24a11 K e σ) f24a8 J) e σ := runK_seq' (by kernel_rfl) (by kernel_rfl) (by kernel_rfl)
theorem f24r10_f24e6 {R : Type} (call : Bool → CallF R) (dem : Bool) (N : Nat) (y0 : Option (Nat × Nat)) (y1 : Int) (y2 : Int) (y3 : ByteArray) (y4 : ByteArray) (y5 : Bool) (J : KF R) (σ : St) :
    runK Try.prog call dem N f24c10 f24a10 J (f24e6 y0 y1 y2 y3 y4 y5) σ =
J Ex.normal (f24e7 y0 y1 y2 y3 y4 false (1 : Int) y5) σ := hide (by kernel_rfl)
theorem f24z8_f24e7 (y0 : Option (Nat × Nat)) (y1 : Int) (y2 : Int) (y3 : ByteArray) (y4 : ByteArray) (y5 : Bool) (y6 : Int) (y7 : Bool) : Ann.clr f24a8 (f24e7 y0 y1 y2 y3 y4 y5 y6 y7) = f24e8 y5 y6 := hide (by kernel_rfl)
theorem f24y11_f24e8 {R : Type} (call : Bool → CallF R) (dem : Bool) (N : Nat) (y0 : Bool) (y1 : Int) (J : KF R) (σ : St) : runK Try.prog call dem N f24c11 f24a11 J (f24e8 y0 y1) σ = J .ret (f24e8 y0 y1) σ := runK_ret' (by kernel_rfl) (by kernel_rfl)
theorem f24n9 {R : Type} (call : Bool → CallF R) (dem : Bool) (N : Nat) (J : KF R) (e : Env) (σ : St) : runK Try.prog call dem N f24c9 f24a9 J e σ = runK Try.prog call dem N f24c12 f24a12 (seqC (fun K e σ => runK Try.prog call dem N f24c13 f24a13 K e σ) f24a9 J) e σ := runK_seq' (by kernel_rfl) (by kernel_rfl) (by kernel_rfl)
theorem f24r12_f24e6 {R : Type} (call : Bool → CallF R) (dem : Bool) (N : Nat) (y0 : Option (Nat × Nat)) (y1 : Int) (y2 : Int) (y3 : ByteArray) (y4 : ByteArray) (y5 : Bool) (J : KF R) (σ : St) :
    runK Try.prog call dem N f24c12 f24a12 J (f24e6 y0 y1 y2 y3 y4 y5) σ =
J Ex.normal
  (f24e9 y0 y1 y2 y3 y4 y5 (decide ((↑(ByteArray.size y3) : Int) > (30000 : Int))) y3 (↑(ByteArray.size y3) : Int)
    (decide ((↑(ByteArray.size y3) : Int) > (30000 : Int))))
  σ := hide (by kernel_rfl)
theorem f24z9_f24e9 (y0 : Option (Nat × Nat)) (y1 : Int) (y2 : Int) (y3 : ByteArray) (y4 : ByteArray) (y5 : Bool) (y6 : Bool) (y7 : ByteArray) (y8 : Int) (y9 : Bool) : Ann.clr f24a9 (f24e9 y0 y1 y2 y3 y4 y5 y6 y7 y8 y9) = f24e10 y0 y1 y2 y3 y4 y6 := hide (by kernel_rfl)
theorem f24x13_f24e10 {R : Type} (call : Bool → CallF R) (dem : Bool) (N : Nat) (y0 : Option (Nat × Nat)) (y1 : Int) (y2 : Int) (y3 : ByteArray) (y4 : ByteArray) (y5 : Bool) (J : KF R) (σ : St) : runK Try.prog call dem N f24c13 f24a13 J (f24e10 y0 y1 y2 y3 y4 y5) σ = if y5 = true then runK Try.prog call dem N f24c14 f24a14 (condC f24a13 J) (f24e10 y0 y1 y2 y3 y4 y5) σ else runK Try.prog call dem N f24c15 f24a15 (condC f24a13 J) (f24e10 y0 y1 y2 y3 y4 y5) σ := runK_cond' (o := Operand.tmp (33 : Nat)) (by kernel_rfl) (by kernel_rfl) (by kernel_rfl) (by kernel_rfl)
theorem f24n14 {R : Type} (call : Bool → CallF R) (dem : Bool) (N : Nat) (J : KF R) (e : Env) (σ : St) : runK Try.prog call dem N f24c14 f24a14 J e σ = runK Try.prog call dem N f24c16 f24a16 (seqC (fun K e σ => runK Try.prog call dem N f24c17 f24a17 K e σ) f24a14 J) e σ := runK_seq' (by kernel_rfl) (by kernel_rfl) (by kernel_rfl)
theorem f24r16_f24e10 {R : Type} (call : Bool → CallF R) (dem : Bool) (N : Nat) (y0 : Option (Nat × Nat)) (y1 : Int) (y2 : Int) (y3 : ByteArray) (y4 : ByteArray) (y5 : Bool) (J : KF R) (σ : St) :
    runK Try.prog call dem N f24c16 f24a16 J (f24e10 y0 y1 y2 y3 y4 y5) σ =
J Ex.normal (f24e11 y0 y1 y2 y3 y4 false (2 : Int) y5) σ := hide (by kernel_rfl)
theorem f24z14_f24e11 (y0 : Option (Nat × Nat)) (y1 : Int) (y2 : Int) (y3 : ByteArray) (y4 : ByteArray) (y5 : Bool) (y6 : Int) (y7 : Bool) : Ann.clr f24a14 (f24e11 y0 y1 y2 y3 y4 y5 y6 y7) = f24e8 y5 y6 := hide (by kernel_rfl)
theorem f24y17_f24e8 {R : Type} (call : Bool → CallF R) (dem : Bool) (N : Nat) (y0 : Bool) (y1 : Int) (J : KF R) (σ : St) : runK Try.prog call dem N f24c17 f24a17 J (f24e8 y0 y1) σ = J .ret (f24e8 y0 y1) σ := runK_ret' (by kernel_rfl) (by kernel_rfl)
theorem f24n15 {R : Type} (call : Bool → CallF R) (dem : Bool) (N : Nat) (J : KF R) (e : Env) (σ : St) : runK Try.prog call dem N f24c15 f24a15 J e σ = runK Try.prog call dem N f24c18 f24a18 (seqC (fun K e σ => runK Try.prog call dem N f24c19 f24a19 K e σ) f24a15 J) e σ := runK_seq' (by kernel_rfl) (by kernel_rfl) (by kernel_rfl)
theorem f24r18_f24e10 {R : Type} (call : Bool → CallF R) (dem : Bool) (N : Nat) (y0 : Option (Nat × Nat)) (y1 : Int) (y2 : Int) (y3 : ByteArray) (y4 : ByteArray) (y5 : Bool) (J : KF R) (σ : St) :
    runK Try.prog call dem N f24c18 f24a18 J (f24e10 y0 y1 y2 y3 y4 y5) σ =
J Ex.normal
  (f24e12 y0 y1 y2 y3 y4 y5 ((↑(ByteArray.size y4) : Int) != (16 : Int)) y4 (↑(ByteArray.size y4) : Int) ((↑(ByteArray.size y4) : Int) != (16 : Int)))
  σ := hide (by kernel_rfl)
theorem f24z15_f24e12 (y0 : Option (Nat × Nat)) (y1 : Int) (y2 : Int) (y3 : ByteArray) (y4 : ByteArray) (y5 : Bool) (y6 : Bool) (y7 : ByteArray) (y8 : Int) (y9 : Bool) : Ann.clr f24a15 (f24e12 y0 y1 y2 y3 y4 y5 y6 y7 y8 y9) = f24e13 y0 y1 y2 y3 y4 y6 := hide (by kernel_rfl)
theorem f24x19_f24e13 {R : Type} (call : Bool → CallF R) (dem : Bool) (N : Nat) (y0 : Option (Nat × Nat)) (y1 : Int) (y2 : Int) (y3 : ByteArray) (y4 : ByteArray) (y5 : Bool) (J : KF R) (σ : St) : runK Try.prog call dem N f24c19 f24a19 J (f24e13 y0 y1 y2 y3 y4 y5) σ = if y5 = true then runK Try.prog call dem N f24c20 f24a20 (condC f24a19 J) (f24e13 y0 y1 y2 y3 y4 y5) σ else runK Try.prog call dem N f24c21 f24a21 (condC f24a19 J) (f24e13 y0 y1 y2 y3 y4 y5) σ := runK_cond' (o := Operand.tmp (37 : Nat)) (by kernel_rfl) (by kernel_rfl) (by kernel_rfl) (by kernel_rfl)
theorem f24n20 {R : Type} (call : Bool → CallF R) (dem : Bool) (N : Nat) (J : KF R) (e : Env) (σ : St) : runK Try.prog call dem N f24c20 f24a20 J e σ = runK Try.prog call dem N f24c22 f24a22 (seqC (fun K e σ => runK Try.prog call dem N f24c23 f24a23 K e σ) f24a20 J) e σ := runK_seq' (by kernel_rfl) (by kernel_rfl) (by kernel_rfl)
theorem f24r22_f24e13 {R : Type} (call : Bool → CallF R) (dem : Bool) (N : Nat) (y0 : Option (Nat × Nat)) (y1 : Int) (y2 : Int) (y3 : ByteArray) (y4 : ByteArray) (y5 : Bool) (J : KF R) (σ : St) :
    runK Try.prog call dem N f24c22 f24a22 J (f24e13 y0 y1 y2 y3 y4 y5) σ =
J Ex.normal (f24e14 y0 y1 y2 y3 y4 false (4 : Int) y5) σ := hide (by kernel_rfl)
theorem f24z20_f24e14 (y0 : Option (Nat × Nat)) (y1 : Int) (y2 : Int) (y3 : ByteArray) (y4 : ByteArray) (y5 : Bool) (y6 : Int) (y7 : Bool) : Ann.clr f24a20 (f24e14 y0 y1 y2 y3 y4 y5 y6 y7) = f24e8 y5 y6 := hide (by kernel_rfl)
theorem f24y23_f24e8 {R : Type} (call : Bool → CallF R) (dem : Bool) (N : Nat) (y0 : Bool) (y1 : Int) (J : KF R) (σ : St) : runK Try.prog call dem N f24c23 f24a23 J (f24e8 y0 y1) σ = J .ret (f24e8 y0 y1) σ := runK_ret' (by kernel_rfl) (by kernel_rfl)
theorem f24n21 {R : Type} (call : Bool → CallF R) (dem : Bool) (N : Nat) (J : KF R) (e : Env) (σ : St) : runK Try.prog call dem N f24c21 f24a21 J e σ = runK Try.prog call dem N f24c24 f24a24 (seqC (fun K e σ => runK Try.prog call dem N f24c25 f24a25 K e σ) f24a21 J) e σ := runK_seq' (by kernel_rfl) (by kernel_rfl) (by kernel_rfl)
theorem f24r24_f24e13 {R : Type} (call : Bool → CallF R) (dem : Bool) (N : Nat) (y0 : Option (Nat × Nat)) (y1 : Int) (y2 : Int) (y3 : ByteArray) (y4 : ByteArray) (y5 : Bool) (J : KF R) (σ : St) :
    runK Try.prog call dem N f24c24 f24a24 J (f24e13 y0 y1 y2 y3 y4 y5) σ =
J Ex.normal (f24e15 y0 y1 y2 y3 y4 y5 (Option.isNone y0) y0 (Option.isNone y0)) σ := hide (by kernel_rfl)
theorem f24z21_f24e15 (y0 : Option (Nat × Nat)) (y1 : Int) (y2 : Int) (y3 : ByteArray) (y4 : ByteArray) (y5 : Bool) (y6 : Bool) (y7 : Option (Nat × Nat)) (y8 : Bool) : Ann.clr f24a21 (f24e15 y0 y1 y2 y3 y4 y5 y6 y7 y8) = f24e16 y0 y1 y2 y3 y4 y6 := hide (by kernel_rfl)
theorem f24x25_f24e16 {R : Type} (call : Bool → CallF R) (dem : Bool) (N : Nat) (y0 : Option (Nat × Nat)) (y1 : Int) (y2 : Int) (y3 : ByteArray) (y4 : ByteArray) (y5 : Bool) (J : KF R) (σ : St) : runK Try.prog call dem N f24c25 f24a25 J (f24e16 y0 y1 y2 y3 y4 y5) σ = if y5 = true then runK Try.prog call dem N f24c26 f24a26 (condC f24a25 J) (f24e16 y0 y1 y2 y3 y4 y5) σ else runK Try.prog call dem N f24c27 f24a27 (condC f24a25 J) (f24e16 y0 y1 y2 y3 y4 y5) σ := runK_cond' (o := Operand.tmp (41 : Nat)) (by kernel_rfl) (by kernel_rfl) (by kernel_rfl) (by kernel_rfl)
theorem f24n26 {R : Type} (call : Bool → CallF R) (dem : Bool) (N : Nat) (J : KF R) (e : Env) (σ : St) : runK Try.prog call dem N f24c26 f24a26 J e σ = runK Try.prog call dem N f24c28 f24a28 (seqC (fun K e σ => runK Try.prog call dem N f24c29 f24a29 K e σ) f24a26 J) e σ := runK_seq' (by kernel_rfl) (by kernel_rfl) (by kernel_rfl)
theorem f24r28_f24e16 {R : Type} (call : Bool → CallF R) (dem : Bool) (N : Nat) (y0 : Option (Nat × Nat)) (y1 : Int) (y2 : Int) (y3 : ByteArray) (y4 : ByteArray) (y5 : Bool) (J : KF R) (σ : St) :
    runK Try.prog call dem N f24c28 f24a28 J (f24e16 y0 y1 y2 y3 y4 y5) σ =
J Ex.normal (f24e17 y0 y1 y2 y3 y4 false (7 : Int) y5) σ := hide (by kernel_rfl)
theorem f24z26_f24e17 (y0 : Option (Nat × Nat)) (y1 : Int) (y2 : Int) (y3 : ByteArray) (y4 : ByteArray) (y5 : Bool) (y6 : Int) (y7 : Bool) : Ann.clr f24a26 (f24e17 y0 y1 y2 y3 y4 y5 y6 y7) = f24e8 y5 y6 := hide (by kernel_rfl)
theorem f24y29_f24e8 {R : Type} (call : Bool → CallF R) (dem : Bool) (N : Nat) (y0 : Bool) (y1 : Int) (J : KF R) (σ : St) : runK Try.prog call dem N f24c29 f24a29 J (f24e8 y0 y1) σ = J .ret (f24e8 y0 y1) σ := runK_ret' (by kernel_rfl) (by kernel_rfl)
theorem f24n27 {R : Type} (call : Bool → CallF R) (dem : Bool) (N : Nat) (J : KF R) (e : Env) (σ : St) : runK Try.prog call dem N f24c27 f24a27 J e σ = runK Try.prog call dem N f24c30 f24a30 (seqC (fun K e σ => runK Try.prog call dem N f24c31 f24a31 K e σ) f24a27 J) e σ := runK_seq' (by kernel_rfl) (by kernel_rfl) (by kernel_rfl)
theorem f24r30_f24e16 {R : Type} (call : Bool → CallF R) (dem : Bool) (N : Nat) (y0 : Option (Nat × Nat)) (y1 : Int) (y2 : Int) (y3 : ByteArray) (y4 : ByteArray) (y5 : Bool) (J : KF R) (σ : St) :
    runK Try.prog call dem N f24c30 f24a30 J (f24e16 y0 y1 y2 y3 y4 y5) σ =
call dem (48 : Nat) [AV.ptr y0, AV.int IntKind.i64 y1, AV.int IntKind.i64 y2] σ fun v0 v1 =>
  Option.bind (AV.toAgg v0) fun v2 =>
    if List.length v2 = (3 : Nat) then
      Option.bind (List.head? v2) fun v3 =>
        Option.bind (AV.toBool v3) fun v4 =>
          Option.bind (List.head? (List.tail v2)) fun v5 =>
            Option.bind (AV.toStr v5) fun v6 =>
              Option.bind (List.head? (List.tail (List.tail v2))) fun v7 =>
                Option.bind (AV.toStr v7) fun v8 => J Ex.normal (f24e18 y0 y1 y2 y3 y4 y5 v4 y0 y1 y2 v4 v6 v8 v4) v1
    else none := hide (by kernel_rfl)
theorem f24z27_f24e18 (y0 : Option (Nat × Nat)) (y1 : Int) (y2 : Int) (y3 : ByteArray) (y4 : ByteArray) (y5 : Bool) (y6 : Bool) (y7 : Option (Nat × Nat)) (y8 : Int) (y9 : Int) (y10 : Bool) (y11 : ByteArray) (y12 : ByteArray) (y13 : Bool) : Ann.clr f24a27 (f24e18 y0 y1 y2 y3 y4 y5 y6 y7 y8 y9 y10 y11 y12 y13) = f24e19 y0 y1 y2 y3 y4 y6 := hide (by kernel_rfl)
theorem f24x31_f24e19 {R : Type} (call : Bool → CallF R) (dem : Bool) (N : Nat) (y0 : Option (Nat × Nat)) (y1 : Int) (y2 : Int) (y3 : ByteArray) (y4 : ByteArray) (y5 : Bool) (J : KF R) (σ : St) : runK Try.prog call dem N f24c31 f24a31 J (f24e19 y0 y1 y2 y3 y4 y5) σ = if y5 = true then runK Try.prog call dem N f24c32 f24a32 (condC f24a31 J) (f24e19 y0 y1 y2 y3 y4 y5) σ else runK Try.prog call dem N f24c33 f24a33 (condC f24a31 J) (f24e19 y0 y1 y2 y3 y4 y5) σ := runK_cond' (o := Operand.tmp (44 : Nat)) (by kernel_rfl) (by kernel_rfl) (by kernel_rfl) (by kernel_rfl)
theorem f24n32 {R : Type} (call : Bool → CallF R) (dem : Bool) (N : Nat) (J : KF R) (e : Env) (σ : St) : runK Try.prog call dem N f24c32 f24a32 J e σ = runK Try.prog call dem N f24c34 f24a34 (seqC (fun K e σ => runK Try.prog call dem N f24c35 f24a35 K e σ) f24a32 J) e σ := runK_seq' (by kernel_rfl) (by kernel_rfl) (by kernel_rfl)
theorem f24r34_f24e19 {R : Type} (call : Bool → CallF R) (dem : Bool) (N : Nat) (y0 : Option (Nat × Nat)) (y1 : Int) (y2 : Int) (y3 : ByteArray) (y4 : ByteArray) (y5 : Bool) (J : KF R) (σ : St) :
    runK Try.prog call dem N f24c34 f24a34 J (f24e19 y0 y1 y2 y3 y4 y5) σ =
J Ex.normal (f24e20 y0 y1 y2 y3 y4 false (0 : Int) y5) σ := hide (by kernel_rfl)
theorem f24z32_f24e20 (y0 : Option (Nat × Nat)) (y1 : Int) (y2 : Int) (y3 : ByteArray) (y4 : ByteArray) (y5 : Bool) (y6 : Int) (y7 : Bool) : Ann.clr f24a32 (f24e20 y0 y1 y2 y3 y4 y5 y6 y7) = f24e8 y5 y6 := hide (by kernel_rfl)
theorem f24y35_f24e8 {R : Type} (call : Bool → CallF R) (dem : Bool) (N : Nat) (y0 : Bool) (y1 : Int) (J : KF R) (σ : St) : runK Try.prog call dem N f24c35 f24a35 J (f24e8 y0 y1) σ = J .ret (f24e8 y0 y1) σ := runK_ret' (by kernel_rfl) (by kernel_rfl)
theorem f24n33 {R : Type} (call : Bool → CallF R) (dem : Bool) (N : Nat) (J : KF R) (e : Env) (σ : St) : runK Try.prog call dem N f24c33 f24a33 J e σ = J .normal e σ := runK_skip' (by kernel_rfl)
theorem f24z31_f24e19 (y0 : Option (Nat × Nat)) (y1 : Int) (y2 : Int) (y3 : ByteArray) (y4 : ByteArray) (y5 : Bool) : Ann.clr f24a31 (f24e19 y0 y1 y2 y3 y4 y5) = f24e0 y0 y1 y2 y3 y4 := hide (by kernel_rfl)
theorem f24z25_f24e0 (y0 : Option (Nat × Nat)) (y1 : Int) (y2 : Int) (y3 : ByteArray) (y4 : ByteArray) : Ann.clr f24a25 (f24e0 y0 y1 y2 y3 y4) = f24e0 y0 y1 y2 y3 y4 := hide (by kernel_rfl)
theorem f24z19_f24e0 (y0 : Option (Nat × Nat)) (y1 : Int) (y2 : Int) (y3 : ByteArray) (y4 : ByteArray) : Ann.clr f24a19 (f24e0 y0 y1 y2 y3 y4) = f24e0 y0 y1 y2 y3 y4 := hide (by kernel_rfl)
theorem f24z13_f24e0 (y0 : Option (Nat × Nat)) (y1 : Int) (y2 : Int) (y3 : ByteArray) (y4 : ByteArray) : Ann.clr f24a13 (f24e0 y0 y1 y2 y3 y4) = f24e0 y0 y1 y2 y3 y4 := hide (by kernel_rfl)
theorem f24z7_f24e0 (y0 : Option (Nat × Nat)) (y1 : Int) (y2 : Int) (y3 : ByteArray) (y4 : ByteArray) : Ann.clr f24a7 (f24e0 y0 y1 y2 y3 y4) = f24e0 y0 y1 y2 y3 y4 := hide (by kernel_rfl)
theorem f24z5_f24e3 (y0 : Option (Nat × Nat)) (y1 : Int) (y2 : Int) (y3 : ByteArray) (y4 : ByteArray) (y5 : Bool) (y6 : Int) (y7 : Bool) (y8 : Bool) (y9 : Bool) (y10 : Int) (y11 : Bool) (y12 : Bool) (y13 : Bool) (y14 : Bool) : Ann.clr f24a5 (f24e3 y0 y1 y2 y3 y4 y5 y6 y7 y8 y9 y10 y11 y12 y13 y14) = f24e6 y0 y1 y2 y3 y4 y5 := hide (by kernel_rfl)
theorem f24z5_f24e4 (y0 : Option (Nat × Nat)) (y1 : Int) (y2 : Int) (y3 : ByteArray) (y4 : ByteArray) (y5 : Bool) (y6 : Int) (y7 : Bool) (y8 : Bool) (y9 : Bool) (y10 : Int) (y11 : Bool) (y12 : Bool) (y13 : Bool) (y14 : Option (Nat × Nat)) (y15 : Bool) (y16 : Bool) (y17 : Int) (y18 : Option (Nat × Nat)) (y19 : Option (Nat × Nat)) (y20 : Option (Nat × Nat)) (y21 : Int) (y22 : Int) (y23 : Bool) (y24 : Bool) (y25 : Bool) : Ann.clr f24a5 (f24e4 y0 y1 y2 y3 y4 y5 y6 y7 y8 y9 y10 y11 y12 y13 y14 y15 y16 y17 y18 y19 y20 y21 y22 y23 y24 y25) = f24e6 y0 y1 y2 y3 y4 y5 := hide (by kernel_rfl)
theorem f24z5_f24e5 (y0 : Option (Nat × Nat)) (y1 : Int) (y2 : Int) (y3 : ByteArray) (y4 : ByteArray) (y5 : Bool) (y6 : Int) (y7 : Bool) (y8 : Bool) (y9 : Bool) (y10 : Int) (y11 : Bool) (y12 : Bool) (y13 : Bool) (y14 : Option (Nat × Nat)) (y15 : Bool) (y16 : Bool) (y17 : Bool) (y18 : Bool) : Ann.clr f24a5 (f24e5 y0 y1 y2 y3 y4 y5 y6 y7 y8 y9 y10 y11 y12 y13 y14 y15 y16 y17 y18) = f24e6 y0 y1 y2 y3 y4 y5 := hide (by kernel_rfl)
theorem f24z3_f24e0 (y0 : Option (Nat × Nat)) (y1 : Int) (y2 : Int) (y3 : ByteArray) (y4 : ByteArray) : Ann.clr f24a3 (f24e0 y0 y1 y2 y3 y4) = f24e0 y0 y1 y2 y3 y4 := hide (by kernel_rfl)
theorem f24z2_f24e0 (y0 : Option (Nat × Nat)) (y1 : Int) (y2 : Int) (y3 : ByteArray) (y4 : ByteArray) : Ann.clr f24a2 (f24e0 y0 y1 y2 y3 y4) = f24e0 y0 y1 y2 y3 y4 := hide (by kernel_rfl)
theorem f24n4 {R : Type} (call : Bool → CallF R) (dem : Bool) (N : Nat) (J : KF R) (e : Env) (σ : St) : runK Try.prog call dem N f24c4 f24a4 J e σ = runK Try.prog call dem N f24c36 f24a36 (seqC (fun K e σ => runK Try.prog call dem N f24c37 f24a37 K e σ) f24a4 J) e σ := runK_seq' (by kernel_rfl) (by kernel_rfl) (by kernel_rfl)
theorem f24r36_f24e0 {R : Type} (call : Bool → CallF R) (dem : Bool) (N : Nat) (y0 : Option (Nat × Nat)) (y1 : Int) (y2 : Int) (y3 : ByteArray) (y4 : ByteArray) (J : KF R) (σ : St) :
    runK Try.prog call dem N f24c36 f24a36 J (f24e0 y0 y1 y2 y3 y4) σ =
Option.bind y0 fun v0 =>
  if (0 : Nat) < (1 : Nat) ∧ (0 : Int) ≤ y1 ∧ y1 < (3 : Int) then
    Option.bind (St.ld σ (Prod.fst v0) (Prod.snd v0 + (3 : Nat) + Int.toNat y1 * (1 : Nat))) fun v1 =>
      Option.bind (AV.toSl (3 : Nat) v1) fun v2 =>
        if (0 : Int) ≤ y2 ∧ y2 < (↑(Sl.len v2) : Int) then
          Option.bind (Sl.o v2) fun v3 =>
            Option.bind (St.st σ (Prod.fst v3) (Prod.snd v3 + Int.toNat y2 * (3 : Nat)) [AV.bool true, AV.str y3, AV.str y4]) fun v4 =>
              J Ex.normal
                (f24e21 y0 y1 y2 y3 y4 y0 y1 (some v0) (some (Prod.fst v0, Prod.snd v0 + (3 : Nat)))
                  (some (Prod.fst v0, Prod.snd v0 + (3 : Nat) + Int.toNat y1 * (1 : Nat))) (Sl.o v2) (Sl.len v2) (Sl.cap v2) y2 y3 y4 true y3 y4
                  (some (Prod.fst v3, Prod.snd v3 + Int.toNat y2 * (3 : Nat))))
                v4
        else none
  else none := hide (by kernel_rfl)
theorem f24z4_f24e21 (y0 : Option (Nat × Nat)) (y1 : Int) (y2 : Int) (y3 : ByteArray) (y4 : ByteArray) (y5 : Option (Nat × Nat)) (y6 : Int) (y7 : Option (Nat × Nat)) (y8 : Option (Nat × Nat)) (y9 : Option (Nat × Nat)) (y10 : Option (Nat × Nat)) (y11 : Nat) (y12 : Option Nat) (y13 : Int) (y14 : ByteArray) (y15 : ByteArray) (y16 : Bool) (y17 : ByteArray) (y18 : ByteArray) (y19 : Option (Nat × Nat)) : Ann.clr f24a4 (f24e21 y0 y1 y2 y3 y4 y5 y6 y7 y8 y9 y10 y11 y12 y13 y14 y15 y16 y17 y18 y19) = f24e22 := hide (by kernel_rfl)
theorem f24n37 {R : Type} (call : Bool → CallF R) (dem : Bool) (N : Nat) (J : KF R) (e : Env) (σ : St) : runK Try.prog call dem N f24c37 f24a37 J e σ = runK Try.prog call dem N f24c38 f24a38 (seqC (fun K e σ => runK Try.prog call dem N f24c39 f24a39 K e σ) f24a37 J) e σ := runK_seq' (by kernel_rfl) (by kernel_rfl) (by kernel_rfl)
theorem f24r38_f24e22 {R : Type} (call : Bool → CallF R) (dem : Bool) (N : Nat) (J : KF R) (σ : St) :
    runK Try.prog call dem N f24c38 f24a38 J (f24e22) σ =
J Ex.normal (f24e8 true (0 : Int)) σ := hide (by kernel_rfl)
theorem f24z37_f24e8 (y0 : Bool) (y1 : Int) : Ann.clr f24a37 (f24e8 y0 y1) = f24e8 y0 y1 := hide (by kernel_rfl)
theorem f24y39_f24e8 {R : Type} (call : Bool → CallF R) (dem : Bool) (N : Nat) (y0 : Bool) (y1 : Int) (J : KF R) (σ : St) : runK Try.prog call dem N f24c39 f24a39 J (f24e8 y0 y1) σ = J .ret (f24e8 y0 y1) σ := runK_ret' (by kernel_rfl) (by kernel_rfl)
theorem f24b_f24e8_r {R : Type} (y0 : Bool) (y1 : Int) (σ : St) (K : AV → St → Option R) : bodyC Try.prog f24rs K (Ex.ret) (f24e8 y0 y1) σ =
K (AV.tuple [AV.bool y0, AV.int IntKind.i64 y1]) σ := hide (by kernel_rfl)
attribute [go_sem] f24_eq f24n0 f24r1_f24e0 f24z0_f24e1 f24n2 f24n3 f24n5 f24r6_f24e0 f24z5_f24e2 f24x7_f24e6 f24n8 f24r10_f24e6 f24z8_f24e7 f24y11_f24e8 f24n9 f24r12_f24e6 f24z9_f24e9 f24x13_f24e10 f24n14 f24r16_f24e10 f24z14_f24e11 f24y17_f24e8 f24n15 f24r18_f24e10 f24z15_f24e12 f24x19_f24e13 f24n20 f24r22_f24e13 f24z20_f24e14 f24y23_f24e8 f24n21 f24r24_f24e13 f24z21_f24e15 f24x25_f24e16 f24n26 f24r28_f24e16 f24z26_f24e17 f24y29_f24e8 f24n27 f24r30_f24e16 f24z27_f24e18 f24x31_f24e19 f24n32 f24r34_f24e19 f24z32_f24e20 f24y35_f24e8 f24n33 f24z31_f24e19 f24z25_f24e0 f24z19_f24e0 f24z13_f24e0 f24z7_f24e0 f24z5_f24e3 f24z5_f24e4 f24z5_f24e5 f24z3_f24e0 f24z2_f24e0 f24n4 f24r36_f24e0 f24z4_f24e21 f24n37 f24r38_f24e22 f24z37_f24e8 f24y39_f24e8 f24b_f24e8_r

noncomputable def f26rs : List ResultVar := [ResultVar.tmp (2 : Nat), ResultVar.tmp (3 : Nat)]
noncomputable def f26c0 : Code := subCode [] (bodyOf Try.prog 26)
def f26a0 : Ann := subAnn [] ann26
noncomputable def f26c1 : Code := subCode [0] (bodyOf Try.prog 26)
def f26a1 : Ann := subAnn [0] ann26
noncomputable def f26c2 : Code := subCode [1] (bodyOf Try.prog 26)
def f26a2 : Ann := subAnn [1] ann26
noncomputable def f26c3 : Code := subCode [1, 0] (bodyOf Try.prog 26)
def f26a3 : Ann := subAnn [1, 0] ann26
noncomputable def f26c4 : Code := subCode [1, 1] (bodyOf Try.prog 26)
def f26a4 : Ann := subAnn [1, 1] ann26
noncomputable def f26c5 : Code := subCode [1, 0, 0] (bodyOf Try.prog 26)
def f26a5 : Ann := subAnn [1, 0, 0] ann26
noncomputable def f26c6 : Code := subCode [1, 0, 1] (bodyOf Try.prog 26)
def f26a6 : Ann := subAnn [1, 0, 1] ann26
noncomputable def f26c7 : Code := subCode [1, 0, 1, 0] (bodyOf Try.prog 26)
def f26a7 : Ann := subAnn [1, 0, 1, 0] ann26
noncomputable def f26c8 : Code := subCode [1, 0, 1, 1] (bodyOf Try.prog 26)
def f26a8 : Ann := subAnn [1, 0, 1, 1] ann26
noncomputable def f26c9 : Code := subCode [1, 0, 1, 0, 0] (bodyOf Try.prog 26)
def f26a9 : Ann := subAnn [1, 0, 1, 0, 0] ann26
noncomputable def f26c10 : Code := subCode [1, 0, 1, 0, 1] (bodyOf Try.prog 26)
def f26a10 : Ann := subAnn [1, 0, 1, 0, 1] ann26
noncomputable def f26c11 : Code := subCode [1, 1, 0] (bodyOf Try.prog 26)
def f26a11 : Ann := subAnn [1, 1, 0] ann26
noncomputable def f26c12 : Code := subCode [1, 1, 1] (bodyOf Try.prog 26)
def f26a12 : Ann := subAnn [1, 1, 1] ann26
noncomputable def f26c13 : Code := subCode [1, 1, 1, 0] (bodyOf Try.prog 26)
def f26a13 : Ann := subAnn [1, 1, 1, 0] ann26
noncomputable def f26c14 : Code := subCode [1, 1, 1, 1] (bodyOf Try.prog 26)
def f26a14 : Ann := subAnn [1, 1, 1, 1] ann26
def f26e0 (y0 : Option (Nat × Nat)) : Env := AV.ptr y0 :: Env.sp 16 []
def f26e1 (y0 : Option (Nat × Nat)) (y1 : ByteArray) (y2 : Bool) : Env := AV.ptr y0 :: Env.sp 1 (AV.str y1 :: AV.bool y2 :: Env.sp 13 [])
def f26e2 (y0 : Option (Nat × Nat)) (y1 : Option (Nat × Nat)) (y2 : Bool) : Env := AV.ptr y0 :: Env.sp 4 (AV.ptr y1 :: AV.bool y2 :: Env.sp 10 [])
def f26e3 (y0 : Option (Nat × Nat)) (y1 : Bool) : Env := AV.ptr y0 :: Env.sp 5 (AV.bool y1 :: Env.sp 10 [])
def f26e4 (y0 : Option (Nat × Nat)) (y1 : ByteArray) (y2 : Bool) (y3 : Bool) : Env := AV.ptr y0 :: Env.sp 1 (AV.str y1 :: AV.bool y2 :: Env.sp 2 (AV.bool y3 :: Env.sp 10 []))
def f26e5 (y0 : ByteArray) (y1 : Bool) : Env := Env.sp 2 (AV.str y0 :: AV.bool y1 :: Env.sp 13 [])
def f26e6 (y0 : Option (Nat × Nat)) (y1 : Nat) (y2 : Option (Nat × Nat)) (y3 : Option (Nat × Nat)) (y4 : Option (Nat × Nat)) (y5 : Option (Nat × Nat)) (y6 : Int) (y7 : Bool) (y8 : ByteArray) (y9 : ByteArray) : Env := AV.ptr y0 :: Env.sp 3 (AV.ptr (some (y1, (0 : Nat))) :: Env.sp 2 (AV.ptr y2 :: AV.ptr y3 :: AV.ptr y4 :: AV.ptr y5 :: AV.int IntKind.i64 y6 :: AV.agg [AV.bool y7, AV.str y8, AV.str y9] :: Env.sp 4 []))
def f26e7 (y0 : Nat) : Env := Env.sp 4 (AV.ptr (some (y0, (0 : Nat))) :: Env.sp 12 [])
def f26e8 (y0 : ByteArray) (y1 : Bool) (y2 : Nat) (y3 : Nat) (y4 : ByteArray) (y5 : Nat) (y6 : Bool) : Env := Env.sp 2 (AV.str y0 :: AV.bool y1 :: AV.ptr (some (y2, (0 : Nat))) :: Env.sp 8 (AV.ptr (some (y3, (1 : Nat))) :: AV.str y4 :: AV.ptr (some (y5, (0 : Nat))) :: AV.bool y6 :: []))

/- function 26 -/
theorem f26_eq {R : Type} (call : Bool → CallF R) (dem : Bool) (N : Nat) (y0 : Option (Nat × Nat)) (σ : St) (K : AV → St → Option R) :
    bodyK Try.prog call dem N ann 26 [AV.ptr y0] σ K = runK Try.prog call dem N f26c0 f26a0 (bodyC Try.prog f26rs K) (f26e0 y0) σ := bodyK_of (fn := ((Try.prog.funcs[26]?).get rfl)) (by kernel_rfl) (by kernel_rfl) (by kernel_rfl) (by kernel_rfl) (by kernel_rfl) (by kernel_rfl)
theorem f26n0 {R : Type} (call : Bool → CallF R) (dem : Bool) (N : Nat) (J : KF R) (e : Env) (σ : St) : runK Try.prog call dem N f26c0 f26a0 J e σ = runK Try.prog call dem N f26c1 f26a1 (seqC (fun K e σ => runK Try.prog call dem N f26c2 f26a2 K e σ) f26a0 J) e σ := runK_seq' (by kernel_rfl) (by kernel_rfl) (by kernel_rfl)
theorem f26r1_f26e0 {R : Type} (call : Bool → CallF R) (dem : Bool) (N : Nat) (y0 : Option (Nat × Nat)) (J : KF R) (σ : St) :
    runK Try.prog call dem N f26c1 f26a1 J (f26e0 y0) σ =
J Ex.normal (f26e1 y0 (ByteArray.mk #[]) false) σ := hide (by kernel_rfl)
theorem f26z0_f26e1 (y0 : Option (Nat × Nat)) (y1 : ByteArray) (y2 : Bool) : Ann.clr f26a0 (f26e1 y0 y1 y2) = f26e0 y0 := hide (by kernel_rfl)
theorem f26n2 {R : Type} (call : Bool → CallF R) (dem : Bool) (N : Nat) (J : KF R) (e : Env) (σ : St) : runK Try.prog call dem N f26c2 f26a2 J e σ = runK Try.prog call dem N f26c3 f26a3 (seqC (fun K e σ => runK Try.prog call dem N f26c4 f26a4 K e σ) f26a2 J) e σ := runK_seq' (by kernel_rfl) (by kernel_rfl) (by kernel_rfl)
theorem f26n3 {R : Type} (call : Bool → CallF R) (dem : Bool) (N : Nat) (J : KF R) (e : Env) (σ : St) : runK Try.prog call dem N f26c3 f26a3 J e σ = runK Try.prog call dem N f26c5 f26a5 (seqC (fun K e σ => runK Try.prog call dem N f26c6 f26a6 K e σ) f26a3 J) e σ := runK_seq' (by kernel_rfl) (by kernel_rfl) (by kernel_rfl)
theorem f26r5_f26e0 {R : Type} (call : Bool → CallF R) (dem : Bool) (N : Nat) (y0 : Option (Nat × Nat)) (J : KF R) (σ : St) :
    runK Try.prog call dem N f26c5 f26a5 J (f26e0 y0) σ =
J Ex.normal (f26e2 y0 y0 (Option.isNone y0)) σ := hide (by kernel_rfl)
theorem f26z3_f26e2 (y0 : Option (Nat × Nat)) (y1 : Option (Nat × Nat)) (y2 : Bool) : Ann.clr f26a3 (f26e2 y0 y1 y2) = f26e3 y0 y2 := hide (by kernel_rfl)
theorem f26x6_f26e3 {R : Type} (call : Bool → CallF R) (dem : Bool) (N : Nat) (y0 : Option (Nat × Nat)) (y1 : Bool) (J : KF R) (σ : St) : runK Try.prog call dem N f26c6 f26a6 J (f26e3 y0 y1) σ = if y1 = true then runK Try.prog call dem N f26c7 f26a7 (condC f26a6 J) (f26e3 y0 y1) σ else runK Try.prog call dem N f26c8 f26a8 (condC f26a6 J) (f26e3 y0 y1) σ := runK_cond' (o := Operand.tmp (6 : Nat)) (by kernel_rfl) (by kernel_rfl) (by kernel_rfl) (by kernel_rfl)
theorem f26n7 {R : Type} (call : Bool → CallF R) (dem : Bool) (N : Nat) (J : KF R) (e : Env) (σ : St) : runK Try.prog call dem N f26c7 f26a7 J e σ = runK Try.prog call dem N f26c9 f26a9 (seqC (fun K e σ => runK Try.prog call dem N f26c10 f26a10 K e σ) f26a7 J) e σ := runK_seq' (by kernel_rfl) (by kernel_rfl) (by kernel_rfl)
theorem f26r9_f26e3 {R : Type} (call : Bool → CallF R) (dem : Bool) (N : Nat) (y0 : Option (Nat × Nat)) (y1 : Bool) (J : KF R) (σ : St) :
    runK Try.prog call dem N f26c9 f26a9 J (f26e3 y0 y1) σ =
J Ex.normal (f26e4 y0 (ByteArray.mk #[]) false y1) σ := hide (by kernel_rfl)
theorem f26z7_f26e4 (y0 : Option (Nat × Nat)) (y1 : ByteArray) (y2 : Bool) (y3 : Bool) : Ann.clr f26a7 (f26e4 y0 y1 y2 y3) = f26e5 y1 y2 := hide (by kernel_rfl)
theorem f26y10_f26e5 {R : Type} (call : Bool → CallF R) (dem : Bool) (N : Nat) (y0 : ByteArray) (y1 : Bool) (J : KF R) (σ : St) : runK Try.prog call dem N f26c10 f26a10 J (f26e5 y0 y1) σ = J .ret (f26e5 y0 y1) σ := runK_ret' (by kernel_rfl) (by kernel_rfl)
theorem f26n8 {R : Type} (call : Bool → CallF R) (dem : Bool) (N : Nat) (J : KF R) (e : Env) (σ : St) : runK Try.prog call dem N f26c8 f26a8 J e σ = J .normal e σ := runK_skip' (by kernel_rfl)
theorem f26z6_f26e3 (y0 : Option (Nat × Nat)) (y1 : Bool) : Ann.clr f26a6 (f26e3 y0 y1) = f26e0 y0 := hide (by kernel_rfl)
theorem f26z2_f26e0 (y0 : Option (Nat × Nat)) : Ann.clr f26a2 (f26e0 y0) = f26e0 y0 := hide (by kernel_rfl)
theorem f26n4 {R : Type} (call : Bool → CallF R) (dem : Bool) (N : Nat) (J : KF R) (e : Env) (σ : St) : runK Try.prog call dem N f26c4 f26a4 J e σ = runK Try.prog call dem N f26c11 f26a11 (seqC (fun K e σ => runK Try.prog call dem N f26c12 f26a12 K e σ) f26a4 J) e σ := runK_seq' (by kernel_rfl) (by kernel_rfl) (by kernel_rfl)
theorem f26r11_f26e0 {R : Type} (call : Bool → CallF R) (dem : Bool) (N : Nat) (y0 : Option (Nat × Nat)) (J : KF R) (σ : St) :
    runK Try.prog call dem N f26c11 f26a11 J (f26e0 y0) σ =
Option.bind y0 fun v0 =>
  Option.bind (St.ld σ (Prod.fst v0) (Prod.snd v0 + (2 : Nat))) fun v1 =>
    Option.bind (AV.toInt IntKind.i64 v1) fun v2 =>
      call dem (48 : Nat) [AV.ptr y0, AV.int IntKind.i64 (1 : Int), AV.int IntKind.i64 v2] σ fun v3 v4 =>
        Option.bind (AV.toAgg v3) fun v5 =>
          if List.length v5 = (3 : Nat) then
            Option.bind (List.head? v5) fun v6 =>
              Option.bind (AV.toBool v6) fun v7 =>
                Option.bind (List.head? (List.tail v5)) fun v8 =>
                  Option.bind (AV.toStr v8) fun v9 =>
                    Option.bind (List.head? (List.tail (List.tail v5))) fun v10 =>
                      Option.bind (AV.toStr v10) fun v11 =>
                        Option.bind
                          (St.st (St.new v4 (Blk.cells [AV.bool false, AV.str (ByteArray.mk #[]), AV.str (ByteArray.mk #[])] true)) (St.next v4)
                            (0 : Nat) [AV.bool v7, AV.str v9, AV.str v11])
                          fun v12 =>
                          J Ex.normal (f26e6 y0 (St.next v4) y0 y0 (some v0) (some (Prod.fst v0, Prod.snd v0 + (2 : Nat))) v2 v7 v9 v11) v12
          else none := hide (by kernel_rfl)
theorem f26z4_f26e6 (y0 : Option (Nat × Nat)) (y1 : Nat) (y2 : Option (Nat × Nat)) (y3 : Option (Nat × Nat)) (y4 : Option (Nat × Nat)) (y5 : Option (Nat × Nat)) (y6 : Int) (y7 : Bool) (y8 : ByteArray) (y9 : ByteArray) : Ann.clr f26a4 (f26e6 y0 y1 y2 y3 y4 y5 y6 y7 y8 y9) = f26e7 y1 := hide (by kernel_rfl)
theorem f26n12 {R : Type} (call : Bool → CallF R) (dem : Bool) (N : Nat) (J : KF R) (e : Env) (σ : St) : runK Try.prog call dem N f26c12 f26a12 J e σ = runK Try.prog call dem N f26c13 f26a13 (seqC (fun K e σ => runK Try.prog call dem N f26c14 f26a14 K e σ) f26a12 J) e σ := runK_seq' (by kernel_rfl) (by kernel_rfl) (by kernel_rfl)
theorem f26r13_f26e7 {R : Type} (call : Bool → CallF R) (dem : Bool) (N : Nat) (y0 : Nat) (J : KF R) (σ : St) :
    runK Try.prog call dem N f26c13 f26a13 J (f26e7 y0) σ =
Option.bind (St.ld σ y0 (1 : Nat)) fun v0 =>
  Option.bind (AV.toStr v0) fun v1 =>
    Option.bind (St.ld σ y0 (0 : Nat)) fun v2 => Option.bind (AV.toBool v2) fun v3 => J Ex.normal (f26e8 v1 v3 y0 y0 v1 y0 v3) σ := hide (by kernel_rfl)
theorem f26z12_f26e8 (y0 : ByteArray) (y1 : Bool) (y2 : Nat) (y3 : Nat) (y4 : ByteArray) (y5 : Nat) (y6 : Bool) : Ann.clr f26a12 (f26e8 y0 y1 y2 y3 y4 y5 y6) = f26e5 y0 y1 := hide (by kernel_rfl)
theorem f26y14_f26e5 {R : Type} (call : Bool → CallF R) (dem : Bool) (N : Nat) (y0 : ByteArray) (y1 : Bool) (J : KF R) (σ : St) : runK Try.prog call dem N f26c14 f26a14 J (f26e5 y0 y1) σ = J .ret (f26e5 y0 y1) σ := runK_ret' (by kernel_rfl) (by kernel_rfl)
theorem f26b_f26e5_r {R : Type} (y0 : ByteArray) (y1 : Bool) (σ : St) (K : AV → St → Option R) : bodyC Try.prog f26rs K (Ex.ret) (f26e5 y0 y1) σ =
K (AV.tuple [AV.str y0, AV.bool y1]) σ := hide (by kernel_rfl)
attribute [go_sem] f26_eq f26n0 f26r1_f26e0 f26z0_f26e1 f26n2 f26n3 f26r5_f26e0 f26z3_f26e2 f26x6_f26e3 f26n7 f26r9_f26e3 f26z7_f26e4 f26y10_f26e5 f26n8 f26z6_f26e3 f26z2_f26e0 f26n4 f26r11_f26e0 f26z4_f26e6 f26n12 f26r13_f26e7 f26z12_f26e8 f26y14_f26e5 f26b_f26e5_r

noncomputable def f31rs : List ResultVar := [ResultVar.tmp (4 : Nat)]
noncomputable def f31c0 : Code := subCode [] (bodyOf Try.prog 31)
def f31a0 : Ann := subAnn [] ann31
noncomputable def f31c1 : Code := subCode [0] (bodyOf Try.prog 31)
def f31a1 : Ann := subAnn [0] ann31
noncomputable def f31c2 : Code := subCode [1] (bodyOf Try.prog 31)
def f31a2 : Ann := subAnn [1] ann31
noncomputable def f31c3 : Code := subCode [1, 0] (bodyOf Try.prog 31)
def f31a3 : Ann := subAnn [1, 0] ann31
noncomputable def f31c4 : Code := subCode [1, 1] (bodyOf Try.prog 31)
def f31a4 : Ann := subAnn [1, 1] ann31
noncomputable def f31c5 : Code := subCode [1, 1, 0] (bodyOf Try.prog 31)
def f31a5 : Ann := subAnn [1, 1, 0] ann31
noncomputable def f31c6 : Code := subCode [1, 1, 1] (bodyOf Try.prog 31)
def f31a6 : Ann := subAnn [1, 1, 1] ann31
noncomputable def f31c7 : Code := subCode [1, 1, 0, 0] (bodyOf Try.prog 31)
def f31a7 : Ann := subAnn [1, 1, 0, 0] ann31
noncomputable def f31c8 : Code := subCode [1, 1, 0, 1] (bodyOf Try.prog 31)
def f31a8 : Ann := subAnn [1, 1, 0, 1] ann31
noncomputable def f31c9 : Code := subCode [1, 1, 0, 1, 0] (bodyOf Try.prog 31)
def f31a9 : Ann := subAnn [1, 1, 0, 1, 0] ann31
noncomputable def f31c10 : Code := subCode [1, 1, 0, 1, 0, 0] (bodyOf Try.prog 31)
def f31a10 : Ann := subAnn [1, 1, 0, 1, 0, 0] ann31
noncomputable def f31c11 : Code := subCode [1, 1, 0, 1, 0, 0, 0] (bodyOf Try.prog 31)
def f31a11 : Ann := subAnn [1, 1, 0, 1, 0, 0, 0] ann31
noncomputable def f31c12 : Code := subCode [1, 1, 0, 1, 0, 0, 1] (bodyOf Try.prog 31)
def f31a12 : Ann := subAnn [1, 1, 0, 1, 0, 0, 1] ann31
noncomputable def f31c13 : Code := subCode [1, 1, 0, 1, 0, 0, 0, 0] (bodyOf Try.prog 31)
def f31a13 : Ann := subAnn [1, 1, 0, 1, 0, 0, 0, 0] ann31
noncomputable def f31c14 : Code := subCode [1, 1, 0, 1, 0, 0, 0, 1] (bodyOf Try.prog 31)
def f31a14 : Ann := subAnn [1, 1, 0, 1, 0, 0, 0, 1] ann31
noncomputable def f31c15 : Code := subCode [1, 1, 0, 1, 0, 0, 0, 1, 0] (bodyOf Try.prog 31)
def f31a15 : Ann := subAnn [1, 1, 0, 1, 0, 0, 0, 1, 0] ann31
noncomputable def f31c16 : Code := subCode [1, 1, 0, 1, 0, 0, 0, 1, 1] (bodyOf Try.prog 31)
def f31a16 : Ann := subAnn [1, 1, 0, 1, 0, 0, 0, 1, 1] ann31
noncomputable def f31c17 : Code := subCode [1, 1, 0, 1, 0, 0, 1, 0] (bodyOf Try.prog 31)
def f31a17 : Ann := subAnn [1, 1, 0, 1, 0, 0, 1, 0] ann31
noncomputable def f31c18 : Code := subCode [1, 1, 0, 1, 0, 0, 1, 1] (bodyOf Try.prog 31)
def f31a18 : Ann := subAnn [1, 1, 0, 1, 0, 0, 1, 1] ann31
noncomputable def f31c19 : Code := subCode [1, 1, 0, 1, 0, 0, 1, 0, 0] (bodyOf Try.prog 31)
def f31a19 : Ann := subAnn [1, 1, 0, 1, 0, 0, 1, 0, 0] ann31
noncomputable def f31c20 : Code := subCode [1, 1, 0, 1, 0, 0, 1, 0, 0, 0] (bodyOf Try.prog 31)
def f31a20 : Ann := subAnn [1, 1, 0, 1, 0, 0, 1, 0, 0, 0] ann31
noncomputable def f31c21 : Code := subCode [1, 1, 0, 1, 0, 0, 1, 0, 0, 1] (bodyOf Try.prog 31)
def f31a21 : Ann := subAnn [1, 1, 0, 1, 0, 0, 1, 0, 0, 1] ann31
noncomputable def f31c22 : Code := subCode [1, 1, 0, 1, 0, 0, 1, 0, 0, 1, 0] (bodyOf Try.prog 31)
def f31a22 : Ann := subAnn [1, 1, 0, 1, 0, 0, 1, 0, 0, 1, 0] ann31
noncomputable def f31c23 : Code := subCode [1, 1, 0, 1, 0, 0, 1, 0, 0, 1, 1] (bodyOf Try.prog 31)
def f31a23 : Ann := subAnn [1, 1, 0, 1, 0, 0, 1, 0, 0, 1, 1] ann31
noncomputable def f31c24 : Code := subCode [1, 1, 1, 0] (bodyOf Try.prog 31)
def f31a24 : Ann := subAnn [1, 1, 1, 0] ann31
noncomputable def f31c25 : Code := subCode [1, 1, 1, 1] (bodyOf Try.prog 31)
def f31a25 : Ann := subAnn [1, 1, 1, 1] ann31
noncomputable def f31L9 {R : Type} (call : Bool → CallF R) (dem : Bool) (N : Nat) : KF R → Env → St → Option R := fun K e σ => runK Try.prog call dem N f31c10 f31a10 K e σ
def f31e0 (y0 : Option (Nat × Nat)) (y1 : Int) : Env := AV.ptr y0 :: AV.int IntKind.i64 y1 :: Env.sp 26 []
def f31e1 (y0 : Option (Nat × Nat)) (y1 : Int) (y2 : Int) : Env := AV.ptr y0 :: AV.int IntKind.i64 y1 :: Env.sp 2 (AV.int IntKind.i64 y2 :: Env.sp 23 [])
def f31e2 (y0 : Option (Nat × Nat)) (y1 : Int) (y2 : Int) : Env := AV.ptr y0 :: AV.int IntKind.i64 y1 :: Env.sp 3 (AV.int IntKind.i64 y2 :: Env.sp 22 [])
def f31e3 (y0 : Option (Nat × Nat)) (y1 : Int) (y2 : Int) (y3 : Int) : Env := AV.ptr y0 :: AV.int IntKind.i64 y1 :: Env.sp 3 (AV.int IntKind.i64 y2 :: AV.int IntKind.i64 y3 :: Env.sp 21 [])
def f31e4 (y0 : Option (Nat × Nat)) (y1 : Int) (y2 : Int) (y3 : Int) (y4 : Option (Nat × Nat)) (y5 : Bool) (y6 : Bool) (y7 : Int) (y8 : Option (Nat × Nat)) (y9 : Option (Nat × Nat)) (y10 : Option (Nat × Nat)) (y11 : Int) (y12 : Int) (y13 : Bool) (y14 : Bool) : Env := AV.ptr y0 :: AV.int IntKind.i64 y1 :: Env.sp 3 (AV.int IntKind.i64 y2 :: AV.int IntKind.i64 y3 :: AV.ptr y4 :: AV.bool y5 :: AV.bool y6 :: AV.int IntKind.i64 y7 :: AV.ptr y8 :: AV.ptr y9 :: AV.ptr y10 :: AV.int IntKind.i64 y11 :: AV.int IntKind.i64 y12 :: AV.bool y13 :: AV.bool y14 :: Env.sp 10 [])
def f31e5 (y0 : Option (Nat × Nat)) (y1 : Int) (y2 : Int) (y3 : Int) (y4 : Option (Nat × Nat)) (y5 : Bool) (y6 : Bool) (y7 : Bool) : Env := AV.ptr y0 :: AV.int IntKind.i64 y1 :: Env.sp 3 (AV.int IntKind.i64 y2 :: AV.int IntKind.i64 y3 :: AV.ptr y4 :: AV.bool y5 :: AV.bool y6 :: AV.tuple [] :: AV.tuple [] :: AV.tuple [] :: AV.tuple [] :: AV.tuple [] :: AV.tuple [] :: AV.tuple [] :: AV.bool y7 :: Env.sp 10 [])
def f31e6 (y0 : Option (Nat × Nat)) (y1 : Int) (y2 : Int) (y3 : Int) (y4 : Bool) : Env := AV.ptr y0 :: AV.int IntKind.i64 y1 :: Env.sp 3 (AV.int IntKind.i64 y2 :: AV.int IntKind.i64 y3 :: Env.sp 10 (AV.bool y4 :: Env.sp 10 []))
def f31e7 (y0 : Int) : Env := Env.sp 5 (AV.int IntKind.i64 y0 :: Env.sp 22 [])
def f31e8 (y0 : Option (Nat × Nat)) (y1 : Int) (y2 : Int) (y3 : Int) (y4 : Option (Nat × Nat)) (y5 : Int) (y6 : Int) (y7 : Bool) (y8 : ByteArray) (y9 : ByteArray) (y10 : Bool) : Env := AV.ptr y0 :: AV.int IntKind.i64 y1 :: Env.sp 3 (AV.int IntKind.i64 y2 :: AV.int IntKind.i64 y3 :: Env.sp 13 (AV.ptr y4 :: AV.int IntKind.i64 y5 :: AV.int IntKind.i64 y6 :: AV.agg [AV.bool y7, AV.str y8, AV.str y9] :: AV.bool y10 :: Env.sp 3 []))
def f31e9 (y0 : Option (Nat × Nat)) (y1 : Int) (y2 : Int) (y3 : Int) (y4 : Bool) : Env := AV.ptr y0 :: AV.int IntKind.i64 y1 :: Env.sp 3 (AV.int IntKind.i64 y2 :: AV.int IntKind.i64 y3 :: Env.sp 17 (AV.bool y4 :: Env.sp 3 []))
def f31e10 (y0 : Option (Nat × Nat)) (y1 : Int) (y2 : Int) (y3 : Int) (y4 : Bool) (y5 : Int) (y6 : Int) : Env := AV.ptr y0 :: AV.int IntKind.i64 y1 :: Env.sp 3 (AV.int IntKind.i64 y2 :: AV.int IntKind.i64 y3 :: Env.sp 17 (AV.bool y4 :: AV.int IntKind.i64 y5 :: AV.int IntKind.i64 y6 :: Env.sp 1 []))
def f31e11 (y0 : Option (Nat × Nat)) (y1 : Int) (y2 : Int) (y3 : Int) (y4 : Int) (y5 : Int) : Env := AV.ptr y0 :: AV.int IntKind.i64 y1 :: Env.sp 3 (AV.int IntKind.i64 y2 :: AV.int IntKind.i64 y3 :: Env.sp 11 (AV.int IntKind.i64 y4 :: AV.int IntKind.i64 y5 :: Env.sp 8 []))
def f31e12 (y0 : Int) (y1 : Int) (y2 : Int) : Env := Env.sp 4 (AV.int IntKind.i64 y0 :: AV.int IntKind.i64 y1 :: Env.sp 21 (AV.int IntKind.i64 y2 :: []))
def f31e13 (y0 : Int) : Env := Env.sp 4 (AV.int IntKind.i64 y0 :: Env.sp 23 [])

/- function 31 -/
theorem f31_eq {R : Type} (call : Bool → CallF R) (dem : Bool) (N : Nat) (y0 : Option (Nat × Nat)) (y1 : Int) (σ : St) (K : AV → St → Option R) :
    bodyK Try.prog call dem N ann 31 [AV.ptr y0, AV.int IntKind.i64 y1] σ K = runK Try.prog call dem N f31c0 f31a0 (bodyC Try.prog f31rs K) (f31e0 y0 y1) σ := bodyK_of (fn := ((Try.prog.funcs[31]?).get rfl)) (by kernel_rfl) (by kernel_rfl) (by kernel_rfl) (by kernel_rfl) (by kernel_rfl) (by kernel_rfl)
theorem f31n0 {R : Type} (call : Bool → CallF R) (dem : Bool) (N : Nat) (J : KF R) (e : Env) (σ : St) : runK Try.prog call dem N f31c0 f31a0 J e σ = runK Try.prog call dem N f31c1 f31a1 (seqC (fun K e σ => runK Try.prog call dem N f31c2 f31a2 K e σ) f31a0 J) e σ := runK_seq' (by kernel_rfl) (by kernel_rfl) (by kernel_rfl)
theorem f31r1_f31e0 {R : Type} (call : Bool → CallF R) (dem : Bool) (N : Nat) (y0 : Option (Nat × Nat)) (y1 : Int) (J : KF R) (σ : St) :
    runK Try.prog call dem N f31c1 f31a1 J (f31e0 y0 y1) σ =
J Ex.normal (f31e1 y0 y1 (0 : Int)) σ := hide (by kernel_rfl)
theorem f31z0_f31e1 (y0 : Option (Nat × Nat)) (y1 : Int) (y2 : Int) : Ann.clr f31a0 (f31e1 y0 y1 y2) = f31e0 y0 y1 := hide (by kernel_rfl)
theorem f31n2 {R : Type} (call : Bool → CallF R) (dem : Bool) (N : Nat) (J : KF R) (e : Env) (σ : St) : runK Try.prog call dem N f31c2 f31a2 J e σ = runK Try.prog call dem N f31c3 f31a3 (seqC (fun K e σ => runK Try.prog call dem N f31c4 f31a4 K e σ) f31a2 J) e σ := runK_seq' (by kernel_rfl) (by kernel_rfl) (by kernel_rfl)
theorem f31r3_f31e0 {R : Type} (call : Bool → CallF R) (dem : Bool) (N : Nat) (y0 : Option (Nat × Nat)) (y1 : Int) (J : KF R) (σ : St) :
    runK Try.prog call dem N f31c3 f31a3 J (f31e0 y0 y1) σ =
J Ex.normal (f31e2 y0 y1 (0 : Int)) σ := hide (by kernel_rfl)
theorem f31z2_f31e2 (y0 : Option (Nat × Nat)) (y1 : Int) (y2 : Int) : Ann.clr f31a2 (f31e2 y0 y1 y2) = f31e2 y0 y1 y2 := hide (by kernel_rfl)
theorem f31n4 {R : Type} (call : Bool → CallF R) (dem : Bool) (N : Nat) (J : KF R) (e : Env) (σ : St) : runK Try.prog call dem N f31c4 f31a4 J e σ = runK Try.prog call dem N f31c5 f31a5 (seqC (fun K e σ => runK Try.prog call dem N f31c6 f31a6 K e σ) f31a4 J) e σ := runK_seq' (by kernel_rfl) (by kernel_rfl) (by kernel_rfl)
theorem f31n5 {R : Type} (call : Bool → CallF R) (dem : Bool) (N : Nat) (J : KF R) (e : Env) (σ : St) : runK Try.prog call dem N f31c5 f31a5 J e σ = runK Try.prog call dem N f31c7 f31a7 (seqC (fun K e σ => runK Try.prog call dem N f31c8 f31a8 K e σ) f31a5 J) e σ := runK_seq' (by kernel_rfl) (by kernel_rfl) (by kernel_rfl)
theorem f31r7_f31e2 {R : Type} (call : Bool → CallF R) (dem : Bool) (N : Nat) (y0 : Option (Nat × Nat)) (y1 : Int) (y2 : Int) (J : KF R) (σ : St) :
    runK Try.prog call dem N f31c7 f31a7 J (f31e2 y0 y1 y2) σ =
J Ex.normal (f31e3 y0 y1 y2 (0 : Int)) σ := hide (by kernel_rfl)
theorem f31z5_f31e3 (y0 : Option (Nat × Nat)) (y1 : Int) (y2 : Int) (y3 : Int) : Ann.clr f31a5 (f31e3 y0 y1 y2 y3) = f31e3 y0 y1 y2 y3 := hide (by kernel_rfl)
theorem f31n8 {R : Type} (call : Bool → CallF R) (dem : Bool) (N : Nat) (J : KF R) (e : Env) (σ : St) : runK Try.prog call dem N f31c8 f31a8 J e σ = runK Try.prog call dem N f31c9 f31a9 (blockC 0 f31a8 J) e σ := runK_block' (by kernel_rfl) (by kernel_rfl)
theorem f31L9_eq {R : Type} (call : Bool → CallF R) (dem : Bool) (N : Nat) (J : KF R) (e : Env) (σ : St) : f31L9 call dem N J e σ = runK Try.prog call dem N f31c10 f31a10 J e σ := hide rfl
theorem f31z9_f31e3 (y0 : Option (Nat × Nat)) (y1 : Int) (y2 : Int) (y3 : Int) : Ann.clr f31a9 (f31e3 y0 y1 y2 y3) = f31e3 y0 y1 y2 y3 := hide (by kernel_rfl)
theorem f31l9_f31e3 {R : Type} (call : Bool → CallF R) (dem : Bool) (N : Nat) (y0 : Option (Nat × Nat)) (y1 : Int) (y2 : Int) (y3 : Int) (J : KF R) (σ : St) : runK Try.prog call dem N f31c9 f31a9 J (f31e3 y0 y1 y2 y3) σ = loopK (f31L9 call dem N) f31a9 N J (f31e3 y0 y1 y2 y3) σ := runK_loop' (by kernel_rfl) (by kernel_rfl) (by kernel_rfl)
theorem f31n10 {R : Type} (call : Bool → CallF R) (dem : Bool) (N : Nat) (J : KF R) (e : Env) (σ : St) : runK Try.prog call dem N f31c10 f31a10 J e σ = runK Try.prog call dem N f31c11 f31a11 (seqC (fun K e σ => runK Try.prog call dem N f31c12 f31a12 K e σ) f31a10 J) e σ := runK_seq' (by kernel_rfl) (by kernel_rfl) (by kernel_rfl)
theorem f31n11 {R : Type} (call : Bool → CallF R) (dem : Bool) (N : Nat) (J : KF R) (e : Env) (σ : St) : runK Try.prog call dem N f31c11 f31a11 J e σ = runK Try.prog call dem N f31c13 f31a13 (seqC (fun K e σ => runK Try.prog call dem N f31c14 f31a14 K e σ) f31a11 J) e σ := runK_seq' (by kernel_rfl) (by kernel_rfl) (by kernel_rfl)
theorem f31r13_f31e3 {R : Type} (call : Bool → CallF R) (dem : Bool) (N : Nat) (y0 : Option (Nat × Nat)) (y1 : Int) (y2 : Int) (y3 : Int) (J : KF R) (σ : St) :
    runK Try.prog call dem N f31c13 f31a13 J (f31e3 y0 y1 y2 y3) σ =
if (!Option.isNone y0) = true then
  Option.bind y0 fun v0 =>
    Option.bind (St.ld σ (Prod.fst v0) (Prod.snd v0 + (1 : Nat))) fun v1 =>
      Option.bind (AV.toInt IntKind.i64 v1) fun v2 =>
        J Ex.normal
          (f31e4 y0 y1 y2 y3 y0 (!Option.isNone y0) true y3 y0 (some v0) (some (Prod.fst v0, Prod.snd v0 + (1 : Nat))) v2
            (IntKind.wrap IntKind.i64 ((3 : Int) * v2)) (decide (y3 ≤ IntKind.wrap IntKind.i64 ((3 : Int) * v2)))
            (decide (y3 ≤ IntKind.wrap IntKind.i64 ((3 : Int) * v2))))
          σ
else J Ex.normal (f31e5 y0 y1 y2 y3 y0 (!Option.isNone y0) false false) σ := hide (by kernel_rfl)
theorem f31z11_f31e4 (y0 : Option (Nat × Nat)) (y1 : Int) (y2 : Int) (y3 : Int) (y4 : Option (Nat × Nat)) (y5 : Bool) (y6 : Bool) (y7 : Int) (y8 : Option (Nat × Nat)) (y9 : Option (Nat × Nat)) (y10 : Option (Nat × Nat)) (y11 : Int) (y12 : Int) (y13 : Bool) (y14 : Bool) : Ann.clr f31a11 (f31e4 y0 y1 y2 y3 y4 y5 y6 y7 y8 y9 y10 y11 y12 y13 y14) = f31e6 y0 y1 y2 y3 y14 := hide (by kernel_rfl)
theorem f31x14_f31e6 {R : Type} (call : Bool → CallF R) (dem : Bool) (N : Nat) (y0 : Option (Nat × Nat)) (y1 : Int) (y2 : Int) (y3 : Int) (y4 : Bool) (J : KF R) (σ : St) : runK Try.prog call dem N f31c14 f31a14 J (f31e6 y0 y1 y2 y3 y4) σ = if y4 = true then runK Try.prog call dem N f31c15 f31a15 (condC f31a14 J) (f31e6 y0 y1 y2 y3 y4) σ else runK Try.prog call dem N f31c16 f31a16 (condC f31a14 J) (f31e6 y0 y1 y2 y3 y4) σ := runK_cond' (o := Operand.tmp (17 : Nat)) (by kernel_rfl) (by kernel_rfl) (by kernel_rfl) (by kernel_rfl)
theorem f31n15 {R : Type} (call : Bool → CallF R) (dem : Bool) (N : Nat) (J : KF R) (e : Env) (σ : St) : runK Try.prog call dem N f31c15 f31a15 J e σ = J .normal e σ := runK_skip' (by kernel_rfl)
theorem f31z14_f31e6 (y0 : Option (Nat × Nat)) (y1 : Int) (y2 : Int) (y3 : Int) (y4 : Bool) : Ann.clr f31a14 (f31e6 y0 y1 y2 y3 y4) = f31e3 y0 y1 y2 y3 := hide (by kernel_rfl)
theorem f31y16_f31e6 {R : Type} (call : Bool → CallF R) (dem : Bool) (N : Nat) (y0 : Option (Nat × Nat)) (y1 : Int) (y2 : Int) (y3 : Int) (y4 : Bool) (J : KF R) (σ : St) : runK Try.prog call dem N f31c16 f31a16 J (f31e6 y0 y1 y2 y3 y4) σ = J (.exit 0) (f31e7 y2) σ := runK_exit' (by kernel_rfl) (by kernel_rfl)
theorem f31z11_f31e5 (y0 : Option (Nat × Nat)) (y1 : Int) (y2 : Int) (y3 : Int) (y4 : Option (Nat × Nat)) (y5 : Bool) (y6 : Bool) (y7 : Bool) : Ann.clr f31a11 (f31e5 y0 y1 y2 y3 y4 y5 y6 y7) = f31e6 y0 y1 y2 y3 y7 := hide (by kernel_rfl)
theorem f31z10_f31e3 (y0 : Option (Nat × Nat)) (y1 : Int) (y2 : Int) (y3 : Int) : Ann.clr f31a10 (f31e3 y0 y1 y2 y3) = f31e3 y0 y1 y2 y3 := hide (by kernel_rfl)
theorem f31n12 {R : Type} (call : Bool → CallF R) (dem : Bool) (N : Nat) (J : KF R) (e : Env) (σ : St) : runK Try.prog call dem N f31c12 f31a12 J e σ = runK Try.prog call dem N f31c17 f31a17 (seqC (fun K e σ => runK Try.prog call dem N f31c18 f31a18 K e σ) f31a12 J) e σ := runK_seq' (by kernel_rfl) (by kernel_rfl) (by kernel_rfl)
theorem f31n17 {R : Type} (call : Bool → CallF R) (dem : Bool) (N : Nat) (J : KF R) (e : Env) (σ : St) : runK Try.prog call dem N f31c17 f31a17 J e σ = runK Try.prog call dem N f31c19 f31a19 (blockC 1 f31a17 J) e σ := runK_block' (by kernel_rfl) (by kernel_rfl)
theorem f31n19 {R : Type} (call : Bool → CallF R) (dem : Bool) (N : Nat) (J : KF R) (e : Env) (σ : St) : runK Try.prog call dem N f31c19 f31a19 J e σ = runK Try.prog call dem N f31c20 f31a20 (seqC (fun K e σ => runK Try.prog call dem N f31c21 f31a21 K e σ) f31a19 J) e σ := runK_seq' (by kernel_rfl) (by kernel_rfl) (by kernel_rfl)
theorem f31r20_f31e3 {R : Type} (call : Bool → CallF R) (dem : Bool) (N : Nat) (y0 : Option (Nat × Nat)) (y1 : Int) (y2 : Int) (y3 : Int) (J : KF R) (σ : St) :
    runK Try.prog call dem N f31c20 f31a20 J (f31e3 y0 y1 y2 y3) σ =
call dem (48 : Nat) [AV.ptr y0, AV.int IntKind.i64 y1, AV.int IntKind.i64 y3] σ fun v0 v1 =>
  Option.bind (AV.toAgg v0) fun v2 =>
    if List.length v2 = (3 : Nat) then
      Option.bind (List.head? v2) fun v3 =>
        Option.bind (AV.toBool v3) fun v4 =>
          Option.bind (List.head? (List.tail v2)) fun v5 =>
            Option.bind (AV.toStr v5) fun v6 =>
              Option.bind (List.head? (List.tail (List.tail v2))) fun v7 =>
                Option.bind (AV.toStr v7) fun v8 => J Ex.normal (f31e8 y0 y1 y2 y3 y0 y1 y3 v4 v6 v8 v4) v1
    else none := hide (by kernel_rfl)
theorem f31z19_f31e8 (y0 : Option (Nat × Nat)) (y1 : Int) (y2 : Int) (y3 : Int) (y4 : Option (Nat × Nat)) (y5 : Int) (y6 : Int) (y7 : Bool) (y8 : ByteArray) (y9 : ByteArray) (y10 : Bool) : Ann.clr f31a19 (f31e8 y0 y1 y2 y3 y4 y5 y6 y7 y8 y9 y10) = f31e9 y0 y1 y2 y3 y10 := hide (by kernel_rfl)
theorem f31x21_f31e9 {R : Type} (call : Bool → CallF R) (dem : Bool) (N : Nat) (y0 : Option (Nat × Nat)) (y1 : Int) (y2 : Int) (y3 : Int) (y4 : Bool) (J : KF R) (σ : St) : runK Try.prog call dem N f31c21 f31a21 J (f31e9 y0 y1 y2 y3 y4) σ = if y4 = true then runK Try.prog call dem N f31c22 f31a22 (condC f31a21 J) (f31e9 y0 y1 y2 y3 y4) σ else runK Try.prog call dem N f31c23 f31a23 (condC f31a21 J) (f31e9 y0 y1 y2 y3 y4) σ := runK_cond' (o := Operand.tmp (24 : Nat)) (by kernel_rfl) (by kernel_rfl) (by kernel_rfl) (by kernel_rfl)
theorem f31r22_f31e9 {R : Type} (call : Bool → CallF R) (dem : Bool) (N : Nat) (y0 : Option (Nat × Nat)) (y1 : Int) (y2 : Int) (y3 : Int) (y4 : Bool) (J : KF R) (σ : St) :
    runK Try.prog call dem N f31c22 f31a22 J (f31e9 y0 y1 y2 y3 y4) σ =
J Ex.normal (f31e10 y0 y1 (IntKind.wrap IntKind.i64 (y2 + (1 : Int))) y3 y4 y2 (IntKind.wrap IntKind.i64 (y2 + (1 : Int)))) σ := hide (by kernel_rfl)
theorem f31z21_f31e10 (y0 : Option (Nat × Nat)) (y1 : Int) (y2 : Int) (y3 : Int) (y4 : Bool) (y5 : Int) (y6 : Int) : Ann.clr f31a21 (f31e10 y0 y1 y2 y3 y4 y5 y6) = f31e3 y0 y1 y2 y3 := hide (by kernel_rfl)
theorem f31n23 {R : Type} (call : Bool → CallF R) (dem : Bool) (N : Nat) (J : KF R) (e : Env) (σ : St) : runK Try.prog call dem N f31c23 f31a23 J e σ = J .normal e σ := runK_skip' (by kernel_rfl)
theorem f31z21_f31e9 (y0 : Option (Nat × Nat)) (y1 : Int) (y2 : Int) (y3 : Int) (y4 : Bool) : Ann.clr f31a21 (f31e9 y0 y1 y2 y3 y4) = f31e3 y0 y1 y2 y3 := hide (by kernel_rfl)
theorem f31z17_f31e3 (y0 : Option (Nat × Nat)) (y1 : Int) (y2 : Int) (y3 : Int) : Ann.clr f31a17 (f31e3 y0 y1 y2 y3) = f31e3 y0 y1 y2 y3 := hide (by kernel_rfl)
theorem f31z12_f31e3 (y0 : Option (Nat × Nat)) (y1 : Int) (y2 : Int) (y3 : Int) : Ann.clr f31a12 (f31e3 y0 y1 y2 y3) = f31e3 y0 y1 y2 y3 := hide (by kernel_rfl)
theorem f31r18_f31e3 {R : Type} (call : Bool → CallF R) (dem : Bool) (N : Nat) (y0 : Option (Nat × Nat)) (y1 : Int) (y2 : Int) (y3 : Int) (J : KF R) (σ : St) :
    runK Try.prog call dem N f31c18 f31a18 J (f31e3 y0 y1 y2 y3) σ =
J Ex.normal (f31e11 y0 y1 y2 (IntKind.wrap IntKind.i64 (y3 + (1 : Int))) y3 (IntKind.wrap IntKind.i64 (y3 + (1 : Int)))) σ := hide (by kernel_rfl)
theorem f31z9_f31e11 (y0 : Option (Nat × Nat)) (y1 : Int) (y2 : Int) (y3 : Int) (y4 : Int) (y5 : Int) : Ann.clr f31a9 (f31e11 y0 y1 y2 y3 y4 y5) = f31e3 y0 y1 y2 y3 := hide (by kernel_rfl)
theorem f31z8_f31e7 (y0 : Int) : Ann.clr f31a8 (f31e7 y0) = f31e7 y0 := hide (by kernel_rfl)
theorem f31z4_f31e7 (y0 : Int) : Ann.clr f31a4 (f31e7 y0) = f31e7 y0 := hide (by kernel_rfl)
theorem f31n6 {R : Type} (call : Bool → CallF R) (dem : Bool) (N : Nat) (J : KF R) (e : Env) (σ : St) : runK Try.prog call dem N f31c6 f31a6 J e σ = runK Try.prog call dem N f31c24 f31a24 (seqC (fun K e σ => runK Try.prog call dem N f31c25 f31a25 K e σ) f31a6 J) e σ := runK_seq' (by kernel_rfl) (by kernel_rfl) (by kernel_rfl)
theorem f31r24_f31e7 {R : Type} (call : Bool → CallF R) (dem : Bool) (N : Nat) (y0 : Int) (J : KF R) (σ : St) :
    runK Try.prog call dem N f31c24 f31a24 J (f31e7 y0) σ =
J Ex.normal (f31e12 y0 y0 y0) σ := hide (by kernel_rfl)
theorem f31z6_f31e12 (y0 : Int) (y1 : Int) (y2 : Int) : Ann.clr f31a6 (f31e12 y0 y1 y2) = f31e13 y0 := hide (by kernel_rfl)
theorem f31y25_f31e13 {R : Type} (call : Bool → CallF R) (dem : Bool) (N : Nat) (y0 : Int) (J : KF R) (σ : St) : runK Try.prog call dem N f31c25 f31a25 J (f31e13 y0) σ = J .ret (f31e13 y0) σ := runK_ret' (by kernel_rfl) (by kernel_rfl)
theorem f31b_f31e13_r {R : Type} (y0 : Int) (σ : St) (K : AV → St → Option R) : bodyC Try.prog f31rs K (Ex.ret) (f31e13 y0) σ =
K (AV.int IntKind.i64 y0) σ := hide (by kernel_rfl)
attribute [go_sem] f31_eq f31n0 f31r1_f31e0 f31z0_f31e1 f31n2 f31r3_f31e0 f31z2_f31e2 f31n4 f31n5 f31r7_f31e2 f31z5_f31e3 f31n8 f31L9_eq f31z9_f31e3 f31l9_f31e3 f31n10 f31n11 f31r13_f31e3 f31z11_f31e4 f31x14_f31e6 f31n15 f31z14_f31e6 f31y16_f31e6 f31z11_f31e5 f31z10_f31e3 f31n12 f31n17 f31n19 f31r20_f31e3 f31z19_f31e8 f31x21_f31e9 f31r22_f31e9 f31z21_f31e10 f31n23 f31z21_f31e9 f31z17_f31e3 f31z12_f31e3 f31r18_f31e3 f31z9_f31e11 f31z8_f31e7 f31z4_f31e7 f31n6 f31r24_f31e7 f31z6_f31e12 f31y25_f31e13 f31b_f31e13_r

noncomputable def f46rs : List ResultVar := [ResultVar.tmp (2 : Nat)]
noncomputable def f46c0 : Code := subCode [] (bodyOf Try.prog 46)
def f46a0 : Ann := subAnn [] ann46
noncomputable def f46c1 : Code := subCode [0] (bodyOf Try.prog 46)
def f46a1 : Ann := subAnn [0] ann46
noncomputable def f46c2 : Code := subCode [1] (bodyOf Try.prog 46)
def f46a2 : Ann := subAnn [1] ann46
noncomputable def f46c3 : Code := subCode [1, 0] (bodyOf Try.prog 46)
def f46a3 : Ann := subAnn [1, 0] ann46
noncomputable def f46c4 : Code := subCode [1, 1] (bodyOf Try.prog 46)
def f46a4 : Ann := subAnn [1, 1] ann46
def f46e0 (y0 : Int) : Env := AV.int IntKind.i64 y0 :: Env.sp 8 []
def f46e1 (y0 : Int) (y1 : Bool) : Env := AV.int IntKind.i64 y0 :: Env.sp 1 (AV.bool y1 :: Env.sp 6 [])
def f46e2 (y0 : Int) (y1 : Bool) (y2 : Int) (y3 : Bool) (y4 : Bool) (y5 : Bool) : Env := AV.int IntKind.i64 y0 :: Env.sp 1 (AV.bool y1 :: AV.int IntKind.i64 y2 :: AV.bool y3 :: AV.bool y4 :: AV.tuple [] :: AV.tuple [] :: AV.bool y5 :: [])
def f46e3 (y0 : Int) (y1 : Bool) (y2 : Int) (y3 : Bool) (y4 : Bool) (y5 : Int) (y6 : Bool) (y7 : Bool) : Env := AV.int IntKind.i64 y0 :: Env.sp 1 (AV.bool y1 :: AV.int IntKind.i64 y2 :: AV.bool y3 :: AV.bool y4 :: AV.int IntKind.i64 y5 :: AV.bool y6 :: AV.bool y7 :: [])
def f46e4 (y0 : Bool) : Env := Env.sp 2 (AV.bool y0 :: Env.sp 6 [])

/- function 46 -/
theorem f46_eq {R : Type} (call : Bool → CallF R) (dem : Bool) (N : Nat) (y0 : Int) (σ : St) (K : AV → St → Option R) :
    bodyK Try.prog call dem N ann 46 [AV.int IntKind.i64 y0] σ K = runK Try.prog call dem N f46c0 f46a0 (bodyC Try.prog f46rs K) (f46e0 y0) σ := bodyK_of (fn := ((Try.prog.funcs[46]?).get rfl)) (by kernel_rfl) (by kernel_rfl) (by kernel_rfl) (by kernel_rfl) (by kernel_rfl) (by kernel_rfl)
theorem f46n0 {R : Type} (call : Bool → CallF R) (dem : Bool) (N : Nat) (J : KF R) (e : Env) (σ : St) : runK Try.prog call dem N f46c0 f46a0 J e σ = runK Try.prog call dem N f46c1 f46a1 (seqC (fun K e σ => runK Try.prog call dem N f46c2 f46a2 K e σ) f46a0 J) e σ := runK_seq' (by kernel_rfl) (by kernel_rfl) (by kernel_rfl)
theorem f46r1_f46e0 {R : Type} (call : Bool → CallF R) (dem : Bool) (N : Nat) (y0 : Int) (J : KF R) (σ : St) :
    runK Try.prog call dem N f46c1 f46a1 J (f46e0 y0) σ =
J Ex.normal (f46e1 y0 false) σ := hide (by kernel_rfl)
theorem f46z0_f46e1 (y0 : Int) (y1 : Bool) : Ann.clr f46a0 (f46e1 y0 y1) = f46e0 y0 := hide (by kernel_rfl)
theorem f46n2 {R : Type} (call : Bool → CallF R) (dem : Bool) (N : Nat) (J : KF R) (e : Env) (σ : St) : runK Try.prog call dem N f46c2 f46a2 J e σ = runK Try.prog call dem N f46c3 f46a3 (seqC (fun K e σ => runK Try.prog call dem N f46c4 f46a4 K e σ) f46a2 J) e σ := runK_seq' (by kernel_rfl) (by kernel_rfl) (by kernel_rfl)
theorem f46r3_f46e0 {R : Type} (call : Bool → CallF R) (dem : Bool) (N : Nat) (y0 : Int) (J : KF R) (σ : St) :
    runK Try.prog call dem N f46c3 f46a3 J (f46e0 y0) σ =
if (y0 == (1 : Int)) = true then J Ex.normal (f46e2 y0 true y0 (y0 == (1 : Int)) true true) σ
else J Ex.normal (f46e3 y0 (y0 == (2 : Int)) y0 (y0 == (1 : Int)) false y0 (y0 == (2 : Int)) (y0 == (2 : Int))) σ := hide (by kernel_rfl)
theorem f46z2_f46e2 (y0 : Int) (y1 : Bool) (y2 : Int) (y3 : Bool) (y4 : Bool) (y5 : Bool) : Ann.clr f46a2 (f46e2 y0 y1 y2 y3 y4 y5) = f46e4 y1 := hide (by kernel_rfl)
theorem f46y4_f46e4 {R : Type} (call : Bool → CallF R) (dem : Bool) (N : Nat) (y0 : Bool) (J : KF R) (σ : St) : runK Try.prog call dem N f46c4 f46a4 J (f46e4 y0) σ = J .ret (f46e4 y0) σ := runK_ret' (by kernel_rfl) (by kernel_rfl)
theorem f46z2_f46e3 (y0 : Int) (y1 : Bool) (y2 : Int) (y3 : Bool) (y4 : Bool) (y5 : Int) (y6 : Bool) (y7 : Bool) : Ann.clr f46a2 (f46e3 y0 y1 y2 y3 y4 y5 y6 y7) = f46e4 y1 := hide (by kernel_rfl)
theorem f46b_f46e4_r {R : Type} (y0 : Bool) (σ : St) (K : AV → St → Option R) : bodyC Try.prog f46rs K (Ex.ret) (f46e4 y0) σ =
K (AV.bool y0) σ := hide (by kernel_rfl)
attribute [go_sem] f46_eq f46n0 f46r1_f46e0 f46z0_f46e1 f46n2 f46r3_f46e0 f46z2_f46e2 f46y4_f46e4 f46z2_f46e3 f46b_f46e4_r

noncomputable def f48rs : List ResultVar := [ResultVar.cell (6 : Nat) (116 : Nat)]
noncomputable def f48c0 : Code := subCode [] (bodyOf Try.prog 48)
def f48a0 : Ann := subAnn [] ann48
noncomputable def f48c1 : Code := subCode [0] (bodyOf Try.prog 48)
def f48a1 : Ann := subAnn [0] ann48
noncomputable def f48c2 : Code := subCode [1] (bodyOf Try.prog 48)
def f48a2 : Ann := subAnn [1] ann48
noncomputable def f48c3 : Code := subCode [1, 0] (bodyOf Try.prog 48)
def f48a3 : Ann := subAnn [1, 0] ann48
noncomputable def f48c4 : Code := subCode [1, 1] (bodyOf Try.prog 48)
def f48a4 : Ann := subAnn [1, 1] ann48
noncomputable def f48c5 : Code := subCode [1, 0, 0] (bodyOf Try.prog 48)
def f48a5 : Ann := subAnn [1, 0, 0] ann48
noncomputable def f48c6 : Code := subCode [1, 0, 1] (bodyOf Try.prog 48)
def f48a6 : Ann := subAnn [1, 0, 1] ann48
noncomputable def f48c7 : Code := subCode [1, 0, 1, 0] (bodyOf Try.prog 48)
def f48a7 : Ann := subAnn [1, 0, 1, 0] ann48
noncomputable def f48c8 : Code := subCode [1, 0, 1, 1] (bodyOf Try.prog 48)
def f48a8 : Ann := subAnn [1, 0, 1, 1] ann48
noncomputable def f48c9 : Code := subCode [1, 0, 1, 0, 0] (bodyOf Try.prog 48)
def f48a9 : Ann := subAnn [1, 0, 1, 0, 0] ann48
noncomputable def f48c10 : Code := subCode [1, 0, 1, 0, 1] (bodyOf Try.prog 48)
def f48a10 : Ann := subAnn [1, 0, 1, 0, 1] ann48
noncomputable def f48c11 : Code := subCode [1, 1, 0] (bodyOf Try.prog 48)
def f48a11 : Ann := subAnn [1, 1, 0] ann48
noncomputable def f48c12 : Code := subCode [1, 1, 1] (bodyOf Try.prog 48)
def f48a12 : Ann := subAnn [1, 1, 1] ann48
def f48e0 (y0 : Option (Nat × Nat)) (y1 : Int) (y2 : Int) : Env := AV.ptr y0 :: AV.int IntKind.i64 y1 :: AV.int IntKind.i64 y2 :: Env.sp 36 []
def f48e1 (y0 : Option (Nat × Nat)) (y1 : Int) (y2 : Int) (y3 : Nat) : Env := AV.ptr y0 :: AV.int IntKind.i64 y1 :: AV.int IntKind.i64 y2 :: Env.sp 3 (AV.ptr (some (y3, (0 : Nat))) :: Env.sp 32 [])
def f48e2 (y0 : Option (Nat × Nat)) (y1 : Int) (y2 : Int) (y3 : Nat) (y4 : Option (Nat × Nat)) (y5 : Bool) (y6 : Bool) (y7 : Bool) (y8 : Bool) (y9 : Bool) (y10 : Bool) (y11 : Bool) : Env := AV.ptr y0 :: AV.int IntKind.i64 y1 :: AV.int IntKind.i64 y2 :: Env.sp 3 (AV.ptr (some (y3, (0 : Nat))) :: AV.ptr y4 :: AV.bool y5 :: AV.bool y6 :: AV.tuple [] :: AV.tuple [] :: AV.tuple [] :: AV.bool y7 :: AV.bool y8 :: AV.tuple [] :: AV.tuple [] :: AV.bool y9 :: AV.bool y10 :: AV.tuple [] :: AV.tuple [] :: AV.tuple [] :: AV.tuple [] :: AV.tuple [] :: AV.tuple [] :: AV.tuple [] :: AV.tuple [] :: AV.tuple [] :: AV.bool y11 :: Env.sp 10 [])
def f48e3 (y0 : Option (Nat × Nat)) (y1 : Int) (y2 : Int) (y3 : Nat) (y4 : Option (Nat × Nat)) (y5 : Bool) (y6 : Bool) (y7 : Int) (y8 : Bool) (y9 : Bool) (y10 : Bool) (y11 : Bool) (y12 : Bool) (y13 : Bool) (y14 : Bool) : Env := AV.ptr y0 :: AV.int IntKind.i64 y1 :: AV.int IntKind.i64 y2 :: Env.sp 3 (AV.ptr (some (y3, (0 : Nat))) :: AV.ptr y4 :: AV.bool y5 :: AV.bool y6 :: AV.int IntKind.i64 y7 :: AV.bool y8 :: AV.bool y9 :: AV.bool y10 :: AV.bool y11 :: AV.tuple [] :: AV.tuple [] :: AV.bool y12 :: AV.bool y13 :: AV.tuple [] :: AV.tuple [] :: AV.tuple [] :: AV.tuple [] :: AV.tuple [] :: AV.tuple [] :: AV.tuple [] :: AV.tuple [] :: AV.tuple [] :: AV.bool y14 :: Env.sp 10 [])
def f48e4 (y0 : Option (Nat × Nat)) (y1 : Int) (y2 : Int) (y3 : Nat) (y4 : Option (Nat × Nat)) (y5 : Bool) (y6 : Bool) (y7 : Int) (y8 : Bool) (y9 : Bool) (y10 : Bool) (y11 : Bool) (y12 : Int) (y13 : Bool) (y14 : Bool) (y15 : Bool) (y16 : Bool) : Env := AV.ptr y0 :: AV.int IntKind.i64 y1 :: AV.int IntKind.i64 y2 :: Env.sp 3 (AV.ptr (some (y3, (0 : Nat))) :: AV.ptr y4 :: AV.bool y5 :: AV.bool y6 :: AV.int IntKind.i64 y7 :: AV.bool y8 :: AV.bool y9 :: AV.bool y10 :: AV.bool y11 :: AV.int IntKind.i64 y12 :: AV.bool y13 :: AV.bool y14 :: AV.bool y15 :: AV.tuple [] :: AV.tuple [] :: AV.tuple [] :: AV.tuple [] :: AV.tuple [] :: AV.tuple [] :: AV.tuple [] :: AV.tuple [] :: AV.tuple [] :: AV.bool y16 :: Env.sp 10 [])
def f48e5 (y0 : Option (Nat × Nat)) (y1 : Int) (y2 : Int) (y3 : Nat) (y4 : Option (Nat × Nat)) (y5 : Bool) (y6 : Bool) (y7 : Int) (y8 : Bool) (y9 : Bool) (y10 : Bool) (y11 : Bool) (y12 : Int) (y13 : Bool) (y14 : Bool) (y15 : Bool) (y16 : Int) (y17 : Option (Nat × Nat)) (y18 : Int) (y19 : Option (Nat × Nat)) (y20 : Option (Nat × Nat)) (y21 : Option (Nat × Nat)) (y22 : Option (Nat × Nat)) (y23 : Nat) (y24 : Option Nat) (y25 : Int) (y26 : Bool) (y27 : Bool) : Env := AV.ptr y0 :: AV.int IntKind.i64 y1 :: AV.int IntKind.i64 y2 :: Env.sp 3 (AV.ptr (some (y3, (0 : Nat))) :: AV.ptr y4 :: AV.bool y5 :: AV.bool y6 :: AV.int IntKind.i64 y7 :: AV.bool y8 :: AV.bool y9 :: AV.bool y10 :: AV.bool y11 :: AV.int IntKind.i64 y12 :: AV.bool y13 :: AV.bool y14 :: AV.bool y15 :: AV.int IntKind.i64 y16 :: AV.ptr y17 :: AV.int IntKind.i64 y18 :: AV.ptr y19 :: AV.ptr y20 :: AV.ptr y21 :: AV.slice y22 y23 y24 (3 : Nat) :: AV.int IntKind.i64 y25 :: AV.bool y26 :: AV.bool y27 :: Env.sp 10 [])
def f48e6 (y0 : Option (Nat × Nat)) (y1 : Int) (y2 : Int) (y3 : Nat) (y4 : Bool) : Env := AV.ptr y0 :: AV.int IntKind.i64 y1 :: AV.int IntKind.i64 y2 :: Env.sp 3 (AV.ptr (some (y3, (0 : Nat))) :: Env.sp 21 (AV.bool y4 :: Env.sp 10 []))
def f48e7 (y0 : Option (Nat × Nat)) (y1 : Int) (y2 : Int) (y3 : Nat) (y4 : Bool) (y5 : Bool) (y6 : ByteArray) (y7 : ByteArray) : Env := AV.ptr y0 :: AV.int IntKind.i64 y1 :: AV.int IntKind.i64 y2 :: Env.sp 3 (AV.ptr (some (y3, (0 : Nat))) :: Env.sp 21 (AV.bool y4 :: AV.agg [AV.bool y5, AV.str y6, AV.str y7] :: Env.sp 9 []))
def f48e8 (y0 : Nat) : Env := Env.sp 6 (AV.ptr (some (y0, (0 : Nat))) :: Env.sp 32 [])
def f48e9 (y0 : Option (Nat × Nat)) (y1 : Int) (y2 : Int) (y3 : Nat) (y4 : Option (Nat × Nat)) (y5 : Int) (y6 : Option (Nat × Nat)) (y7 : Option (Nat × Nat)) (y8 : Option (Nat × Nat)) (y9 : Option (Nat × Nat)) (y10 : Nat) (y11 : Option Nat) (y12 : Int) (y13 : Option (Nat × Nat)) (y14 : Bool) (y15 : ByteArray) (y16 : ByteArray) : Env := AV.ptr y0 :: AV.int IntKind.i64 y1 :: AV.int IntKind.i64 y2 :: Env.sp 3 (AV.ptr (some (y3, (0 : Nat))) :: Env.sp 23 (AV.ptr y4 :: AV.int IntKind.i64 y5 :: AV.ptr y6 :: AV.ptr y7 :: AV.ptr y8 :: AV.slice y9 y10 y11 (3 : Nat) :: AV.int IntKind.i64 y12 :: AV.ptr y13 :: AV.agg [AV.bool y14, AV.str y15, AV.str y16] :: []))

/- function 48 -/
theorem f48_eq {R : Type} (call : Bool → CallF R) (dem : Bool) (N : Nat) (y0 : Option (Nat × Nat)) (y1 : Int) (y2 : Int) (σ : St) (K : AV → St → Option R) :
    bodyK Try.prog call dem N ann 48 [AV.ptr y0, AV.int IntKind.i64 y1, AV.int IntKind.i64 y2] σ K = runK Try.prog call dem N f48c0 f48a0 (bodyC Try.prog f48rs K) (f48e0 y0 y1 y2) σ := bodyK_of (fn := ((Try.prog.funcs[48]?).get rfl)) (by kernel_rfl) (by kernel_rfl) (by kernel_rfl) (by kernel_rfl) (by kernel_rfl) (by kernel_rfl)
theorem f48n0 {R : Type} (call : Bool → CallF R) (dem : Bool) (N : Nat) (J : KF R) (e : Env) (σ : St) : runK Try.prog call dem N f48c0 f48a0 J e σ = runK Try.prog call dem N f48c1 f48a1 (seqC (fun K e σ => runK Try.prog call dem N f48c2 f48a2 K e σ) f48a0 J) e σ := runK_seq' (by kernel_rfl) (by kernel_rfl) (by kernel_rfl)
theorem f48r1_f48e0 {R : Type} (call : Bool → CallF R) (dem : Bool) (N : Nat) (y0 : Option (Nat × Nat)) (y1 : Int) (y2 : Int) (J : KF R) (σ : St) :
    runK Try.prog call dem N f48c1 f48a1 J (f48e0 y0 y1 y2) σ =
J Ex.normal (f48e1 y0 y1 y2 (St.next σ)) (St.new σ (Blk.cells [AV.bool false, AV.str (ByteArray.mk #[]), AV.str (ByteArray.mk #[])] true)) := hide (by kernel_rfl)
theorem f48z0_f48e1 (y0 : Option (Nat × Nat)) (y1 : Int) (y2 : Int) (y3 : Nat) : Ann.clr f48a0 (f48e1 y0 y1 y2 y3) = f48e1 y0 y1 y2 y3 := hide (by kernel_rfl)
theorem f48n2 {R : Type} (call : Bool → CallF R) (dem : Bool) (N : Nat) (J : KF R) (e : Env) (σ : St) : runK Try.prog call dem N f48c2 f48a2 J e σ = runK Try.prog call dem N f48c3 f48a3 (seqC (fun K e σ => runK Try.prog call dem N f48c4 f48a4 K e σ) f48a2 J) e σ := runK_seq' (by kernel_rfl) (by kernel_rfl) (by kernel_rfl)
theorem f48n3 {R : Type} (call : Bool → CallF R) (dem : Bool) (N : Nat) (J : KF R) (e : Env) (σ : St) : runK Try.prog call dem N f48c3 f48a3 J e σ = runK Try.prog call dem N f48c5 f48a5 (seqC (fun K e σ => runK Try.prog call dem N f48c6 f48a6 K e σ) f48a3 J) e σ := runK_seq' (by kernel_rfl) (by kernel_rfl) (by kernel_rfl)
theorem f48r5_f48e1 {R : Type} (call : Bool → CallF R) (dem : Bool) (N : Nat) (y0 : Option (Nat × Nat)) (y1 : Int) (y2 : Int) (y3 : Nat) (J : KF R) (σ : St) :
    runK Try.prog call dem N f48c5 f48a5 J (f48e1 y0 y1 y2 y3) σ =
if Option.isNone y0 = true then J Ex.normal (f48e2 y0 y1 y2 y3 y0 (Option.isNone y0) true true true true true true) σ
else
  call dem (46 : Nat) [AV.int IntKind.i64 y1] σ fun v0 v1 =>
    Option.bind (AV.toBool v0) fun v2 =>
      if (!v2) = true then J Ex.normal (f48e3 y0 y1 y2 y3 y0 (Option.isNone y0) false y1 v2 (!v2) (!v2) true true true true) v1
      else
        if decide (y2 < (0 : Int)) = true then
          J Ex.normal
            (f48e4 y0 y1 y2 y3 y0 (Option.isNone y0) false y1 v2 (!v2) (!v2) false y2 (decide (y2 < (0 : Int))) (decide (y2 < (0 : Int))) true true)
            v1
        else
          Option.bind y0 fun v3 =>
            if (0 : Nat) < (1 : Nat) ∧ (0 : Int) ≤ y1 ∧ y1 < (3 : Int) then
              Option.bind (St.ld v1 (Prod.fst v3) (Prod.snd v3 + (3 : Nat) + Int.toNat y1 * (1 : Nat))) fun v4 =>
                Option.bind (AV.toSl (3 : Nat) v4) fun v5 =>
                  J Ex.normal
                    (f48e5 y0 y1 y2 y3 y0 (Option.isNone y0) false y1 v2 (!v2) (!v2) false y2 (decide (y2 < (0 : Int))) (decide (y2 < (0 : Int)))
                      false y2 y0 y1 (some v3) (some (Prod.fst v3, Prod.snd v3 + (3 : Nat)))
                      (some (Prod.fst v3, Prod.snd v3 + (3 : Nat) + Int.toNat y1 * (1 : Nat))) (Sl.o v5) (Sl.len v5) (Sl.cap v5) (↑(Sl.len v5) : Int)
                      (decide (y2 ≥ (↑(Sl.len v5) : Int))) (decide (y2 ≥ (↑(Sl.len v5) : Int))))
                    v1
            else none := hide (by kernel_rfl)
theorem f48z3_f48e2 (y0 : Option (Nat × Nat)) (y1 : Int) (y2 : Int) (y3 : Nat) (y4 : Option (Nat × Nat)) (y5 : Bool) (y6 : Bool) (y7 : Bool) (y8 : Bool) (y9 : Bool) (y10 : Bool) (y11 : Bool) : Ann.clr f48a3 (f48e2 y0 y1 y2 y3 y4 y5 y6 y7 y8 y9 y10 y11) = f48e6 y0 y1 y2 y3 y11 := hide (by kernel_rfl)
theorem f48x6_f48e6 {R : Type} (call : Bool → CallF R) (dem : Bool) (N : Nat) (y0 : Option (Nat × Nat)) (y1 : Int) (y2 : Int) (y3 : Nat) (y4 : Bool) (J : KF R) (σ : St) : runK Try.prog call dem N f48c6 f48a6 J (f48e6 y0 y1 y2 y3 y4) σ = if y4 = true then runK Try.prog call dem N f48c7 f48a7 (condC f48a6 J) (f48e6 y0 y1 y2 y3 y4) σ else runK Try.prog call dem N f48c8 f48a8 (condC f48a6 J) (f48e6 y0 y1 y2 y3 y4) σ := runK_cond' (o := Operand.tmp (28 : Nat)) (by kernel_rfl) (by kernel_rfl) (by kernel_rfl) (by kernel_rfl)
theorem f48n7 {R : Type} (call : Bool → CallF R) (dem : Bool) (N : Nat) (J : KF R) (e : Env) (σ : St) : runK Try.prog call dem N f48c7 f48a7 J e σ = runK Try.prog call dem N f48c9 f48a9 (seqC (fun K e σ => runK Try.prog call dem N f48c10 f48a10 K e σ) f48a7 J) e σ := runK_seq' (by kernel_rfl) (by kernel_rfl) (by kernel_rfl)
theorem f48r9_f48e6 {R : Type} (call : Bool → CallF R) (dem : Bool) (N : Nat) (y0 : Option (Nat × Nat)) (y1 : Int) (y2 : Int) (y3 : Nat) (y4 : Bool) (J : KF R) (σ : St) :
    runK Try.prog call dem N f48c9 f48a9 J (f48e6 y0 y1 y2 y3 y4) σ =
Option.bind (St.st σ y3 (0 : Nat) [AV.bool false, AV.str (ByteArray.mk #[]), AV.str (ByteArray.mk #[])]) fun v0 =>
  J Ex.normal (f48e7 y0 y1 y2 y3 y4 false (ByteArray.mk #[]) (ByteArray.mk #[])) v0 := hide (by kernel_rfl)
theorem f48z7_f48e7 (y0 : Option (Nat × Nat)) (y1 : Int) (y2 : Int) (y3 : Nat) (y4 : Bool) (y5 : Bool) (y6 : ByteArray) (y7 : ByteArray) : Ann.clr f48a7 (f48e7 y0 y1 y2 y3 y4 y5 y6 y7) = f48e8 y3 := hide (by kernel_rfl)
theorem f48y10_f48e8 {R : Type} (call : Bool → CallF R) (dem : Bool) (N : Nat) (y0 : Nat) (J : KF R) (σ : St) : runK Try.prog call dem N f48c10 f48a10 J (f48e8 y0) σ = J .ret (f48e8 y0) σ := runK_ret' (by kernel_rfl) (by kernel_rfl)
theorem f48n8 {R : Type} (call : Bool → CallF R) (dem : Bool) (N : Nat) (J : KF R) (e : Env) (σ : St) : runK Try.prog call dem N f48c8 f48a8 J e σ = J .normal e σ := runK_skip' (by kernel_rfl)
theorem f48z6_f48e6 (y0 : Option (Nat × Nat)) (y1 : Int) (y2 : Int) (y3 : Nat) (y4 : Bool) : Ann.clr f48a6 (f48e6 y0 y1 y2 y3 y4) = f48e1 y0 y1 y2 y3 := hide (by kernel_rfl)
theorem f48z3_f48e3 (y0 : Option (Nat × Nat)) (y1 : Int) (y2 : Int) (y3 : Nat) (y4 : Option (Nat × Nat)) (y5 : Bool) (y6 : Bool) (y7 : Int) (y8 : Bool) (y9 : Bool) (y10 : Bool) (y11 : Bool) (y12 : Bool) (y13 : Bool) (y14 : Bool) : Ann.clr f48a3 (f48e3 y0 y1 y2 y3 y4 y5 y6 y7 y8 y9 y10 y11 y12 y13 y14) = f48e6 y0 y1 y2 y3 y14 := hide (by kernel_rfl)
theorem f48z3_f48e4 (y0 : Option (Nat × Nat)) (y1 : Int) (y2 : Int) (y3 : Nat) (y4 : Option (Nat × Nat)) (y5 : Bool) (y6 : Bool) (y7 : Int) (y8 : Bool) (y9 : Bool) (y10 : Bool) (y11 : Bool) (y12 : Int) (y13 : Bool) (y14 : Bool) (y15 : Bool) (y16 : Bool) : Ann.clr f48a3 (f48e4 y0 y1 y2 y3 y4 y5 y6 y7 y8 y9 y10 y11 y12 y13 y14 y15 y16) = f48e6 y0 y1 y2 y3 y16 := hide (by kernel_rfl)
theorem f48z3_f48e5 (y0 : Option (Nat × Nat)) (y1 : Int) (y2 : Int) (y3 : Nat) (y4 : Option (Nat × Nat)) (y5 : Bool) (y6 : Bool) (y7 : Int) (y8 : Bool) (y9 : Bool) (y10 : Bool) (y11 : Bool) (y12 : Int) (y13 : Bool) (y14 : Bool) (y15 : Bool) (y16 : Int) (y17 : Option (Nat × Nat)) (y18 : Int) (y19 : Option (Nat × Nat)) (y20 : Option (Nat × Nat)) (y21 : Option (Nat × Nat)) (y22 : Option (Nat × Nat)) (y23 : Nat) (y24 : Option Nat) (y25 : Int) (y26 : Bool) (y27 : Bool) : Ann.clr f48a3 (f48e5 y0 y1 y2 y3 y4 y5 y6 y7 y8 y9 y10 y11 y12 y13 y14 y15 y16 y17 y18 y19 y20 y21 y22 y23 y24 y25 y26 y27) = f48e6 y0 y1 y2 y3 y27 := hide (by kernel_rfl)
theorem f48z2_f48e1 (y0 : Option (Nat × Nat)) (y1 : Int) (y2 : Int) (y3 : Nat) : Ann.clr f48a2 (f48e1 y0 y1 y2 y3) = f48e1 y0 y1 y2 y3 := hide (by kernel_rfl)
theorem f48n4 {R : Type} (call : Bool → CallF R) (dem : Bool) (N : Nat) (J : KF R) (e : Env) (σ : St) : runK Try.prog call dem N f48c4 f48a4 J e σ = runK Try.prog call dem N f48c11 f48a11 (seqC (fun K e σ => runK Try.prog call dem N f48c12 f48a12 K e σ) f48a4 J) e σ := runK_seq' (by kernel_rfl) (by kernel_rfl) (by kernel_rfl)
theorem f48r11_f48e1 {R : Type} (call : Bool → CallF R) (dem : Bool) (N : Nat) (y0 : Option (Nat × Nat)) (y1 : Int) (y2 : Int) (y3 : Nat) (J : KF R) (σ : St) :
    runK Try.prog call dem N f48c11 f48a11 J (f48e1 y0 y1 y2 y3) σ =
Option.bind y0 fun v0 =>
  if (0 : Nat) < (1 : Nat) ∧ (0 : Int) ≤ y1 ∧ y1 < (3 : Int) then
    Option.bind (St.ld σ (Prod.fst v0) (Prod.snd v0 + (3 : Nat) + Int.toNat y1 * (1 : Nat))) fun v1 =>
      Option.bind (AV.toSl (3 : Nat) v1) fun v2 =>
        if (0 : Int) ≤ y2 ∧ y2 < (↑(Sl.len v2) : Int) then
          Option.bind (Sl.o v2) fun v3 =>
            Option.bind (St.ld σ (Prod.fst v3) (Prod.snd v3 + Int.toNat y2 * (3 : Nat))) fun v4 =>
              Option.bind (AV.toBool v4) fun v5 =>
                Option.bind (St.ld σ (Prod.fst v3) (Prod.snd v3 + Int.toNat y2 * (3 : Nat) + (1 : Nat))) fun v6 =>
                  Option.bind (AV.toStr v6) fun v7 =>
                    Option.bind (St.ld σ (Prod.fst v3) (Prod.snd v3 + Int.toNat y2 * (3 : Nat) + (2 : Nat))) fun v8 =>
                      Option.bind (AV.toStr v8) fun v9 =>
                        Option.bind (St.st σ y3 (0 : Nat) [AV.bool v5, AV.str v7, AV.str v9]) fun v10 =>
                          J Ex.normal
                            (f48e9 y0 y1 y2 y3 y0 y1 (some v0) (some (Prod.fst v0, Prod.snd v0 + (3 : Nat)))
                              (some (Prod.fst v0, Prod.snd v0 + (3 : Nat) + Int.toNat y1 * (1 : Nat))) (Sl.o v2) (Sl.len v2) (Sl.cap v2) y2
                              (some (Prod.fst v3, Prod.snd v3 + Int.toNat y2 * (3 : Nat))) v5 v7 v9)
                            v10
        else none
  else none := hide (by kernel_rfl)
theorem f48z4_f48e9 (y0 : Option (Nat × Nat)) (y1 : Int) (y2 : Int) (y3 : Nat) (y4 : Option (Nat × Nat)) (y5 : Int) (y6 : Option (Nat × Nat)) (y7 : Option (Nat × Nat)) (y8 : Option (Nat × Nat)) (y9 : Option (Nat × Nat)) (y10 : Nat) (y11 : Option Nat) (y12 : Int) (y13 : Option (Nat × Nat)) (y14 : Bool) (y15 : ByteArray) (y16 : ByteArray) : Ann.clr f48a4 (f48e9 y0 y1 y2 y3 y4 y5 y6 y7 y8 y9 y10 y11 y12 y13 y14 y15 y16) = f48e8 y3 := hide (by kernel_rfl)
theorem f48y12_f48e8 {R : Type} (call : Bool → CallF R) (dem : Bool) (N : Nat) (y0 : Nat) (J : KF R) (σ : St) : runK Try.prog call dem N f48c12 f48a12 J (f48e8 y0) σ = J .ret (f48e8 y0) σ := runK_ret' (by kernel_rfl) (by kernel_rfl)
theorem f48b_f48e8_r {R : Type} (y0 : Nat) (σ : St) (K : AV → St → Option R) : bodyC Try.prog f48rs K (Ex.ret) (f48e8 y0) σ =
Option.bind (St.ld σ y0 (0 : Nat)) fun v0 =>
  Option.bind (AV.toBool v0) fun v1 =>
    Option.bind (St.ld σ y0 (1 : Nat)) fun v2 =>
      Option.bind (AV.toStr v2) fun v3 =>
        Option.bind (St.ld σ y0 (2 : Nat)) fun v4 => Option.bind (AV.toStr v4) fun v5 => K (AV.agg [AV.bool v1, AV.str v3, AV.str v5]) σ := hide (by kernel_rfl)
attribute [go_sem] f48_eq f48n0 f48r1_f48e0 f48z0_f48e1 f48n2 f48n3 f48r5_f48e1 f48z3_f48e2 f48x6_f48e6 f48n7 f48r9_f48e6 f48z7_f48e7 f48y10_f48e8 f48n8 f48z6_f48e6 f48z3_f48e3 f48z3_f48e4 f48z3_f48e5 f48z2_f48e1 f48n4 f48r11_f48e1 f48z4_f48e9 f48y12_f48e8 f48b_f48e8_r

end Go.Proofs.Ytmgacgonoodkfaa
