/- What the machine does with each piece of code, in plain text. PRINTED by a program of this workplace; Lean checks it. -/
import Derived.Test.YtciibgjmdgpgnaaBeAnn
import Derived.Test.YtciibgjmdgpgnaaProg
import Derived.KernelRfl
import Derived.Attr
namespace Go.Proofs.Ytciibgjmdgpgnaa
open Go.AM
set_option maxRecDepth 100000
set_option linter.unusedVariables false
noncomputable def f13rs : List ResultVar := [ResultVar.tmp (4 : Nat), ResultVar.tmp (5 : Nat)]
noncomputable def f13c0 : Code := subCode [] (bodyOf Try.prog 13)
def f13a0 : Ann := subAnn [] ann13
noncomputable def f13c1 : Code := subCode [0] (bodyOf Try.prog 13)
def f13a1 : Ann := subAnn [0] ann13
noncomputable def f13c2 : Code := subCode [1] (bodyOf Try.prog 13)
def f13a2 : Ann := subAnn [1] ann13
noncomputable def f13c3 : Code := subCode [1, 0] (bodyOf Try.prog 13)
def f13a3 : Ann := subAnn [1, 0] ann13
noncomputable def f13c4 : Code := subCode [1, 1] (bodyOf Try.prog 13)
def f13a4 : Ann := subAnn [1, 1] ann13
noncomputable def f13c5 : Code := subCode [1, 0, 0] (bodyOf Try.prog 13)
def f13a5 : Ann := subAnn [1, 0, 0] ann13
noncomputable def f13c6 : Code := subCode [1, 0, 0, 0] (bodyOf Try.prog 13)
def f13a6 : Ann := subAnn [1, 0, 0, 0] ann13
noncomputable def f13c7 : Code := subCode [1, 0, 0, 1] (bodyOf Try.prog 13)
def f13a7 : Ann := subAnn [1, 0, 0, 1] ann13
noncomputable def f13c8 : Code := subCode [1, 0, 0, 1, 0] (bodyOf Try.prog 13)
def f13a8 : Ann := subAnn [1, 0, 0, 1, 0] ann13
noncomputable def f13c9 : Code := subCode [1, 0, 0, 1, 1] (bodyOf Try.prog 13)
def f13a9 : Ann := subAnn [1, 0, 0, 1, 1] ann13
noncomputable def f13c10 : Code := subCode [1, 0, 0, 1, 0, 0] (bodyOf Try.prog 13)
def f13a10 : Ann := subAnn [1, 0, 0, 1, 0, 0] ann13
noncomputable def f13c11 : Code := subCode [1, 0, 0, 1, 0, 1] (bodyOf Try.prog 13)
def f13a11 : Ann := subAnn [1, 0, 0, 1, 0, 1] ann13
noncomputable def f13c12 : Code := subCode [1, 0, 0, 1, 1, 0] (bodyOf Try.prog 13)
def f13a12 : Ann := subAnn [1, 0, 0, 1, 1, 0] ann13
noncomputable def f13c13 : Code := subCode [1, 0, 0, 1, 1, 1] (bodyOf Try.prog 13)
def f13a13 : Ann := subAnn [1, 0, 0, 1, 1, 1] ann13
noncomputable def f13c14 : Code := subCode [1, 0, 0, 1, 1, 1, 0] (bodyOf Try.prog 13)
def f13a14 : Ann := subAnn [1, 0, 0, 1, 1, 1, 0] ann13
noncomputable def f13c15 : Code := subCode [1, 0, 0, 1, 1, 1, 1] (bodyOf Try.prog 13)
def f13a15 : Ann := subAnn [1, 0, 0, 1, 1, 1, 1] ann13
noncomputable def f13c16 : Code := subCode [1, 0, 0, 1, 1, 1, 0, 0] (bodyOf Try.prog 13)
def f13a16 : Ann := subAnn [1, 0, 0, 1, 1, 1, 0, 0] ann13
noncomputable def f13c17 : Code := subCode [1, 0, 0, 1, 1, 1, 0, 1] (bodyOf Try.prog 13)
def f13a17 : Ann := subAnn [1, 0, 0, 1, 1, 1, 0, 1] ann13
noncomputable def f13c18 : Code := subCode [1, 0, 0, 1, 1, 1, 1, 0] (bodyOf Try.prog 13)
def f13a18 : Ann := subAnn [1, 0, 0, 1, 1, 1, 1, 0] ann13
noncomputable def f13c19 : Code := subCode [1, 0, 0, 1, 1, 1, 1, 1] (bodyOf Try.prog 13)
def f13a19 : Ann := subAnn [1, 0, 0, 1, 1, 1, 1, 1] ann13
noncomputable def f13c20 : Code := subCode [1, 0, 0, 1, 1, 1, 1, 1, 0] (bodyOf Try.prog 13)
def f13a20 : Ann := subAnn [1, 0, 0, 1, 1, 1, 1, 1, 0] ann13
noncomputable def f13c21 : Code := subCode [1, 0, 0, 1, 1, 1, 1, 1, 1] (bodyOf Try.prog 13)
def f13a21 : Ann := subAnn [1, 0, 0, 1, 1, 1, 1, 1, 1] ann13
noncomputable def f13c22 : Code := subCode [1, 0, 0, 1, 1, 1, 1, 1, 0, 0] (bodyOf Try.prog 13)
def f13a22 : Ann := subAnn [1, 0, 0, 1, 1, 1, 1, 1, 0, 0] ann13
noncomputable def f13c23 : Code := subCode [1, 0, 0, 1, 1, 1, 1, 1, 0, 1] (bodyOf Try.prog 13)
def f13a23 : Ann := subAnn [1, 0, 0, 1, 1, 1, 1, 1, 0, 1] ann13
noncomputable def f13c24 : Code := subCode [1, 1, 0] (bodyOf Try.prog 13)
def f13a24 : Ann := subAnn [1, 1, 0] ann13
noncomputable def f13c25 : Code := subCode [1, 1, 1] (bodyOf Try.prog 13)
def f13a25 : Ann := subAnn [1, 1, 1] ann13
noncomputable def f13c26 : Code := subCode [1, 1, 1, 0] (bodyOf Try.prog 13)
def f13a26 : Ann := subAnn [1, 1, 1, 0] ann13
noncomputable def f13c27 : Code := subCode [1, 1, 1, 1] (bodyOf Try.prog 13)
def f13a27 : Ann := subAnn [1, 1, 1, 1] ann13
noncomputable def f13c28 : Code := subCode [1, 1, 1, 1, 0] (bodyOf Try.prog 13)
def f13a28 : Ann := subAnn [1, 1, 1, 1, 0] ann13
noncomputable def f13c29 : Code := subCode [1, 1, 1, 1, 1] (bodyOf Try.prog 13)
def f13a29 : Ann := subAnn [1, 1, 1, 1, 1] ann13
noncomputable def f13c30 : Code := subCode [1, 1, 1, 1, 0, 0] (bodyOf Try.prog 13)
def f13a30 : Ann := subAnn [1, 1, 1, 1, 0, 0] ann13
noncomputable def f13c31 : Code := subCode [1, 1, 1, 1, 0, 0, 0] (bodyOf Try.prog 13)
def f13a31 : Ann := subAnn [1, 1, 1, 1, 0, 0, 0] ann13
noncomputable def f13c32 : Code := subCode [1, 1, 1, 1, 0, 0, 0, 0] (bodyOf Try.prog 13)
def f13a32 : Ann := subAnn [1, 1, 1, 1, 0, 0, 0, 0] ann13
noncomputable def f13c33 : Code := subCode [1, 1, 1, 1, 0, 0, 0, 1] (bodyOf Try.prog 13)
def f13a33 : Ann := subAnn [1, 1, 1, 1, 0, 0, 0, 1] ann13
noncomputable def f13c34 : Code := subCode [1, 1, 1, 1, 0, 0, 0, 0, 0] (bodyOf Try.prog 13)
def f13a34 : Ann := subAnn [1, 1, 1, 1, 0, 0, 0, 0, 0] ann13
noncomputable def f13c35 : Code := subCode [1, 1, 1, 1, 0, 0, 0, 0, 1] (bodyOf Try.prog 13)
def f13a35 : Ann := subAnn [1, 1, 1, 1, 0, 0, 0, 0, 1] ann13
noncomputable def f13c36 : Code := subCode [1, 1, 1, 1, 0, 0, 0, 0, 1, 0] (bodyOf Try.prog 13)
def f13a36 : Ann := subAnn [1, 1, 1, 1, 0, 0, 0, 0, 1, 0] ann13
noncomputable def f13c37 : Code := subCode [1, 1, 1, 1, 0, 0, 0, 0, 1, 1] (bodyOf Try.prog 13)
def f13a37 : Ann := subAnn [1, 1, 1, 1, 0, 0, 0, 0, 1, 1] ann13
noncomputable def f13c38 : Code := subCode [1, 1, 1, 1, 0, 0, 0, 1, 0] (bodyOf Try.prog 13)
def f13a38 : Ann := subAnn [1, 1, 1, 1, 0, 0, 0, 1, 0] ann13
noncomputable def f13c39 : Code := subCode [1, 1, 1, 1, 0, 0, 0, 1, 0, 0] (bodyOf Try.prog 13)
def f13a39 : Ann := subAnn [1, 1, 1, 1, 0, 0, 0, 1, 0, 0] ann13
noncomputable def f13c40 : Code := subCode [1, 1, 1, 1, 0, 0, 0, 1, 0, 1] (bodyOf Try.prog 13)
def f13a40 : Ann := subAnn [1, 1, 1, 1, 0, 0, 0, 1, 0, 1] ann13
noncomputable def f13c41 : Code := subCode [1, 1, 1, 1, 0, 0, 0, 1, 0, 1, 0] (bodyOf Try.prog 13)
def f13a41 : Ann := subAnn [1, 1, 1, 1, 0, 0, 0, 1, 0, 1, 0] ann13
noncomputable def f13c42 : Code := subCode [1, 1, 1, 1, 0, 0, 0, 1, 0, 1, 1] (bodyOf Try.prog 13)
def f13a42 : Ann := subAnn [1, 1, 1, 1, 0, 0, 0, 1, 0, 1, 1] ann13
noncomputable def f13c43 : Code := subCode [1, 1, 1, 1, 1, 0] (bodyOf Try.prog 13)
def f13a43 : Ann := subAnn [1, 1, 1, 1, 1, 0] ann13
noncomputable def f13c44 : Code := subCode [1, 1, 1, 1, 1, 1] (bodyOf Try.prog 13)
def f13a44 : Ann := subAnn [1, 1, 1, 1, 1, 1] ann13
noncomputable def f13L30 {R : Type} (call : Bool → CallF R) (dem : Bool) (N : Nat) : KF R → Env → St → Option R := fun K e σ => runK Try.prog call dem N f13c31 f13a31 K e σ
def f13e0 (y0 : Option (Nat × Nat)) (y1 : Int) : Env := AV.ptr y0 :: AV.int IntKind.i64 y1 :: Env.sp 67 []
def f13e1 (y0 : Option (Nat × Nat)) (y1 : Int) (y2 : Option (Nat × Nat)) (y3 : Nat) (y4 : Option Nat) (y5 : Int) : Env := AV.ptr y0 :: AV.int IntKind.i64 y1 :: Env.sp 2 (AV.slice y2 y3 y4 (1 : Nat) :: AV.int IntKind.i64 y5 :: Env.sp 63 [])
def f13e2 (y0 : Option (Nat × Nat)) (y1 : Int) (y2 : Bool) (y3 : Int) (y4 : Bool) (y5 : Bool) (y6 : Bool) : Env := AV.ptr y0 :: AV.int IntKind.i64 y1 :: Env.sp 6 (AV.bool y2 :: AV.int IntKind.i64 y3 :: AV.bool y4 :: AV.bool y5 :: AV.tuple [] :: AV.tuple [] :: AV.bool y6 :: Env.sp 54 [])
def f13e3 (y0 : Option (Nat × Nat)) (y1 : Int) (y2 : Bool) (y3 : Int) (y4 : Bool) (y5 : Bool) (y6 : Int) (y7 : Bool) (y8 : Bool) : Env := AV.ptr y0 :: AV.int IntKind.i64 y1 :: Env.sp 6 (AV.bool y2 :: AV.int IntKind.i64 y3 :: AV.bool y4 :: AV.bool y5 :: AV.int IntKind.i64 y6 :: AV.bool y7 :: AV.bool y8 :: Env.sp 54 [])
def f13e4 (y0 : Option (Nat × Nat)) (y1 : Int) (y2 : Bool) : Env := AV.ptr y0 :: AV.int IntKind.i64 y1 :: Env.sp 6 (AV.bool y2 :: Env.sp 60 [])
def f13e5 (y0 : Option (Nat × Nat)) (y1 : Int) (y2 : Option (Nat × Nat)) (y3 : Nat) (y4 : Option Nat) (y5 : Int) (y6 : Bool) : Env := AV.ptr y0 :: AV.int IntKind.i64 y1 :: Env.sp 2 (AV.slice y2 y3 y4 (1 : Nat) :: AV.int IntKind.i64 y5 :: Env.sp 2 (AV.bool y6 :: Env.sp 60 []))
def f13e6 (y0 : Option (Nat × Nat)) (y1 : Nat) (y2 : Option Nat) (y3 : Int) : Env := Env.sp 4 (AV.slice y0 y1 y2 (1 : Nat) :: AV.int IntKind.i64 y3 :: Env.sp 63 [])
def f13e7 (y0 : Option (Nat × Nat)) (y1 : Int) (y2 : Bool) (y3 : Bool) (y4 : Option (Nat × Nat)) (y5 : Bool) : Env := AV.ptr y0 :: AV.int IntKind.i64 y1 :: Env.sp 6 (AV.bool y2 :: Env.sp 6 (AV.bool y3 :: AV.ptr y4 :: AV.bool y5 :: Env.sp 51 []))
def f13e8 (y0 : Option (Nat × Nat)) (y1 : Int) (y2 : Bool) : Env := AV.ptr y0 :: AV.int IntKind.i64 y1 :: Env.sp 13 (AV.bool y2 :: Env.sp 53 [])
def f13e9 (y0 : Option (Nat × Nat)) (y1 : Int) (y2 : Option (Nat × Nat)) (y3 : Nat) (y4 : Option Nat) (y5 : Int) (y6 : Bool) : Env := AV.ptr y0 :: AV.int IntKind.i64 y1 :: Env.sp 2 (AV.slice y2 y3 y4 (1 : Nat) :: AV.int IntKind.i64 y5 :: Env.sp 9 (AV.bool y6 :: Env.sp 53 []))
def f13e10 (y0 : Option (Nat × Nat)) (y1 : Int) (y2 : Bool) (y3 : Bool) (y4 : Option (Nat × Nat)) (y5 : Option (Nat × Nat)) (y6 : Option (Nat × Nat)) (y7 : Int) (y8 : Int) (y9 : Int) (y10 : Bool) : Env := AV.ptr y0 :: AV.int IntKind.i64 y1 :: Env.sp 13 (AV.bool y2 :: Env.sp 2 (AV.bool y3 :: AV.ptr y4 :: AV.ptr y5 :: AV.ptr y6 :: AV.int IntKind.i64 y7 :: AV.int IntKind.i64 y8 :: AV.int IntKind.i64 y9 :: AV.bool y10 :: Env.sp 43 []))
def f13e11 (y0 : Option (Nat × Nat)) (y1 : Int) (y2 : Bool) : Env := AV.ptr y0 :: AV.int IntKind.i64 y1 :: Env.sp 16 (AV.bool y2 :: Env.sp 50 [])
def f13e12 (y0 : Option (Nat × Nat)) (y1 : Int) (y2 : Option (Nat × Nat)) (y3 : Nat) (y4 : Option Nat) (y5 : Int) (y6 : Bool) : Env := AV.ptr y0 :: AV.int IntKind.i64 y1 :: Env.sp 2 (AV.slice y2 y3 y4 (1 : Nat) :: AV.int IntKind.i64 y5 :: Env.sp 12 (AV.bool y6 :: Env.sp 50 []))
def f13e13 (y0 : Option (Nat × Nat)) (y1 : Int) (y2 : Option (Nat × Nat)) (y3 : Option (Nat × Nat)) (y4 : Option (Nat × Nat)) (y5 : Int) (y6 : Int) (y7 : Int) (y8 : Option (Nat × Nat)) (y9 : Option (Nat × Nat)) : Env := AV.ptr y0 :: AV.int IntKind.i64 y1 :: Env.sp 24 (AV.ptr y2 :: AV.ptr y3 :: AV.ptr y4 :: AV.int IntKind.i64 y5 :: AV.int IntKind.i64 y6 :: AV.int IntKind.i64 y7 :: AV.ptr y8 :: AV.ptr y9 :: Env.sp 35 [])
def f13e14 (y0 : Option (Nat × Nat)) : Env := AV.ptr y0 :: Env.sp 68 []
def f13e15 (y0 : Option (Nat × Nat)) (y1 : Option (Nat × Nat)) (y2 : Nat) (y3 : Option Nat) : Env := AV.ptr y0 :: Env.sp 5 (AV.slice y1 y2 y3 (1 : Nat) :: Env.sp 62 [])
def f13e16 (y0 : Option (Nat × Nat)) (y1 : Option (Nat × Nat)) (y2 : Nat) (y3 : Option Nat) (y4 : Option (Nat × Nat)) (y5 : Bool) (y6 : Bool) (y7 : Option (Nat × Nat)) (y8 : Option (Nat × Nat)) (y9 : Option (Nat × Nat)) (y10 : Option (Nat × Nat)) (y11 : Nat) (y12 : Option Nat) (y13 : Option (Nat × Nat)) (y14 : Option (Nat × Nat)) (y15 : Int) (y16 : Option (Nat × Nat)) (y17 : Option (Nat × Nat)) (y18 : Option (Nat × Nat)) (y19 : Int) (y20 : Bool) (y21 : Bool) : Env := AV.ptr y0 :: Env.sp 5 (AV.slice y1 y2 y3 (1 : Nat) :: Env.sp 27 (AV.ptr y4 :: AV.bool y5 :: AV.bool y6 :: AV.ptr y7 :: AV.ptr y8 :: AV.ptr y9 :: AV.slice y10 y11 y12 (4 : Nat) :: AV.ptr y13 :: AV.ptr y14 :: AV.int IntKind.i64 y15 :: AV.ptr y16 :: AV.ptr y17 :: AV.ptr y18 :: AV.int IntKind.i64 y19 :: AV.bool y20 :: AV.bool y21 :: Env.sp 19 []))
def f13e17 (y0 : Option (Nat × Nat)) (y1 : Option (Nat × Nat)) (y2 : Nat) (y3 : Option Nat) (y4 : Option (Nat × Nat)) (y5 : Bool) (y6 : Bool) (y7 : Bool) : Env := AV.ptr y0 :: Env.sp 5 (AV.slice y1 y2 y3 (1 : Nat) :: Env.sp 27 (AV.ptr y4 :: AV.bool y5 :: AV.bool y6 :: AV.tuple [] :: AV.tuple [] :: AV.tuple [] :: AV.tuple [] :: AV.tuple [] :: AV.tuple [] :: AV.tuple [] :: AV.tuple [] :: AV.tuple [] :: AV.tuple [] :: AV.tuple [] :: AV.tuple [] :: AV.bool y7 :: Env.sp 19 []))
def f13e18 (y0 : Option (Nat × Nat)) (y1 : Option (Nat × Nat)) (y2 : Nat) (y3 : Option Nat) (y4 : Bool) : Env := AV.ptr y0 :: Env.sp 5 (AV.slice y1 y2 y3 (1 : Nat) :: Env.sp 42 (AV.bool y4 :: Env.sp 19 []))
def f13e19 (y0 : Option (Nat × Nat)) (y1 : Nat) (y2 : Option Nat) : Env := Env.sp 6 (AV.slice y0 y1 y2 (1 : Nat) :: Env.sp 62 [])
def f13e20 (y0 : Option (Nat × Nat)) (y1 : Option (Nat × Nat)) (y2 : Nat) (y3 : Option Nat) (y4 : Nat) (y5 : Option (Nat × Nat)) (y6 : Option (Nat × Nat)) (y7 : Option (Nat × Nat)) (y8 : Option (Nat × Nat)) (y9 : AV) (y10 : Int) (y11 : Int) (y12 : Int) (y13 : Int) : Env := AV.ptr y0 :: Env.sp 5 (AV.slice y1 y2 y3 (1 : Nat) :: AV.ptr (some (y4, (0 : Nat))) :: Env.sp 42 (AV.ptr y5 :: AV.ptr y6 :: AV.ptr y7 :: AV.iface (59 : Nat) (AV.ptr y8) :: y9 :: AV.agg [AV.int IntKind.i64 y10, AV.int IntKind.i64 y11, AV.int IntKind.i64 y12, AV.int IntKind.i64 y13] :: Env.sp 13 []))
def f13e21 (y0 : Option (Nat × Nat)) (y1 : Option (Nat × Nat)) (y2 : Nat) (y3 : Option Nat) (y4 : Nat) : Env := AV.ptr y0 :: Env.sp 5 (AV.slice y1 y2 y3 (1 : Nat) :: AV.ptr (some (y4, (0 : Nat))) :: Env.sp 61 [])
def f13e22 (y0 : Option (Nat × Nat)) (y1 : Option (Nat × Nat)) (y2 : Nat) (y3 : Option Nat) (y4 : Nat) (y5 : Option (Nat × Nat)) (y6 : Nat) (y7 : Int) (y8 : Int) (y9 : Int) (y10 : Int) (y11 : Int) (y12 : Option (Nat × Nat)) (y13 : Option (Nat × Nat)) (y14 : Option (Nat × Nat)) : Env := AV.ptr y0 :: Env.sp 5 (AV.slice y1 y2 y3 (1 : Nat) :: AV.ptr (some (y4, (0 : Nat))) :: Env.sp 48 (AV.ptr y5 :: AV.ptr (some (y6, (0 : Nat))) :: AV.int IntKind.i64 y7 :: AV.agg [AV.int IntKind.i64 y8, AV.int IntKind.i64 y9, AV.int IntKind.i64 y10, AV.int IntKind.i64 y11] :: AV.ptr y12 :: AV.ptr y13 :: AV.ptr y14 :: Env.sp 6 []))
def f13e23 (y0 : Option (Nat × Nat)) (y1 : Option (Nat × Nat)) (y2 : Nat) (y3 : Option Nat) (y4 : Nat) (y5 : Option (Nat × Nat)) (y6 : Nat) (y7 : Option Nat) (y8 : Nat) (y9 : Int) (y10 : Option (Nat × Nat)) (y11 : Nat) (y12 : Option Nat) (y13 : Option (Nat × Nat)) (y14 : Nat) (y15 : Option Nat) : Env := AV.ptr y0 :: Env.sp 5 (AV.slice y1 y2 y3 (1 : Nat) :: AV.ptr (some (y4, (0 : Nat))) :: Env.sp 55 (AV.slice y5 y6 y7 (1 : Nat) :: AV.ptr (some (y8, (0 : Nat))) :: AV.int IntKind.i64 y9 :: AV.slice y10 y11 y12 (1 : Nat) :: AV.slice y13 y14 y15 (1 : Nat) :: Env.sp 1 []))
def f13e24 (y0 : Option (Nat × Nat)) (y1 : Nat) (y2 : Option Nat) (y3 : Int) (y4 : Option (Nat × Nat)) (y5 : Nat) (y6 : Option Nat) (y7 : Option (Nat × Nat)) (y8 : Nat) (y9 : Option Nat) : Env := Env.sp 4 (AV.slice y0 y1 y2 (1 : Nat) :: AV.int IntKind.i64 y3 :: AV.slice y4 y5 y6 (1 : Nat) :: Env.sp 61 (AV.slice y7 y8 y9 (1 : Nat) :: []))

/- function 13 -/
theorem f13_eq {R : Type} (call : Bool → CallF R) (dem : Bool) (N : Nat) (y0 : Option (Nat × Nat)) (y1 : Int) (σ : St) (K : AV → St → Option R) :
    bodyK Try.prog call dem N ann 13 [AV.ptr y0, AV.int IntKind.i64 y1] σ K = runK Try.prog call dem N f13c0 f13a0 (bodyC Try.prog f13rs K) (f13e0 y0 y1) σ := bodyK_of (fn := ((Try.prog.funcs[13]?).get rfl)) (by kernel_rfl) (by kernel_rfl) (by kernel_rfl) (by kernel_rfl) (by kernel_rfl) (by kernel_rfl)
theorem f13n0 {R : Type} (call : Bool → CallF R) (dem : Bool) (N : Nat) (J : KF R) (e : Env) (σ : St) : runK Try.prog call dem N f13c0 f13a0 J e σ = runK Try.prog call dem N f13c1 f13a1 (seqC (fun K e σ => runK Try.prog call dem N f13c2 f13a2 K e σ) f13a0 J) e σ := runK_seq' (by kernel_rfl) (by kernel_rfl) (by kernel_rfl)
theorem f13r1_f13e0 {R : Type} (call : Bool → CallF R) (dem : Bool) (N : Nat) (y0 : Option (Nat × Nat)) (y1 : Int) (J : KF R) (σ : St) :
    runK Try.prog call dem N f13c1 f13a1 J (f13e0 y0 y1) σ =
J Ex.normal (f13e1 y0 y1 none (0 : Nat) (some (0 : Nat)) (0 : Int)) σ := hide (by kernel_rfl)
theorem f13z0_f13e1 (y0 : Option (Nat × Nat)) (y1 : Int) (y2 : Option (Nat × Nat)) (y3 : Nat) (y4 : Option Nat) (y5 : Int) : Ann.clr f13a0 (f13e1 y0 y1 y2 y3 y4 y5) = f13e0 y0 y1 := hide (by kernel_rfl)
theorem f13n2 {R : Type} (call : Bool → CallF R) (dem : Bool) (N : Nat) (J : KF R) (e : Env) (σ : St) : runK Try.prog call dem N f13c2 f13a2 J e σ = runK Try.prog call dem N f13c3 f13a3 (seqC (fun K e σ => runK Try.prog call dem N f13c4 f13a4 K e σ) f13a2 J) e σ := runK_seq' (by kernel_rfl) (by kernel_rfl) (by kernel_rfl)
theorem f13n3 {R : Type} (call : Bool → CallF R) (dem : Bool) (N : Nat) (J : KF R) (e : Env) (σ : St) : runK Try.prog call dem N f13c3 f13a3 J e σ = runK Try.prog call dem N f13c5 f13a5 (blockC 0 f13a3 J) e σ := runK_block' (by kernel_rfl) (by kernel_rfl)
theorem f13n5 {R : Type} (call : Bool → CallF R) (dem : Bool) (N : Nat) (J : KF R) (e : Env) (σ : St) : runK Try.prog call dem N f13c5 f13a5 J e σ = runK Try.prog call dem N f13c6 f13a6 (seqC (fun K e σ => runK Try.prog call dem N f13c7 f13a7 K e σ) f13a5 J) e σ := runK_seq' (by kernel_rfl) (by kernel_rfl) (by kernel_rfl)
theorem f13r6_f13e0 {R : Type} (call : Bool → CallF R) (dem : Bool) (N : Nat) (y0 : Option (Nat × Nat)) (y1 : Int) (J : KF R) (σ : St) :
    runK Try.prog call dem N f13c6 f13a6 J (f13e0 y0 y1) σ =
if decide (y1 < (0 : Int)) = true then J Ex.normal (f13e2 y0 y1 true y1 (decide (y1 < (0 : Int))) true true) σ
else
  J Ex.normal
    (f13e3 y0 y1 (decide (y1 > (4096 : Int))) y1 (decide (y1 < (0 : Int))) false y1 (decide (y1 > (4096 : Int))) (decide (y1 > (4096 : Int)))) σ := hide (by kernel_rfl)
theorem f13z5_f13e2 (y0 : Option (Nat × Nat)) (y1 : Int) (y2 : Bool) (y3 : Int) (y4 : Bool) (y5 : Bool) (y6 : Bool) : Ann.clr f13a5 (f13e2 y0 y1 y2 y3 y4 y5 y6) = f13e4 y0 y1 y2 := hide (by kernel_rfl)
theorem f13x7_f13e4 {R : Type} (call : Bool → CallF R) (dem : Bool) (N : Nat) (y0 : Option (Nat × Nat)) (y1 : Int) (y2 : Bool) (J : KF R) (σ : St) : runK Try.prog call dem N f13c7 f13a7 J (f13e4 y0 y1 y2) σ = if y2 = true then runK Try.prog call dem N f13c8 f13a8 (condC f13a7 J) (f13e4 y0 y1 y2) σ else runK Try.prog call dem N f13c9 f13a9 (condC f13a7 J) (f13e4 y0 y1 y2) σ := runK_cond' (o := Operand.tmp (8 : Nat)) (by kernel_rfl) (by kernel_rfl) (by kernel_rfl) (by kernel_rfl)
theorem f13n8 {R : Type} (call : Bool → CallF R) (dem : Bool) (N : Nat) (J : KF R) (e : Env) (σ : St) : runK Try.prog call dem N f13c8 f13a8 J e σ = runK Try.prog call dem N f13c10 f13a10 (seqC (fun K e σ => runK Try.prog call dem N f13c11 f13a11 K e σ) f13a8 J) e σ := runK_seq' (by kernel_rfl) (by kernel_rfl) (by kernel_rfl)
theorem f13r10_f13e4 {R : Type} (call : Bool → CallF R) (dem : Bool) (N : Nat) (y0 : Option (Nat × Nat)) (y1 : Int) (y2 : Bool) (J : KF R) (σ : St) :
    runK Try.prog call dem N f13c10 f13a10 J (f13e4 y0 y1 y2) σ =
J Ex.normal (f13e5 y0 y1 none (0 : Nat) (some (0 : Nat)) (1 : Int) y2) σ := hide (by kernel_rfl)
theorem f13z8_f13e5 (y0 : Option (Nat × Nat)) (y1 : Int) (y2 : Option (Nat × Nat)) (y3 : Nat) (y4 : Option Nat) (y5 : Int) (y6 : Bool) : Ann.clr f13a8 (f13e5 y0 y1 y2 y3 y4 y5 y6) = f13e6 y2 y3 y4 y5 := hide (by kernel_rfl)
theorem f13y11_f13e6 {R : Type} (call : Bool → CallF R) (dem : Bool) (N : Nat) (y0 : Option (Nat × Nat)) (y1 : Nat) (y2 : Option Nat) (y3 : Int) (J : KF R) (σ : St) : runK Try.prog call dem N f13c11 f13a11 J (f13e6 y0 y1 y2 y3) σ = J .ret (f13e6 y0 y1 y2 y3) σ := runK_ret' (by kernel_rfl) (by kernel_rfl)
theorem f13n9 {R : Type} (call : Bool → CallF R) (dem : Bool) (N : Nat) (J : KF R) (e : Env) (σ : St) : runK Try.prog call dem N f13c9 f13a9 J e σ = runK Try.prog call dem N f13c12 f13a12 (seqC (fun K e σ => runK Try.prog call dem N f13c13 f13a13 K e σ) f13a9 J) e σ := runK_seq' (by kernel_rfl) (by kernel_rfl) (by kernel_rfl)
theorem f13r12_f13e4 {R : Type} (call : Bool → CallF R) (dem : Bool) (N : Nat) (y0 : Option (Nat × Nat)) (y1 : Int) (y2 : Bool) (J : KF R) (σ : St) :
    runK Try.prog call dem N f13c12 f13a12 J (f13e4 y0 y1 y2) σ =
J Ex.normal (f13e7 y0 y1 y2 (Option.isNone y0) y0 (Option.isNone y0)) σ := hide (by kernel_rfl)
theorem f13z9_f13e7 (y0 : Option (Nat × Nat)) (y1 : Int) (y2 : Bool) (y3 : Bool) (y4 : Option (Nat × Nat)) (y5 : Bool) : Ann.clr f13a9 (f13e7 y0 y1 y2 y3 y4 y5) = f13e8 y0 y1 y3 := hide (by kernel_rfl)
theorem f13x13_f13e8 {R : Type} (call : Bool → CallF R) (dem : Bool) (N : Nat) (y0 : Option (Nat × Nat)) (y1 : Int) (y2 : Bool) (J : KF R) (σ : St) : runK Try.prog call dem N f13c13 f13a13 J (f13e8 y0 y1 y2) σ = if y2 = true then runK Try.prog call dem N f13c14 f13a14 (condC f13a13 J) (f13e8 y0 y1 y2) σ else runK Try.prog call dem N f13c15 f13a15 (condC f13a13 J) (f13e8 y0 y1 y2) σ := runK_cond' (o := Operand.tmp (15 : Nat)) (by kernel_rfl) (by kernel_rfl) (by kernel_rfl) (by kernel_rfl)
theorem f13n14 {R : Type} (call : Bool → CallF R) (dem : Bool) (N : Nat) (J : KF R) (e : Env) (σ : St) : runK Try.prog call dem N f13c14 f13a14 J e σ = runK Try.prog call dem N f13c16 f13a16 (seqC (fun K e σ => runK Try.prog call dem N f13c17 f13a17 K e σ) f13a14 J) e σ := runK_seq' (by kernel_rfl) (by kernel_rfl) (by kernel_rfl)
theorem f13r16_f13e8 {R : Type} (call : Bool → CallF R) (dem : Bool) (N : Nat) (y0 : Option (Nat × Nat)) (y1 : Int) (y2 : Bool) (J : KF R) (σ : St) :
    runK Try.prog call dem N f13c16 f13a16 J (f13e8 y0 y1 y2) σ =
J Ex.normal (f13e9 y0 y1 none (0 : Nat) (some (0 : Nat)) (7 : Int) y2) σ := hide (by kernel_rfl)
theorem f13z14_f13e9 (y0 : Option (Nat × Nat)) (y1 : Int) (y2 : Option (Nat × Nat)) (y3 : Nat) (y4 : Option Nat) (y5 : Int) (y6 : Bool) : Ann.clr f13a14 (f13e9 y0 y1 y2 y3 y4 y5 y6) = f13e6 y2 y3 y4 y5 := hide (by kernel_rfl)
theorem f13y17_f13e6 {R : Type} (call : Bool → CallF R) (dem : Bool) (N : Nat) (y0 : Option (Nat × Nat)) (y1 : Nat) (y2 : Option Nat) (y3 : Int) (J : KF R) (σ : St) : runK Try.prog call dem N f13c17 f13a17 J (f13e6 y0 y1 y2 y3) σ = J .ret (f13e6 y0 y1 y2 y3) σ := runK_ret' (by kernel_rfl) (by kernel_rfl)
theorem f13n15 {R : Type} (call : Bool → CallF R) (dem : Bool) (N : Nat) (J : KF R) (e : Env) (σ : St) : runK Try.prog call dem N f13c15 f13a15 J e σ = runK Try.prog call dem N f13c18 f13a18 (seqC (fun K e σ => runK Try.prog call dem N f13c19 f13a19 K e σ) f13a15 J) e σ := runK_seq' (by kernel_rfl) (by kernel_rfl) (by kernel_rfl)
theorem f13r18_f13e8 {R : Type} (call : Bool → CallF R) (dem : Bool) (N : Nat) (y0 : Option (Nat × Nat)) (y1 : Int) (y2 : Bool) (J : KF R) (σ : St) :
    runK Try.prog call dem N f13c18 f13a18 J (f13e8 y0 y1 y2) σ =
Option.bind y0 fun v0 =>
  Option.bind (St.ld σ (Prod.fst v0) (Prod.snd v0)) fun v1 =>
    Option.bind (AV.toInt IntKind.i64 v1) fun v2 =>
      J Ex.normal
        (f13e10 y0 y1 y2 (decide (v2 > IntKind.wrap IntKind.i64 ((1099511627776 : Int) - y1))) y0 (some v0) (some (Prod.fst v0, Prod.snd v0)) v2 y1
          (IntKind.wrap IntKind.i64 ((1099511627776 : Int) - y1)) (decide (v2 > IntKind.wrap IntKind.i64 ((1099511627776 : Int) - y1))))
        σ := hide (by kernel_rfl)
theorem f13z15_f13e10 (y0 : Option (Nat × Nat)) (y1 : Int) (y2 : Bool) (y3 : Bool) (y4 : Option (Nat × Nat)) (y5 : Option (Nat × Nat)) (y6 : Option (Nat × Nat)) (y7 : Int) (y8 : Int) (y9 : Int) (y10 : Bool) : Ann.clr f13a15 (f13e10 y0 y1 y2 y3 y4 y5 y6 y7 y8 y9 y10) = f13e11 y0 y1 y3 := hide (by kernel_rfl)
theorem f13x19_f13e11 {R : Type} (call : Bool → CallF R) (dem : Bool) (N : Nat) (y0 : Option (Nat × Nat)) (y1 : Int) (y2 : Bool) (J : KF R) (σ : St) : runK Try.prog call dem N f13c19 f13a19 J (f13e11 y0 y1 y2) σ = if y2 = true then runK Try.prog call dem N f13c20 f13a20 (condC f13a19 J) (f13e11 y0 y1 y2) σ else runK Try.prog call dem N f13c21 f13a21 (condC f13a19 J) (f13e11 y0 y1 y2) σ := runK_cond' (o := Operand.tmp (18 : Nat)) (by kernel_rfl) (by kernel_rfl) (by kernel_rfl) (by kernel_rfl)
theorem f13n20 {R : Type} (call : Bool → CallF R) (dem : Bool) (N : Nat) (J : KF R) (e : Env) (σ : St) : runK Try.prog call dem N f13c20 f13a20 J e σ = runK Try.prog call dem N f13c22 f13a22 (seqC (fun K e σ => runK Try.prog call dem N f13c23 f13a23 K e σ) f13a20 J) e σ := runK_seq' (by kernel_rfl) (by kernel_rfl) (by kernel_rfl)
theorem f13r22_f13e11 {R : Type} (call : Bool → CallF R) (dem : Bool) (N : Nat) (y0 : Option (Nat × Nat)) (y1 : Int) (y2 : Bool) (J : KF R) (σ : St) :
    runK Try.prog call dem N f13c22 f13a22 J (f13e11 y0 y1 y2) σ =
J Ex.normal (f13e12 y0 y1 none (0 : Nat) (some (0 : Nat)) (2 : Int) y2) σ := hide (by kernel_rfl)
theorem f13z20_f13e12 (y0 : Option (Nat × Nat)) (y1 : Int) (y2 : Option (Nat × Nat)) (y3 : Nat) (y4 : Option Nat) (y5 : Int) (y6 : Bool) : Ann.clr f13a20 (f13e12 y0 y1 y2 y3 y4 y5 y6) = f13e6 y2 y3 y4 y5 := hide (by kernel_rfl)
theorem f13y23_f13e6 {R : Type} (call : Bool → CallF R) (dem : Bool) (N : Nat) (y0 : Option (Nat × Nat)) (y1 : Nat) (y2 : Option Nat) (y3 : Int) (J : KF R) (σ : St) : runK Try.prog call dem N f13c23 f13a23 J (f13e6 y0 y1 y2 y3) σ = J .ret (f13e6 y0 y1 y2 y3) σ := runK_ret' (by kernel_rfl) (by kernel_rfl)
theorem f13n21 {R : Type} (call : Bool → CallF R) (dem : Bool) (N : Nat) (J : KF R) (e : Env) (σ : St) : runK Try.prog call dem N f13c21 f13a21 J e σ = J .normal e σ := runK_skip' (by kernel_rfl)
theorem f13z19_f13e11 (y0 : Option (Nat × Nat)) (y1 : Int) (y2 : Bool) : Ann.clr f13a19 (f13e11 y0 y1 y2) = f13e0 y0 y1 := hide (by kernel_rfl)
theorem f13z13_f13e0 (y0 : Option (Nat × Nat)) (y1 : Int) : Ann.clr f13a13 (f13e0 y0 y1) = f13e0 y0 y1 := hide (by kernel_rfl)
theorem f13z7_f13e0 (y0 : Option (Nat × Nat)) (y1 : Int) : Ann.clr f13a7 (f13e0 y0 y1) = f13e0 y0 y1 := hide (by kernel_rfl)
theorem f13z5_f13e3 (y0 : Option (Nat × Nat)) (y1 : Int) (y2 : Bool) (y3 : Int) (y4 : Bool) (y5 : Bool) (y6 : Int) (y7 : Bool) (y8 : Bool) : Ann.clr f13a5 (f13e3 y0 y1 y2 y3 y4 y5 y6 y7 y8) = f13e4 y0 y1 y2 := hide (by kernel_rfl)
theorem f13z3_f13e0 (y0 : Option (Nat × Nat)) (y1 : Int) : Ann.clr f13a3 (f13e0 y0 y1) = f13e0 y0 y1 := hide (by kernel_rfl)
theorem f13z2_f13e0 (y0 : Option (Nat × Nat)) (y1 : Int) : Ann.clr f13a2 (f13e0 y0 y1) = f13e0 y0 y1 := hide (by kernel_rfl)
theorem f13n4 {R : Type} (call : Bool → CallF R) (dem : Bool) (N : Nat) (J : KF R) (e : Env) (σ : St) : runK Try.prog call dem N f13c4 f13a4 J e σ = runK Try.prog call dem N f13c24 f13a24 (seqC (fun K e σ => runK Try.prog call dem N f13c25 f13a25 K e σ) f13a4 J) e σ := runK_seq' (by kernel_rfl) (by kernel_rfl) (by kernel_rfl)
theorem f13r24_f13e0 {R : Type} (call : Bool → CallF R) (dem : Bool) (N : Nat) (y0 : Option (Nat × Nat)) (y1 : Int) (J : KF R) (σ : St) :
    runK Try.prog call dem N f13c24 f13a24 J (f13e0 y0 y1) σ =
Option.bind y0 fun v0 =>
  Option.bind (St.ld σ (Prod.fst v0) (Prod.snd v0)) fun v1 =>
    Option.bind (AV.toInt IntKind.i64 v1) fun v2 =>
      Option.bind y0 fun v3 =>
        Option.bind (St.st σ (Prod.fst v3) (Prod.snd v3) [AV.int IntKind.i64 (IntKind.wrap IntKind.i64 (v2 + y1))]) fun v4 =>
          J Ex.normal
            (f13e13 y0 y1 y0 (some v0) (some (Prod.fst v0, Prod.snd v0)) v2 y1 (IntKind.wrap IntKind.i64 (v2 + y1)) (some v3)
              (some (Prod.fst v3, Prod.snd v3)))
            v4 := hide (by kernel_rfl)
theorem f13z4_f13e13 (y0 : Option (Nat × Nat)) (y1 : Int) (y2 : Option (Nat × Nat)) (y3 : Option (Nat × Nat)) (y4 : Option (Nat × Nat)) (y5 : Int) (y6 : Int) (y7 : Int) (y8 : Option (Nat × Nat)) (y9 : Option (Nat × Nat)) : Ann.clr f13a4 (f13e13 y0 y1 y2 y3 y4 y5 y6 y7 y8 y9) = f13e14 y0 := hide (by kernel_rfl)
theorem f13n25 {R : Type} (call : Bool → CallF R) (dem : Bool) (N : Nat) (J : KF R) (e : Env) (σ : St) : runK Try.prog call dem N f13c25 f13a25 J e σ = runK Try.prog call dem N f13c26 f13a26 (seqC (fun K e σ => runK Try.prog call dem N f13c27 f13a27 K e σ) f13a25 J) e σ := runK_seq' (by kernel_rfl) (by kernel_rfl) (by kernel_rfl)
theorem f13r26_f13e14 {R : Type} (call : Bool → CallF R) (dem : Bool) (N : Nat) (y0 : Option (Nat × Nat)) (J : KF R) (σ : St) :
    runK Try.prog call dem N f13c26 f13a26 J (f13e14 y0) σ =
J Ex.normal (f13e15 y0 none (0 : Nat) (some (0 : Nat))) σ := hide (by kernel_rfl)
theorem f13z25_f13e15 (y0 : Option (Nat × Nat)) (y1 : Option (Nat × Nat)) (y2 : Nat) (y3 : Option Nat) : Ann.clr f13a25 (f13e15 y0 y1 y2 y3) = f13e15 y0 y1 y2 y3 := hide (by kernel_rfl)
theorem f13n27 {R : Type} (call : Bool → CallF R) (dem : Bool) (N : Nat) (J : KF R) (e : Env) (σ : St) : runK Try.prog call dem N f13c27 f13a27 J e σ = runK Try.prog call dem N f13c28 f13a28 (seqC (fun K e σ => runK Try.prog call dem N f13c29 f13a29 K e σ) f13a27 J) e σ := runK_seq' (by kernel_rfl) (by kernel_rfl) (by kernel_rfl)
theorem f13n28 {R : Type} (call : Bool → CallF R) (dem : Bool) (N : Nat) (J : KF R) (e : Env) (σ : St) : runK Try.prog call dem N f13c28 f13a28 J e σ = runK Try.prog call dem N f13c30 f13a30 (blockC 1 f13a28 J) e σ := runK_block' (by kernel_rfl) (by kernel_rfl)
theorem f13L30_eq {R : Type} (call : Bool → CallF R) (dem : Bool) (N : Nat) (J : KF R) (e : Env) (σ : St) : f13L30 call dem N J e σ = runK Try.prog call dem N f13c31 f13a31 J e σ := hide rfl
theorem f13z30_f13e15 (y0 : Option (Nat × Nat)) (y1 : Option (Nat × Nat)) (y2 : Nat) (y3 : Option Nat) : Ann.clr f13a30 (f13e15 y0 y1 y2 y3) = f13e15 y0 y1 y2 y3 := hide (by kernel_rfl)
theorem f13l30_f13e15 {R : Type} (call : Bool → CallF R) (dem : Bool) (N : Nat) (y0 : Option (Nat × Nat)) (y1 : Option (Nat × Nat)) (y2 : Nat) (y3 : Option Nat) (J : KF R) (σ : St) : runK Try.prog call dem N f13c30 f13a30 J (f13e15 y0 y1 y2 y3) σ = loopK (f13L30 call dem N) f13a30 N J (f13e15 y0 y1 y2 y3) σ := runK_loop' (by kernel_rfl) (by kernel_rfl) (by kernel_rfl)
theorem f13n31 {R : Type} (call : Bool → CallF R) (dem : Bool) (N : Nat) (J : KF R) (e : Env) (σ : St) : runK Try.prog call dem N f13c31 f13a31 J e σ = runK Try.prog call dem N f13c32 f13a32 (seqC (fun K e σ => runK Try.prog call dem N f13c33 f13a33 K e σ) f13a31 J) e σ := runK_seq' (by kernel_rfl) (by kernel_rfl) (by kernel_rfl)
theorem f13n32 {R : Type} (call : Bool → CallF R) (dem : Bool) (N : Nat) (J : KF R) (e : Env) (σ : St) : runK Try.prog call dem N f13c32 f13a32 J e σ = runK Try.prog call dem N f13c34 f13a34 (seqC (fun K e σ => runK Try.prog call dem N f13c35 f13a35 K e σ) f13a32 J) e σ := runK_seq' (by kernel_rfl) (by kernel_rfl) (by kernel_rfl)
theorem f13r34_f13e15 {R : Type} (call : Bool → CallF R) (dem : Bool) (N : Nat) (y0 : Option (Nat × Nat)) (y1 : Option (Nat × Nat)) (y2 : Nat) (y3 : Option Nat) (J : KF R) (σ : St) :
    runK Try.prog call dem N f13c34 f13a34 J (f13e15 y0 y1 y2 y3) σ =
call false (23 : Nat) [AV.ptr y0] σ fun v0 v1 =>
  Option.bind (AV.toBool v0) fun v2 =>
    if v2 = true then
      Option.bind y0 fun v3 =>
        Option.bind (St.ld v1 (Prod.fst v3) (Prod.snd v3 + (2 : Nat))) fun v4 =>
          Option.bind (AV.toSl (4 : Nat) v4) fun v5 =>
            if (0 : Int) ≤ (0 : Int) ∧ (0 : Int) < (↑(Sl.len v5) : Int) then
              Option.bind (Sl.o v5) fun v6 =>
                Option.bind (St.ld v1 (Prod.fst v6) (Prod.snd v6 + (1 : Nat))) fun v7 =>
                  Option.bind (AV.toInt IntKind.i64 v7) fun v8 =>
                    Option.bind y0 fun v9 =>
                      Option.bind (St.ld v1 (Prod.fst v9) (Prod.snd v9)) fun v10 =>
                        Option.bind (AV.toInt IntKind.i64 v10) fun v11 =>
                          J Ex.normal
                            (f13e16 y0 y1 y2 y3 y0 v2 true y0 (some v3) (some (Prod.fst v3, Prod.snd v3 + (2 : Nat))) (Sl.o v5) (Sl.len v5)
                              (Sl.cap v5) (some (Prod.fst v6, Prod.snd v6)) (some (Prod.fst v6, Prod.snd v6 + (1 : Nat))) v8 y0 (some v9)
                              (some (Prod.fst v9, Prod.snd v9)) v11 (decide (v8 ≤ v11)) (decide (v8 ≤ v11)))
                            v1
            else none
    else J Ex.normal (f13e17 y0 y1 y2 y3 y0 v2 false false) v1 := hide (by kernel_rfl)
theorem f13z32_f13e16 (y0 : Option (Nat × Nat)) (y1 : Option (Nat × Nat)) (y2 : Nat) (y3 : Option Nat) (y4 : Option (Nat × Nat)) (y5 : Bool) (y6 : Bool) (y7 : Option (Nat × Nat)) (y8 : Option (Nat × Nat)) (y9 : Option (Nat × Nat)) (y10 : Option (Nat × Nat)) (y11 : Nat) (y12 : Option Nat) (y13 : Option (Nat × Nat)) (y14 : Option (Nat × Nat)) (y15 : Int) (y16 : Option (Nat × Nat)) (y17 : Option (Nat × Nat)) (y18 : Option (Nat × Nat)) (y19 : Int) (y20 : Bool) (y21 : Bool) : Ann.clr f13a32 (f13e16 y0 y1 y2 y3 y4 y5 y6 y7 y8 y9 y10 y11 y12 y13 y14 y15 y16 y17 y18 y19 y20 y21) = f13e18 y0 y1 y2 y3 y21 := hide (by kernel_rfl)
theorem f13x35_f13e18 {R : Type} (call : Bool → CallF R) (dem : Bool) (N : Nat) (y0 : Option (Nat × Nat)) (y1 : Option (Nat × Nat)) (y2 : Nat) (y3 : Option Nat) (y4 : Bool) (J : KF R) (σ : St) : runK Try.prog call dem N f13c35 f13a35 J (f13e18 y0 y1 y2 y3 y4) σ = if y4 = true then runK Try.prog call dem N f13c36 f13a36 (condC f13a35 J) (f13e18 y0 y1 y2 y3 y4) σ else runK Try.prog call dem N f13c37 f13a37 (condC f13a35 J) (f13e18 y0 y1 y2 y3 y4) σ := runK_cond' (o := Operand.tmp (49 : Nat)) (by kernel_rfl) (by kernel_rfl) (by kernel_rfl) (by kernel_rfl)
theorem f13n36 {R : Type} (call : Bool → CallF R) (dem : Bool) (N : Nat) (J : KF R) (e : Env) (σ : St) : runK Try.prog call dem N f13c36 f13a36 J e σ = J .normal e σ := runK_skip' (by kernel_rfl)
theorem f13z35_f13e18 (y0 : Option (Nat × Nat)) (y1 : Option (Nat × Nat)) (y2 : Nat) (y3 : Option Nat) (y4 : Bool) : Ann.clr f13a35 (f13e18 y0 y1 y2 y3 y4) = f13e15 y0 y1 y2 y3 := hide (by kernel_rfl)
theorem f13y37_f13e18 {R : Type} (call : Bool → CallF R) (dem : Bool) (N : Nat) (y0 : Option (Nat × Nat)) (y1 : Option (Nat × Nat)) (y2 : Nat) (y3 : Option Nat) (y4 : Bool) (J : KF R) (σ : St) : runK Try.prog call dem N f13c37 f13a37 J (f13e18 y0 y1 y2 y3 y4) σ = J (.exit 1) (f13e19 y1 y2 y3) σ := runK_exit' (by kernel_rfl) (by kernel_rfl)
theorem f13z32_f13e17 (y0 : Option (Nat × Nat)) (y1 : Option (Nat × Nat)) (y2 : Nat) (y3 : Option Nat) (y4 : Option (Nat × Nat)) (y5 : Bool) (y6 : Bool) (y7 : Bool) : Ann.clr f13a32 (f13e17 y0 y1 y2 y3 y4 y5 y6 y7) = f13e18 y0 y1 y2 y3 y7 := hide (by kernel_rfl)
theorem f13z31_f13e15 (y0 : Option (Nat × Nat)) (y1 : Option (Nat × Nat)) (y2 : Nat) (y3 : Option Nat) : Ann.clr f13a31 (f13e15 y0 y1 y2 y3) = f13e15 y0 y1 y2 y3 := hide (by kernel_rfl)
theorem f13n33 {R : Type} (call : Bool → CallF R) (dem : Bool) (N : Nat) (J : KF R) (e : Env) (σ : St) : runK Try.prog call dem N f13c33 f13a33 J e σ = runK Try.prog call dem N f13c38 f13a38 (blockC 2 f13a33 J) e σ := runK_block' (by kernel_rfl) (by kernel_rfl)
theorem f13n38 {R : Type} (call : Bool → CallF R) (dem : Bool) (N : Nat) (J : KF R) (e : Env) (σ : St) : runK Try.prog call dem N f13c38 f13a38 J e σ = runK Try.prog call dem N f13c39 f13a39 (seqC (fun K e σ => runK Try.prog call dem N f13c40 f13a40 K e σ) f13a38 J) e σ := runK_seq' (by kernel_rfl) (by kernel_rfl) (by kernel_rfl)
theorem f13r39_f13e15 {R : Type} (call : Bool → CallF R) (dem : Bool) (N : Nat) (y0 : Option (Nat × Nat)) (y1 : Option (Nat × Nat)) (y2 : Nat) (y3 : Option Nat) (J : KF R) (σ : St) :
    runK Try.prog call dem N f13c39 f13a39 J (f13e15 y0 y1 y2 y3) σ =
Option.bind y0 fun v0 =>
  call dem (24 : Nat) [AV.iface (59 : Nat) (AV.ptr (some (Prod.fst v0, Prod.snd v0 + (2 : Nat))))] σ fun v1 v2 =>
    if AV.one v1 = true then
      match
        some
          (TypeDesc.struct
            (Array.mk
              [Field.mk "name" (3 : Nat) (0 : Nat) false "" "wapentake/bell" (0 : Nat),
                Field.mk "due" (3 : Nat) (1 : Nat) false "" "wapentake/bell" (8 : Nat),
                Field.mk "span" (3 : Nat) (2 : Nat) false "" "wapentake/bell" (16 : Nat),
                Field.mk "turn" (3 : Nat) (3 : Nat) false "" "wapentake/bell" (24 : Nat)])),
        v1 with
      | some (TypeDesc.interface v3), v4 => none
      | some v3, AV.iface v4 v5 =>
        if v4 = (52 : Nat) then
          Option.bind (AV.toAgg v5) fun v6 =>
            if List.length v6 = (4 : Nat) then
              Option.bind (List.head? v6) fun v7 =>
                Option.bind (AV.toInt IntKind.i64 v7) fun v8 =>
                  Option.bind (List.head? (List.tail v6)) fun v9 =>
                    Option.bind (AV.toInt IntKind.i64 v9) fun v10 =>
                      Option.bind (List.head? (List.tail (List.tail v6))) fun v11 =>
                        Option.bind (AV.toInt IntKind.i64 v11) fun v12 =>
                          Option.bind (List.head? (List.tail (List.tail (List.tail v6)))) fun v13 =>
                            Option.bind (AV.toInt IntKind.i64 v13) fun v14 =>
                              Option.bind
                                (St.st
                                  (St.new v2
                                    (Blk.cells
                                      [AV.int IntKind.i64 (0 : Int), AV.int IntKind.i64 (0 : Int), AV.int IntKind.i64 (0 : Int),
                                        AV.int IntKind.i64 (0 : Int)]
                                      true))
                                  (St.next v2) (0 : Nat)
                                  [AV.int IntKind.i64 v8, AV.int IntKind.i64 v10, AV.int IntKind.i64 v12, AV.int IntKind.i64 v14])
                                fun v15 =>
                                J Ex.normal
                                  (f13e20 y0 y1 y2 y3 (St.next v2) y0 (some v0) (some (Prod.fst v0, Prod.snd v0 + (2 : Nat)))
                                    (some (Prod.fst v0, Prod.snd v0 + (2 : Nat))) v1 v8 v10 v12 v14)
                                  v15
            else none
        else none
      | v3, v4 => none
    else none := hide (by kernel_rfl)
theorem f13z38_f13e20 (y0 : Option (Nat × Nat)) (y1 : Option (Nat × Nat)) (y2 : Nat) (y3 : Option Nat) (y4 : Nat) (y5 : Option (Nat × Nat)) (y6 : Option (Nat × Nat)) (y7 : Option (Nat × Nat)) (y8 : Option (Nat × Nat)) (y9 : AV) (y10 : Int) (y11 : Int) (y12 : Int) (y13 : Int) : Ann.clr f13a38 (f13e20 y0 y1 y2 y3 y4 y5 y6 y7 y8 y9 y10 y11 y12 y13) = f13e21 y0 y1 y2 y3 y4 := hide (by kernel_rfl)
theorem f13n40 {R : Type} (call : Bool → CallF R) (dem : Bool) (N : Nat) (J : KF R) (e : Env) (σ : St) : runK Try.prog call dem N f13c40 f13a40 J e σ = runK Try.prog call dem N f13c41 f13a41 (seqC (fun K e σ => runK Try.prog call dem N f13c42 f13a42 K e σ) f13a40 J) e σ := runK_seq' (by kernel_rfl) (by kernel_rfl) (by kernel_rfl)
theorem f13r41_f13e21 {R : Type} (call : Bool → CallF R) (dem : Bool) (N : Nat) (y0 : Option (Nat × Nat)) (y1 : Option (Nat × Nat)) (y2 : Nat) (y3 : Option Nat) (y4 : Nat) (J : KF R) (σ : St) :
    runK Try.prog call dem N f13c41 f13a41 J (f13e21 y0 y1 y2 y3 y4) σ =
Option.bind (St.ld σ y4 (0 : Nat)) fun v0 =>
  Option.bind (AV.toInt IntKind.i64 v0) fun v1 =>
    Option.bind y0 fun v2 =>
      if (0 : Nat) < (4 : Nat) ∧ (0 : Int) ≤ v1 ∧ v1 < (16 : Int) then
        Option.bind
          (St.st σ (Prod.fst v2) (Prod.snd v2 + (3 : Nat) + Int.toNat v1 * (4 : Nat))
            [AV.int IntKind.i64 (0 : Int), AV.int IntKind.i64 (0 : Int), AV.int IntKind.i64 (0 : Int), AV.int IntKind.i64 (0 : Int)])
          fun v3 =>
          J Ex.normal
            (f13e22 y0 y1 y2 y3 y4 y0 y4 v1 (0 : Int) (0 : Int) (0 : Int) (0 : Int) (some v2) (some (Prod.fst v2, Prod.snd v2 + (3 : Nat)))
              (some (Prod.fst v2, Prod.snd v2 + (3 : Nat) + Int.toNat v1 * (4 : Nat))))
            v3
      else none := hide (by kernel_rfl)
theorem f13z40_f13e22 (y0 : Option (Nat × Nat)) (y1 : Option (Nat × Nat)) (y2 : Nat) (y3 : Option Nat) (y4 : Nat) (y5 : Option (Nat × Nat)) (y6 : Nat) (y7 : Int) (y8 : Int) (y9 : Int) (y10 : Int) (y11 : Int) (y12 : Option (Nat × Nat)) (y13 : Option (Nat × Nat)) (y14 : Option (Nat × Nat)) : Ann.clr f13a40 (f13e22 y0 y1 y2 y3 y4 y5 y6 y7 y8 y9 y10 y11 y12 y13 y14) = f13e21 y0 y1 y2 y3 y4 := hide (by kernel_rfl)
theorem f13r42_f13e21 {R : Type} (call : Bool → CallF R) (dem : Bool) (N : Nat) (y0 : Option (Nat × Nat)) (y1 : Option (Nat × Nat)) (y2 : Nat) (y3 : Option Nat) (y4 : Nat) (J : KF R) (σ : St) :
    runK Try.prog call dem N f13c42 f13a42 J (f13e21 y0 y1 y2 y3 y4) σ =
Option.bind (St.ld σ y4 (0 : Nat)) fun v0 =>
  Option.bind (AV.toInt IntKind.i64 v0) fun v1 =>
    Option.bind
      (St.elems (St.new σ (Blk.cells [AV.int IntKind.i64 v1] true)) (1 : Nat) (Sl.mk (some (St.next σ, (0 : Nat))) (1 : Nat) (some (1 : Nat)))
        (1 : Nat))
      fun v2 =>
      Option.bind (St.app (St.new σ (Blk.cells [AV.int IntKind.i64 v1] true)) (1 : Nat) (8 : Nat) (Sl.mk y1 y2 y3) (1 : Nat) v2) fun v3 =>
        J Ex.normal
          (f13e23 y0 (Sl.o (Prod.fst v3)) (Sl.len (Prod.fst v3)) (Sl.cap (Prod.fst v3)) y4 y1 y2 y3 y4 v1 (some (St.next σ, (0 : Nat))) (1 : Nat)
            (some (1 : Nat)) (Sl.o (Prod.fst v3)) (Sl.len (Prod.fst v3)) (Sl.cap (Prod.fst v3)))
          (Prod.snd v3) := hide (by kernel_rfl)
theorem f13z33_f13e23 (y0 : Option (Nat × Nat)) (y1 : Option (Nat × Nat)) (y2 : Nat) (y3 : Option Nat) (y4 : Nat) (y5 : Option (Nat × Nat)) (y6 : Nat) (y7 : Option Nat) (y8 : Nat) (y9 : Int) (y10 : Option (Nat × Nat)) (y11 : Nat) (y12 : Option Nat) (y13 : Option (Nat × Nat)) (y14 : Nat) (y15 : Option Nat) : Ann.clr f13a33 (f13e23 y0 y1 y2 y3 y4 y5 y6 y7 y8 y9 y10 y11 y12 y13 y14 y15) = f13e15 y0 y1 y2 y3 := hide (by kernel_rfl)
theorem f13z28_f13e19 (y0 : Option (Nat × Nat)) (y1 : Nat) (y2 : Option Nat) : Ann.clr f13a28 (f13e19 y0 y1 y2) = f13e19 y0 y1 y2 := hide (by kernel_rfl)
theorem f13z27_f13e19 (y0 : Option (Nat × Nat)) (y1 : Nat) (y2 : Option Nat) : Ann.clr f13a27 (f13e19 y0 y1 y2) = f13e19 y0 y1 y2 := hide (by kernel_rfl)
theorem f13n29 {R : Type} (call : Bool → CallF R) (dem : Bool) (N : Nat) (J : KF R) (e : Env) (σ : St) : runK Try.prog call dem N f13c29 f13a29 J e σ = runK Try.prog call dem N f13c43 f13a43 (seqC (fun K e σ => runK Try.prog call dem N f13c44 f13a44 K e σ) f13a29 J) e σ := runK_seq' (by kernel_rfl) (by kernel_rfl) (by kernel_rfl)
theorem f13r43_f13e19 {R : Type} (call : Bool → CallF R) (dem : Bool) (N : Nat) (y0 : Option (Nat × Nat)) (y1 : Nat) (y2 : Option Nat) (J : KF R) (σ : St) :
    runK Try.prog call dem N f13c43 f13a43 J (f13e19 y0 y1 y2) σ =
J Ex.normal (f13e24 y0 y1 y2 (0 : Int) y0 y1 y2 y0 y1 y2) σ := hide (by kernel_rfl)
theorem f13z29_f13e24 (y0 : Option (Nat × Nat)) (y1 : Nat) (y2 : Option Nat) (y3 : Int) (y4 : Option (Nat × Nat)) (y5 : Nat) (y6 : Option Nat) (y7 : Option (Nat × Nat)) (y8 : Nat) (y9 : Option Nat) : Ann.clr f13a29 (f13e24 y0 y1 y2 y3 y4 y5 y6 y7 y8 y9) = f13e6 y0 y1 y2 y3 := hide (by kernel_rfl)
theorem f13y44_f13e6 {R : Type} (call : Bool → CallF R) (dem : Bool) (N : Nat) (y0 : Option (Nat × Nat)) (y1 : Nat) (y2 : Option Nat) (y3 : Int) (J : KF R) (σ : St) : runK Try.prog call dem N f13c44 f13a44 J (f13e6 y0 y1 y2 y3) σ = J .ret (f13e6 y0 y1 y2 y3) σ := runK_ret' (by kernel_rfl) (by kernel_rfl)
theorem f13b_f13e6_r {R : Type} (y0 : Option (Nat × Nat)) (y1 : Nat) (y2 : Option Nat) (y3 : Int) (σ : St) (K : AV → St → Option R) : bodyC Try.prog f13rs K (Ex.ret) (f13e6 y0 y1 y2 y3) σ =
K (AV.tuple [AV.slice y0 y1 y2 (1 : Nat), AV.int IntKind.i64 y3]) σ := hide (by kernel_rfl)
attribute [go_sem] f13_eq f13n0 f13r1_f13e0 f13z0_f13e1 f13n2 f13n3 f13n5 f13r6_f13e0 f13z5_f13e2 f13x7_f13e4 f13n8 f13r10_f13e4 f13z8_f13e5 f13y11_f13e6 f13n9 f13r12_f13e4 f13z9_f13e7 f13x13_f13e8 f13n14 f13r16_f13e8 f13z14_f13e9 f13y17_f13e6 f13n15 f13r18_f13e8 f13z15_f13e10 f13x19_f13e11 f13n20 f13r22_f13e11 f13z20_f13e12 f13y23_f13e6 f13n21 f13z19_f13e11 f13z13_f13e0 f13z7_f13e0 f13z5_f13e3 f13z3_f13e0 f13z2_f13e0 f13n4 f13r24_f13e0 f13z4_f13e13 f13n25 f13r26_f13e14 f13z25_f13e15 f13n27 f13n28 f13L30_eq f13z30_f13e15 f13l30_f13e15 f13n31 f13n32 f13r34_f13e15 f13z32_f13e16 f13x35_f13e18 f13n36 f13z35_f13e18 f13y37_f13e18 f13z32_f13e17 f13z31_f13e15 f13n33 f13n38 f13r39_f13e15 f13z38_f13e20 f13n40 f13r41_f13e21 f13z40_f13e22 f13r42_f13e21 f13z33_f13e23 f13z28_f13e19 f13z27_f13e19 f13n29 f13r43_f13e19 f13z29_f13e24 f13y44_f13e6 f13b_f13e6_r

noncomputable def f17rs : List ResultVar := [ResultVar.tmp (2 : Nat), ResultVar.tmp (3 : Nat)]
noncomputable def f17c0 : Code := subCode [] (bodyOf Try.prog 17)
def f17a0 : Ann := subAnn [] ann17
noncomputable def f17c1 : Code := subCode [0] (bodyOf Try.prog 17)
def f17a1 : Ann := subAnn [0] ann17
noncomputable def f17c2 : Code := subCode [1] (bodyOf Try.prog 17)
def f17a2 : Ann := subAnn [1] ann17
noncomputable def f17c3 : Code := subCode [1, 0] (bodyOf Try.prog 17)
def f17a3 : Ann := subAnn [1, 0] ann17
noncomputable def f17c4 : Code := subCode [1, 1] (bodyOf Try.prog 17)
def f17a4 : Ann := subAnn [1, 1] ann17
noncomputable def f17c5 : Code := subCode [1, 0, 0] (bodyOf Try.prog 17)
def f17a5 : Ann := subAnn [1, 0, 0] ann17
noncomputable def f17c6 : Code := subCode [1, 0, 1] (bodyOf Try.prog 17)
def f17a6 : Ann := subAnn [1, 0, 1] ann17
noncomputable def f17c7 : Code := subCode [1, 0, 1, 0] (bodyOf Try.prog 17)
def f17a7 : Ann := subAnn [1, 0, 1, 0] ann17
noncomputable def f17c8 : Code := subCode [1, 0, 1, 1] (bodyOf Try.prog 17)
def f17a8 : Ann := subAnn [1, 0, 1, 1] ann17
noncomputable def f17c9 : Code := subCode [1, 0, 1, 0, 0] (bodyOf Try.prog 17)
def f17a9 : Ann := subAnn [1, 0, 1, 0, 0] ann17
noncomputable def f17c10 : Code := subCode [1, 0, 1, 0, 1] (bodyOf Try.prog 17)
def f17a10 : Ann := subAnn [1, 0, 1, 0, 1] ann17
noncomputable def f17c11 : Code := subCode [1, 1, 0] (bodyOf Try.prog 17)
def f17a11 : Ann := subAnn [1, 1, 0] ann17
noncomputable def f17c12 : Code := subCode [1, 1, 1] (bodyOf Try.prog 17)
def f17a12 : Ann := subAnn [1, 1, 1] ann17
def f17e0 (y0 : Option (Nat × Nat)) : Env := AV.ptr y0 :: Env.sp 13 []
def f17e1 (y0 : Option (Nat × Nat)) (y1 : Int) (y2 : Bool) : Env := AV.ptr y0 :: Env.sp 1 (AV.int IntKind.i64 y1 :: AV.bool y2 :: Env.sp 10 [])
def f17e2 (y0 : Option (Nat × Nat)) (y1 : Option (Nat × Nat)) (y2 : Bool) (y3 : Bool) : Env := AV.ptr y0 :: Env.sp 3 (AV.ptr y1 :: AV.bool y2 :: AV.bool y3 :: Env.sp 7 [])
def f17e3 (y0 : Option (Nat × Nat)) (y1 : Bool) : Env := AV.ptr y0 :: Env.sp 5 (AV.bool y1 :: Env.sp 7 [])
def f17e4 (y0 : Option (Nat × Nat)) (y1 : Int) (y2 : Bool) (y3 : Bool) : Env := AV.ptr y0 :: Env.sp 1 (AV.int IntKind.i64 y1 :: AV.bool y2 :: Env.sp 2 (AV.bool y3 :: Env.sp 7 []))
def f17e5 (y0 : Int) (y1 : Bool) : Env := Env.sp 2 (AV.int IntKind.i64 y0 :: AV.bool y1 :: Env.sp 10 [])
def f17e6 (y0 : Option (Nat × Nat)) (y1 : Int) (y2 : Bool) (y3 : Option (Nat × Nat)) (y4 : Option (Nat × Nat)) (y5 : Option (Nat × Nat)) (y6 : Option (Nat × Nat)) (y7 : Nat) (y8 : Option Nat) (y9 : Option (Nat × Nat)) (y10 : Option (Nat × Nat)) (y11 : Int) : Env := AV.ptr y0 :: Env.sp 1 (AV.int IntKind.i64 y1 :: AV.bool y2 :: Env.sp 3 (AV.ptr y3 :: AV.ptr y4 :: AV.ptr y5 :: AV.slice y6 y7 y8 (4 : Nat) :: AV.ptr y9 :: AV.ptr y10 :: AV.int IntKind.i64 y11 :: []))

/- function 17 -/
theorem f17_eq {R : Type} (call : Bool → CallF R) (dem : Bool) (N : Nat) (y0 : Option (Nat × Nat)) (σ : St) (K : AV → St → Option R) :
    bodyK Try.prog call dem N ann 17 [AV.ptr y0] σ K = runK Try.prog call dem N f17c0 f17a0 (bodyC Try.prog f17rs K) (f17e0 y0) σ := bodyK_of (fn := ((Try.prog.funcs[17]?).get rfl)) (by kernel_rfl) (by kernel_rfl) (by kernel_rfl) (by kernel_rfl) (by kernel_rfl) (by kernel_rfl)
theorem f17n0 {R : Type} (call : Bool → CallF R) (dem : Bool) (N : Nat) (J : KF R) (e : Env) (σ : St) : runK Try.prog call dem N f17c0 f17a0 J e σ = runK Try.prog call dem N f17c1 f17a1 (seqC (fun K e σ => runK Try.prog call dem N f17c2 f17a2 K e σ) f17a0 J) e σ := runK_seq' (by kernel_rfl) (by kernel_rfl) (by kernel_rfl)
theorem f17r1_f17e0 {R : Type} (call : Bool → CallF R) (dem : Bool) (N : Nat) (y0 : Option (Nat × Nat)) (J : KF R) (σ : St) :
    runK Try.prog call dem N f17c1 f17a1 J (f17e0 y0) σ =
J Ex.normal (f17e1 y0 (0 : Int) false) σ := hide (by kernel_rfl)
theorem f17z0_f17e1 (y0 : Option (Nat × Nat)) (y1 : Int) (y2 : Bool) : Ann.clr f17a0 (f17e1 y0 y1 y2) = f17e0 y0 := hide (by kernel_rfl)
theorem f17n2 {R : Type} (call : Bool → CallF R) (dem : Bool) (N : Nat) (J : KF R) (e : Env) (σ : St) : runK Try.prog call dem N f17c2 f17a2 J e σ = runK Try.prog call dem N f17c3 f17a3 (seqC (fun K e σ => runK Try.prog call dem N f17c4 f17a4 K e σ) f17a2 J) e σ := runK_seq' (by kernel_rfl) (by kernel_rfl) (by kernel_rfl)
theorem f17n3 {R : Type} (call : Bool → CallF R) (dem : Bool) (N : Nat) (J : KF R) (e : Env) (σ : St) : runK Try.prog call dem N f17c3 f17a3 J e σ = runK Try.prog call dem N f17c5 f17a5 (seqC (fun K e σ => runK Try.prog call dem N f17c6 f17a6 K e σ) f17a3 J) e σ := runK_seq' (by kernel_rfl) (by kernel_rfl) (by kernel_rfl)
theorem f17r5_f17e0 {R : Type} (call : Bool → CallF R) (dem : Bool) (N : Nat) (y0 : Option (Nat × Nat)) (J : KF R) (σ : St) :
    runK Try.prog call dem N f17c5 f17a5 J (f17e0 y0) σ =
call dem (23 : Nat) [AV.ptr y0] σ fun v0 v1 => Option.bind (AV.toBool v0) fun v2 => J Ex.normal (f17e2 y0 y0 v2 !v2) v1 := hide (by kernel_rfl)
theorem f17z3_f17e2 (y0 : Option (Nat × Nat)) (y1 : Option (Nat × Nat)) (y2 : Bool) (y3 : Bool) : Ann.clr f17a3 (f17e2 y0 y1 y2 y3) = f17e3 y0 y3 := hide (by kernel_rfl)
theorem f17x6_f17e3 {R : Type} (call : Bool → CallF R) (dem : Bool) (N : Nat) (y0 : Option (Nat × Nat)) (y1 : Bool) (J : KF R) (σ : St) : runK Try.prog call dem N f17c6 f17a6 J (f17e3 y0 y1) σ = if y1 = true then runK Try.prog call dem N f17c7 f17a7 (condC f17a6 J) (f17e3 y0 y1) σ else runK Try.prog call dem N f17c8 f17a8 (condC f17a6 J) (f17e3 y0 y1) σ := runK_cond' (o := Operand.tmp (6 : Nat)) (by kernel_rfl) (by kernel_rfl) (by kernel_rfl) (by kernel_rfl)
theorem f17n7 {R : Type} (call : Bool → CallF R) (dem : Bool) (N : Nat) (J : KF R) (e : Env) (σ : St) : runK Try.prog call dem N f17c7 f17a7 J e σ = runK Try.prog call dem N f17c9 f17a9 (seqC (fun K e σ => runK Try.prog call dem N f17c10 f17a10 K e σ) f17a7 J) e σ := runK_seq' (by kernel_rfl) (by kernel_rfl) (by kernel_rfl)
theorem f17r9_f17e3 {R : Type} (call : Bool → CallF R) (dem : Bool) (N : Nat) (y0 : Option (Nat × Nat)) (y1 : Bool) (J : KF R) (σ : St) :
    runK Try.prog call dem N f17c9 f17a9 J (f17e3 y0 y1) σ =
J Ex.normal (f17e4 y0 (0 : Int) false y1) σ := hide (by kernel_rfl)
theorem f17z7_f17e4 (y0 : Option (Nat × Nat)) (y1 : Int) (y2 : Bool) (y3 : Bool) : Ann.clr f17a7 (f17e4 y0 y1 y2 y3) = f17e5 y1 y2 := hide (by kernel_rfl)
theorem f17y10_f17e5 {R : Type} (call : Bool → CallF R) (dem : Bool) (N : Nat) (y0 : Int) (y1 : Bool) (J : KF R) (σ : St) : runK Try.prog call dem N f17c10 f17a10 J (f17e5 y0 y1) σ = J .ret (f17e5 y0 y1) σ := runK_ret' (by kernel_rfl) (by kernel_rfl)
theorem f17n8 {R : Type} (call : Bool → CallF R) (dem : Bool) (N : Nat) (J : KF R) (e : Env) (σ : St) : runK Try.prog call dem N f17c8 f17a8 J e σ = J .normal e σ := runK_skip' (by kernel_rfl)
theorem f17z6_f17e3 (y0 : Option (Nat × Nat)) (y1 : Bool) : Ann.clr f17a6 (f17e3 y0 y1) = f17e0 y0 := hide (by kernel_rfl)
theorem f17z2_f17e0 (y0 : Option (Nat × Nat)) : Ann.clr f17a2 (f17e0 y0) = f17e0 y0 := hide (by kernel_rfl)
theorem f17n4 {R : Type} (call : Bool → CallF R) (dem : Bool) (N : Nat) (J : KF R) (e : Env) (σ : St) : runK Try.prog call dem N f17c4 f17a4 J e σ = runK Try.prog call dem N f17c11 f17a11 (seqC (fun K e σ => runK Try.prog call dem N f17c12 f17a12 K e σ) f17a4 J) e σ := runK_seq' (by kernel_rfl) (by kernel_rfl) (by kernel_rfl)
theorem f17r11_f17e0 {R : Type} (call : Bool → CallF R) (dem : Bool) (N : Nat) (y0 : Option (Nat × Nat)) (J : KF R) (σ : St) :
    runK Try.prog call dem N f17c11 f17a11 J (f17e0 y0) σ =
Option.bind y0 fun v0 =>
  Option.bind (St.ld σ (Prod.fst v0) (Prod.snd v0 + (2 : Nat))) fun v1 =>
    Option.bind (AV.toSl (4 : Nat) v1) fun v2 =>
      if (0 : Int) ≤ (0 : Int) ∧ (0 : Int) < (↑(Sl.len v2) : Int) then
        Option.bind (Sl.o v2) fun v3 =>
          Option.bind (St.ld σ (Prod.fst v3) (Prod.snd v3 + (1 : Nat))) fun v4 =>
            Option.bind (AV.toInt IntKind.i64 v4) fun v5 =>
              J Ex.normal
                (f17e6 y0 v5 true y0 (some v0) (some (Prod.fst v0, Prod.snd v0 + (2 : Nat))) (Sl.o v2) (Sl.len v2) (Sl.cap v2)
                  (some (Prod.fst v3, Prod.snd v3)) (some (Prod.fst v3, Prod.snd v3 + (1 : Nat))) v5)
                σ
      else none := hide (by kernel_rfl)
theorem f17z4_f17e6 (y0 : Option (Nat × Nat)) (y1 : Int) (y2 : Bool) (y3 : Option (Nat × Nat)) (y4 : Option (Nat × Nat)) (y5 : Option (Nat × Nat)) (y6 : Option (Nat × Nat)) (y7 : Nat) (y8 : Option Nat) (y9 : Option (Nat × Nat)) (y10 : Option (Nat × Nat)) (y11 : Int) : Ann.clr f17a4 (f17e6 y0 y1 y2 y3 y4 y5 y6 y7 y8 y9 y10 y11) = f17e5 y1 y2 := hide (by kernel_rfl)
theorem f17y12_f17e5 {R : Type} (call : Bool → CallF R) (dem : Bool) (N : Nat) (y0 : Int) (y1 : Bool) (J : KF R) (σ : St) : runK Try.prog call dem N f17c12 f17a12 J (f17e5 y0 y1) σ = J .ret (f17e5 y0 y1) σ := runK_ret' (by kernel_rfl) (by kernel_rfl)
theorem f17b_f17e5_r {R : Type} (y0 : Int) (y1 : Bool) (σ : St) (K : AV → St → Option R) : bodyC Try.prog f17rs K (Ex.ret) (f17e5 y0 y1) σ =
K (AV.tuple [AV.int IntKind.i64 y0, AV.bool y1]) σ := hide (by kernel_rfl)
attribute [go_sem] f17_eq f17n0 f17r1_f17e0 f17z0_f17e1 f17n2 f17n3 f17r5_f17e0 f17z3_f17e2 f17x6_f17e3 f17n7 f17r9_f17e3 f17z7_f17e4 f17y10_f17e5 f17n8 f17z6_f17e3 f17z2_f17e0 f17n4 f17r11_f17e0 f17z4_f17e6 f17y12_f17e5 f17b_f17e5_r

noncomputable def f23rs : List ResultVar := [ResultVar.tmp (2 : Nat)]
noncomputable def f23c0 : Code := subCode [] (bodyOf Try.prog 23)
def f23a0 : Ann := subAnn [] ann23
noncomputable def f23c1 : Code := subCode [0] (bodyOf Try.prog 23)
def f23a1 : Ann := subAnn [0] ann23
noncomputable def f23c2 : Code := subCode [1] (bodyOf Try.prog 23)
def f23a2 : Ann := subAnn [1] ann23
noncomputable def f23c3 : Code := subCode [1, 0] (bodyOf Try.prog 23)
def f23a3 : Ann := subAnn [1, 0] ann23
noncomputable def f23c4 : Code := subCode [1, 1] (bodyOf Try.prog 23)
def f23a4 : Ann := subAnn [1, 1] ann23
noncomputable def f23c5 : Code := subCode [1, 0, 0] (bodyOf Try.prog 23)
def f23a5 : Ann := subAnn [1, 0, 0] ann23
noncomputable def f23c6 : Code := subCode [1, 0, 0, 0] (bodyOf Try.prog 23)
def f23a6 : Ann := subAnn [1, 0, 0, 0] ann23
noncomputable def f23c7 : Code := subCode [1, 0, 0, 0, 0] (bodyOf Try.prog 23)
def f23a7 : Ann := subAnn [1, 0, 0, 0, 0] ann23
noncomputable def f23c8 : Code := subCode [1, 0, 0, 0, 1] (bodyOf Try.prog 23)
def f23a8 : Ann := subAnn [1, 0, 0, 0, 1] ann23
noncomputable def f23c9 : Code := subCode [1, 0, 0, 0, 0, 0] (bodyOf Try.prog 23)
def f23a9 : Ann := subAnn [1, 0, 0, 0, 0, 0] ann23
noncomputable def f23c10 : Code := subCode [1, 0, 0, 0, 0, 1] (bodyOf Try.prog 23)
def f23a10 : Ann := subAnn [1, 0, 0, 0, 0, 1] ann23
noncomputable def f23c11 : Code := subCode [1, 0, 0, 0, 0, 1, 0] (bodyOf Try.prog 23)
def f23a11 : Ann := subAnn [1, 0, 0, 0, 0, 1, 0] ann23
noncomputable def f23c12 : Code := subCode [1, 0, 0, 0, 0, 1, 1] (bodyOf Try.prog 23)
def f23a12 : Ann := subAnn [1, 0, 0, 0, 0, 1, 1] ann23
noncomputable def f23c13 : Code := subCode [1, 0, 0, 0, 1, 0] (bodyOf Try.prog 23)
def f23a13 : Ann := subAnn [1, 0, 0, 0, 1, 0] ann23
noncomputable def f23c14 : Code := subCode [1, 0, 0, 0, 1, 0, 0] (bodyOf Try.prog 23)
def f23a14 : Ann := subAnn [1, 0, 0, 0, 1, 0, 0] ann23
noncomputable def f23c15 : Code := subCode [1, 0, 0, 0, 1, 0, 1] (bodyOf Try.prog 23)
def f23a15 : Ann := subAnn [1, 0, 0, 0, 1, 0, 1] ann23
noncomputable def f23c16 : Code := subCode [1, 0, 0, 0, 1, 0, 1, 0] (bodyOf Try.prog 23)
def f23a16 : Ann := subAnn [1, 0, 0, 0, 1, 0, 1, 0] ann23
noncomputable def f23c17 : Code := subCode [1, 0, 0, 0, 1, 0, 1, 1] (bodyOf Try.prog 23)
def f23a17 : Ann := subAnn [1, 0, 0, 0, 1, 0, 1, 1] ann23
noncomputable def f23c18 : Code := subCode [1, 0, 0, 0, 1, 0, 1, 0, 0] (bodyOf Try.prog 23)
def f23a18 : Ann := subAnn [1, 0, 0, 0, 1, 0, 1, 0, 0] ann23
noncomputable def f23c19 : Code := subCode [1, 0, 0, 0, 1, 0, 1, 0, 1] (bodyOf Try.prog 23)
def f23a19 : Ann := subAnn [1, 0, 0, 0, 1, 0, 1, 0, 1] ann23
noncomputable def f23c20 : Code := subCode [1, 0, 0, 0, 1, 0, 1, 0, 1, 0] (bodyOf Try.prog 23)
def f23a20 : Ann := subAnn [1, 0, 0, 0, 1, 0, 1, 0, 1, 0] ann23
noncomputable def f23c21 : Code := subCode [1, 0, 0, 0, 1, 0, 1, 0, 1, 1] (bodyOf Try.prog 23)
def f23a21 : Ann := subAnn [1, 0, 0, 0, 1, 0, 1, 0, 1, 1] ann23
noncomputable def f23c22 : Code := subCode [1, 0, 0, 0, 1, 0, 1, 0, 1, 0, 0] (bodyOf Try.prog 23)
def f23a22 : Ann := subAnn [1, 0, 0, 0, 1, 0, 1, 0, 1, 0, 0] ann23
noncomputable def f23c23 : Code := subCode [1, 0, 0, 0, 1, 0, 1, 0, 1, 0, 1] (bodyOf Try.prog 23)
def f23a23 : Ann := subAnn [1, 0, 0, 0, 1, 0, 1, 0, 1, 0, 1] ann23
noncomputable def f23c24 : Code := subCode [1, 1, 0] (bodyOf Try.prog 23)
def f23a24 : Ann := subAnn [1, 1, 0] ann23
noncomputable def f23c25 : Code := subCode [1, 1, 1] (bodyOf Try.prog 23)
def f23a25 : Ann := subAnn [1, 1, 1] ann23
noncomputable def f23L5 {R : Type} (call : Bool → CallF R) (dem : Bool) (N : Nat) : KF R → Env → St → Option R := fun K e σ => runK Try.prog call dem N f23c6 f23a6 K e σ
def f23e0 (y0 : Option (Nat × Nat)) : Env := AV.ptr y0 :: Env.sp 33 []
def f23e1 (y0 : Option (Nat × Nat)) (y1 : Bool) : Env := AV.ptr y0 :: Env.sp 1 (AV.bool y1 :: Env.sp 31 [])
def f23e2 (y0 : Option (Nat × Nat)) (y1 : Option (Nat × Nat)) (y2 : Bool) (y3 : Bool) (y4 : Option (Nat × Nat)) (y5 : Option (Nat × Nat)) (y6 : Option (Nat × Nat)) (y7 : Option (Nat × Nat)) (y8 : Nat) (y9 : Option Nat) (y10 : Int) (y11 : Bool) (y12 : Bool) : Env := AV.ptr y0 :: Env.sp 3 (AV.ptr y1 :: AV.bool y2 :: AV.bool y3 :: AV.ptr y4 :: AV.ptr y5 :: AV.ptr y6 :: AV.slice y7 y8 y9 (4 : Nat) :: AV.int IntKind.i64 y10 :: AV.bool y11 :: AV.bool y12 :: Env.sp 20 [])
def f23e3 (y0 : Option (Nat × Nat)) (y1 : Option (Nat × Nat)) (y2 : Bool) (y3 : Bool) (y4 : Bool) : Env := AV.ptr y0 :: Env.sp 3 (AV.ptr y1 :: AV.bool y2 :: AV.bool y3 :: AV.tuple [] :: AV.tuple [] :: AV.tuple [] :: AV.tuple [] :: AV.tuple [] :: AV.tuple [] :: AV.bool y4 :: Env.sp 20 [])
def f23e4 (y0 : Option (Nat × Nat)) (y1 : Bool) : Env := AV.ptr y0 :: Env.sp 12 (AV.bool y1 :: Env.sp 20 [])
def f23e5 : Env := Env.sp 34 []
def f23e6 (y0 : Option (Nat × Nat)) (y1 : Nat) (y2 : Option (Nat × Nat)) (y3 : Option (Nat × Nat)) (y4 : Option (Nat × Nat)) (y5 : Option (Nat × Nat)) (y6 : Nat) (y7 : Option Nat) (y8 : Option (Nat × Nat)) (y9 : Int) (y10 : Int) (y11 : Int) (y12 : Int) : Env := AV.ptr y0 :: Env.sp 2 (AV.ptr (some (y1, (0 : Nat))) :: Env.sp 10 (AV.ptr y2 :: AV.ptr y3 :: AV.ptr y4 :: AV.slice y5 y6 y7 (4 : Nat) :: AV.ptr y8 :: AV.agg [AV.int IntKind.i64 y9, AV.int IntKind.i64 y10, AV.int IntKind.i64 y11, AV.int IntKind.i64 y12] :: Env.sp 14 []))
def f23e7 (y0 : Option (Nat × Nat)) (y1 : Nat) : Env := AV.ptr y0 :: Env.sp 2 (AV.ptr (some (y1, (0 : Nat))) :: Env.sp 30 [])
def f23e8 (y0 : Option (Nat × Nat)) (y1 : Nat) (y2 : Option (Nat × Nat)) (y3 : Nat) (y4 : Int) (y5 : Option (Nat × Nat)) (y6 : Option (Nat × Nat)) (y7 : Option (Nat × Nat)) (y8 : Int) (y9 : Int) (y10 : Int) (y11 : Int) (y12 : Int) (y13 : Int) (y14 : Int) (y15 : Int) (y16 : Bool) : Env := AV.ptr y0 :: Env.sp 2 (AV.ptr (some (y1, (0 : Nat))) :: Env.sp 16 (AV.ptr y2 :: AV.ptr (some (y3, (0 : Nat))) :: AV.int IntKind.i64 y4 :: AV.ptr y5 :: AV.ptr y6 :: AV.ptr y7 :: AV.agg [AV.int IntKind.i64 y8, AV.int IntKind.i64 y9, AV.int IntKind.i64 y10, AV.int IntKind.i64 y11] :: AV.agg [AV.int IntKind.i64 y12, AV.int IntKind.i64 y13, AV.int IntKind.i64 y14, AV.int IntKind.i64 y15] :: AV.bool y16 :: Env.sp 5 []))
def f23e9 (y0 : Option (Nat × Nat)) (y1 : Bool) : Env := AV.ptr y0 :: Env.sp 27 (AV.bool y1 :: Env.sp 5 [])
def f23e10 (y0 : Option (Nat × Nat)) (y1 : Bool) (y2 : Bool) : Env := AV.ptr y0 :: Env.sp 1 (AV.bool y1 :: Env.sp 25 (AV.bool y2 :: Env.sp 5 []))
def f23e11 (y0 : Bool) : Env := Env.sp 2 (AV.bool y0 :: Env.sp 31 [])
def f23e12 (y0 : Option (Nat × Nat)) (y1 : Option (Nat × Nat)) (y2 : Option (Nat × Nat)) (y3 : Option (Nat × Nat)) (y4 : Option (Nat × Nat)) (y5 : AV) : Env := AV.ptr y0 :: Env.sp 28 (AV.ptr y1 :: AV.ptr y2 :: AV.ptr y3 :: AV.iface (59 : Nat) (AV.ptr y4) :: y5 :: [])

/- function 23 -/
theorem f23_eq {R : Type} (call : Bool → CallF R) (dem : Bool) (N : Nat) (y0 : Option (Nat × Nat)) (σ : St) (K : AV → St → Option R) :
    bodyK Try.prog call dem N ann 23 [AV.ptr y0] σ K = runK Try.prog call dem N f23c0 f23a0 (bodyC Try.prog f23rs K) (f23e0 y0) σ := bodyK_of (fn := ((Try.prog.funcs[23]?).get rfl)) (by kernel_rfl) (by kernel_rfl) (by kernel_rfl) (by kernel_rfl) (by kernel_rfl) (by kernel_rfl)
theorem f23n0 {R : Type} (call : Bool → CallF R) (dem : Bool) (N : Nat) (J : KF R) (e : Env) (σ : St) : runK Try.prog call dem N f23c0 f23a0 J e σ = runK Try.prog call dem N f23c1 f23a1 (seqC (fun K e σ => runK Try.prog call dem N f23c2 f23a2 K e σ) f23a0 J) e σ := runK_seq' (by kernel_rfl) (by kernel_rfl) (by kernel_rfl)
theorem f23r1_f23e0 {R : Type} (call : Bool → CallF R) (dem : Bool) (N : Nat) (y0 : Option (Nat × Nat)) (J : KF R) (σ : St) :
    runK Try.prog call dem N f23c1 f23a1 J (f23e0 y0) σ =
J Ex.normal (f23e1 y0 false) σ := hide (by kernel_rfl)
theorem f23z0_f23e1 (y0 : Option (Nat × Nat)) (y1 : Bool) : Ann.clr f23a0 (f23e1 y0 y1) = f23e0 y0 := hide (by kernel_rfl)
theorem f23n2 {R : Type} (call : Bool → CallF R) (dem : Bool) (N : Nat) (J : KF R) (e : Env) (σ : St) : runK Try.prog call dem N f23c2 f23a2 J e σ = runK Try.prog call dem N f23c3 f23a3 (seqC (fun K e σ => runK Try.prog call dem N f23c4 f23a4 K e σ) f23a2 J) e σ := runK_seq' (by kernel_rfl) (by kernel_rfl) (by kernel_rfl)
theorem f23n3 {R : Type} (call : Bool → CallF R) (dem : Bool) (N : Nat) (J : KF R) (e : Env) (σ : St) : runK Try.prog call dem N f23c3 f23a3 J e σ = runK Try.prog call dem N f23c5 f23a5 (blockC 0 f23a3 J) e σ := runK_block' (by kernel_rfl) (by kernel_rfl)
theorem f23L5_eq {R : Type} (call : Bool → CallF R) (dem : Bool) (N : Nat) (J : KF R) (e : Env) (σ : St) : f23L5 call dem N J e σ = runK Try.prog call dem N f23c6 f23a6 J e σ := hide rfl
theorem f23z5_f23e0 (y0 : Option (Nat × Nat)) : Ann.clr f23a5 (f23e0 y0) = f23e0 y0 := hide (by kernel_rfl)
theorem f23l5_f23e0 {R : Type} (call : Bool → CallF R) (dem : Bool) (N : Nat) (y0 : Option (Nat × Nat)) (J : KF R) (σ : St) : runK Try.prog call dem N f23c5 f23a5 J (f23e0 y0) σ = loopK (f23L5 call dem N) f23a5 N J (f23e0 y0) σ := runK_loop' (by kernel_rfl) (by kernel_rfl) (by kernel_rfl)
theorem f23n6 {R : Type} (call : Bool → CallF R) (dem : Bool) (N : Nat) (J : KF R) (e : Env) (σ : St) : runK Try.prog call dem N f23c6 f23a6 J e σ = runK Try.prog call dem N f23c7 f23a7 (seqC (fun K e σ => runK Try.prog call dem N f23c8 f23a8 K e σ) f23a6 J) e σ := runK_seq' (by kernel_rfl) (by kernel_rfl) (by kernel_rfl)
theorem f23n7 {R : Type} (call : Bool → CallF R) (dem : Bool) (N : Nat) (J : KF R) (e : Env) (σ : St) : runK Try.prog call dem N f23c7 f23a7 J e σ = runK Try.prog call dem N f23c9 f23a9 (seqC (fun K e σ => runK Try.prog call dem N f23c10 f23a10 K e σ) f23a7 J) e σ := runK_seq' (by kernel_rfl) (by kernel_rfl) (by kernel_rfl)
theorem f23r9_f23e0 {R : Type} (call : Bool → CallF R) (dem : Bool) (N : Nat) (y0 : Option (Nat × Nat)) (J : KF R) (σ : St) :
    runK Try.prog call dem N f23c9 f23a9 J (f23e0 y0) σ =
if (!Option.isNone y0) = true then
  Option.bind y0 fun v0 =>
    Option.bind (St.ld σ (Prod.fst v0) (Prod.snd v0 + (2 : Nat))) fun v1 =>
      Option.bind (AV.toSl (4 : Nat) v1) fun v2 =>
        J Ex.normal
          (f23e2 y0 y0 (!Option.isNone y0) true y0 (some v0) (some (Prod.fst v0, Prod.snd v0 + (2 : Nat))) (Sl.o v2) (Sl.len v2) (Sl.cap v2)
            (↑(Sl.len v2) : Int) (decide ((↑(Sl.len v2) : Int) > (0 : Int))) (decide ((↑(Sl.len v2) : Int) > (0 : Int))))
          σ
else J Ex.normal (f23e3 y0 y0 (!Option.isNone y0) false false) σ := hide (by kernel_rfl)
theorem f23z7_f23e2 (y0 : Option (Nat × Nat)) (y1 : Option (Nat × Nat)) (y2 : Bool) (y3 : Bool) (y4 : Option (Nat × Nat)) (y5 : Option (Nat × Nat)) (y6 : Option (Nat × Nat)) (y7 : Option (Nat × Nat)) (y8 : Nat) (y9 : Option Nat) (y10 : Int) (y11 : Bool) (y12 : Bool) : Ann.clr f23a7 (f23e2 y0 y1 y2 y3 y4 y5 y6 y7 y8 y9 y10 y11 y12) = f23e4 y0 y12 := hide (by kernel_rfl)
theorem f23x10_f23e4 {R : Type} (call : Bool → CallF R) (dem : Bool) (N : Nat) (y0 : Option (Nat × Nat)) (y1 : Bool) (J : KF R) (σ : St) : runK Try.prog call dem N f23c10 f23a10 J (f23e4 y0 y1) σ = if y1 = true then runK Try.prog call dem N f23c11 f23a11 (condC f23a10 J) (f23e4 y0 y1) σ else runK Try.prog call dem N f23c12 f23a12 (condC f23a10 J) (f23e4 y0 y1) σ := runK_cond' (o := Operand.tmp (13 : Nat)) (by kernel_rfl) (by kernel_rfl) (by kernel_rfl) (by kernel_rfl)
theorem f23n11 {R : Type} (call : Bool → CallF R) (dem : Bool) (N : Nat) (J : KF R) (e : Env) (σ : St) : runK Try.prog call dem N f23c11 f23a11 J e σ = J .normal e σ := runK_skip' (by kernel_rfl)
theorem f23z10_f23e4 (y0 : Option (Nat × Nat)) (y1 : Bool) : Ann.clr f23a10 (f23e4 y0 y1) = f23e0 y0 := hide (by kernel_rfl)
theorem f23y12_f23e4 {R : Type} (call : Bool → CallF R) (dem : Bool) (N : Nat) (y0 : Option (Nat × Nat)) (y1 : Bool) (J : KF R) (σ : St) : runK Try.prog call dem N f23c12 f23a12 J (f23e4 y0 y1) σ = J (.exit 0) (f23e5) σ := runK_exit' (by kernel_rfl) (by kernel_rfl)
theorem f23z7_f23e3 (y0 : Option (Nat × Nat)) (y1 : Option (Nat × Nat)) (y2 : Bool) (y3 : Bool) (y4 : Bool) : Ann.clr f23a7 (f23e3 y0 y1 y2 y3 y4) = f23e4 y0 y4 := hide (by kernel_rfl)
theorem f23z6_f23e0 (y0 : Option (Nat × Nat)) : Ann.clr f23a6 (f23e0 y0) = f23e0 y0 := hide (by kernel_rfl)
theorem f23n8 {R : Type} (call : Bool → CallF R) (dem : Bool) (N : Nat) (J : KF R) (e : Env) (σ : St) : runK Try.prog call dem N f23c8 f23a8 J e σ = runK Try.prog call dem N f23c13 f23a13 (blockC 1 f23a8 J) e σ := runK_block' (by kernel_rfl) (by kernel_rfl)
theorem f23n13 {R : Type} (call : Bool → CallF R) (dem : Bool) (N : Nat) (J : KF R) (e : Env) (σ : St) : runK Try.prog call dem N f23c13 f23a13 J e σ = runK Try.prog call dem N f23c14 f23a14 (seqC (fun K e σ => runK Try.prog call dem N f23c15 f23a15 K e σ) f23a13 J) e σ := runK_seq' (by kernel_rfl) (by kernel_rfl) (by kernel_rfl)
theorem f23r14_f23e0 {R : Type} (call : Bool → CallF R) (dem : Bool) (N : Nat) (y0 : Option (Nat × Nat)) (J : KF R) (σ : St) :
    runK Try.prog call dem N f23c14 f23a14 J (f23e0 y0) σ =
Option.bind y0 fun v0 =>
  Option.bind (St.ld σ (Prod.fst v0) (Prod.snd v0 + (2 : Nat))) fun v1 =>
    Option.bind (AV.toSl (4 : Nat) v1) fun v2 =>
      if (0 : Int) ≤ (0 : Int) ∧ (0 : Int) < (↑(Sl.len v2) : Int) then
        Option.bind (Sl.o v2) fun v3 =>
          Option.bind (St.ld σ (Prod.fst v3) (Prod.snd v3)) fun v4 =>
            Option.bind (AV.toInt IntKind.i64 v4) fun v5 =>
              Option.bind (St.ld σ (Prod.fst v3) (Prod.snd v3 + (1 : Nat))) fun v6 =>
                Option.bind (AV.toInt IntKind.i64 v6) fun v7 =>
                  Option.bind (St.ld σ (Prod.fst v3) (Prod.snd v3 + (2 : Nat))) fun v8 =>
                    Option.bind (AV.toInt IntKind.i64 v8) fun v9 =>
                      Option.bind (St.ld σ (Prod.fst v3) (Prod.snd v3 + (3 : Nat))) fun v10 =>
                        Option.bind (AV.toInt IntKind.i64 v10) fun v11 =>
                          Option.bind
                            (St.st
                              (St.new σ
                                (Blk.cells
                                  [AV.int IntKind.i64 (0 : Int), AV.int IntKind.i64 (0 : Int), AV.int IntKind.i64 (0 : Int),
                                    AV.int IntKind.i64 (0 : Int)]
                                  true))
                              (St.next σ) (0 : Nat) [AV.int IntKind.i64 v5, AV.int IntKind.i64 v7, AV.int IntKind.i64 v9, AV.int IntKind.i64 v11])
                            fun v12 =>
                            J Ex.normal
                              (f23e6 y0 (St.next σ) y0 (some v0) (some (Prod.fst v0, Prod.snd v0 + (2 : Nat))) (Sl.o v2) (Sl.len v2) (Sl.cap v2)
                                (some (Prod.fst v3, Prod.snd v3)) v5 v7 v9 v11)
                              v12
      else none := hide (by kernel_rfl)
theorem f23z13_f23e6 (y0 : Option (Nat × Nat)) (y1 : Nat) (y2 : Option (Nat × Nat)) (y3 : Option (Nat × Nat)) (y4 : Option (Nat × Nat)) (y5 : Option (Nat × Nat)) (y6 : Nat) (y7 : Option Nat) (y8 : Option (Nat × Nat)) (y9 : Int) (y10 : Int) (y11 : Int) (y12 : Int) : Ann.clr f23a13 (f23e6 y0 y1 y2 y3 y4 y5 y6 y7 y8 y9 y10 y11 y12) = f23e7 y0 y1 := hide (by kernel_rfl)
theorem f23n15 {R : Type} (call : Bool → CallF R) (dem : Bool) (N : Nat) (J : KF R) (e : Env) (σ : St) : runK Try.prog call dem N f23c15 f23a15 J e σ = runK Try.prog call dem N f23c16 f23a16 (seqC (fun K e σ => runK Try.prog call dem N f23c17 f23a17 K e σ) f23a15 J) e σ := runK_seq' (by kernel_rfl) (by kernel_rfl) (by kernel_rfl)
theorem f23n16 {R : Type} (call : Bool → CallF R) (dem : Bool) (N : Nat) (J : KF R) (e : Env) (σ : St) : runK Try.prog call dem N f23c16 f23a16 J e σ = runK Try.prog call dem N f23c18 f23a18 (seqC (fun K e σ => runK Try.prog call dem N f23c19 f23a19 K e σ) f23a16 J) e σ := runK_seq' (by kernel_rfl) (by kernel_rfl) (by kernel_rfl)
theorem f23r18_f23e7 {R : Type} (call : Bool → CallF R) (dem : Bool) (N : Nat) (y0 : Option (Nat × Nat)) (y1 : Nat) (J : KF R) (σ : St) :
    runK Try.prog call dem N f23c18 f23a18 J (f23e7 y0 y1) σ =
Option.bind (St.ld σ y1 (0 : Nat)) fun v0 =>
  Option.bind (AV.toInt IntKind.i64 v0) fun v1 =>
    Option.bind y0 fun v2 =>
      if (0 : Nat) < (4 : Nat) ∧ (0 : Int) ≤ v1 ∧ v1 < (16 : Int) then
        Option.bind (St.ld σ (Prod.fst v2) (Prod.snd v2 + (3 : Nat) + Int.toNat v1 * (4 : Nat))) fun v3 =>
          Option.bind (AV.toInt IntKind.i64 v3) fun v4 =>
            Option.bind (St.ld σ (Prod.fst v2) (Prod.snd v2 + (3 : Nat) + Int.toNat v1 * (4 : Nat) + (1 : Nat))) fun v5 =>
              Option.bind (AV.toInt IntKind.i64 v5) fun v6 =>
                Option.bind (St.ld σ (Prod.fst v2) (Prod.snd v2 + (3 : Nat) + Int.toNat v1 * (4 : Nat) + (2 : Nat))) fun v7 =>
                  Option.bind (AV.toInt IntKind.i64 v7) fun v8 =>
                    Option.bind (St.ld σ (Prod.fst v2) (Prod.snd v2 + (3 : Nat) + Int.toNat v1 * (4 : Nat) + (3 : Nat))) fun v9 =>
                      Option.bind (AV.toInt IntKind.i64 v9) fun v10 =>
                        Option.bind (St.ld σ y1 (0 : Nat)) fun v11 =>
                          Option.bind (AV.toInt IntKind.i64 v11) fun v12 =>
                            Option.bind (St.ld σ y1 (1 : Nat)) fun v13 =>
                              Option.bind (AV.toInt IntKind.i64 v13) fun v14 =>
                                Option.bind (St.ld σ y1 (2 : Nat)) fun v15 =>
                                  Option.bind (AV.toInt IntKind.i64 v15) fun v16 =>
                                    Option.bind (St.ld σ y1 (3 : Nat)) fun v17 =>
                                      Option.bind (AV.toInt IntKind.i64 v17) fun v18 =>
                                        J Ex.normal
                                          (f23e8 y0 y1 y0 y1 v1 (some v2) (some (Prod.fst v2, Prod.snd v2 + (3 : Nat)))
                                            (some (Prod.fst v2, Prod.snd v2 + (3 : Nat) + Int.toNat v1 * (4 : Nat))) v4 v6 v8 v10 v12 v14 v16 v18
                                            (v4 == v12 && (v6 == v14 && (v8 == v16 && (v10 == v18 && true)))))
                                          σ
      else none := hide (by kernel_rfl)
theorem f23z16_f23e8 (y0 : Option (Nat × Nat)) (y1 : Nat) (y2 : Option (Nat × Nat)) (y3 : Nat) (y4 : Int) (y5 : Option (Nat × Nat)) (y6 : Option (Nat × Nat)) (y7 : Option (Nat × Nat)) (y8 : Int) (y9 : Int) (y10 : Int) (y11 : Int) (y12 : Int) (y13 : Int) (y14 : Int) (y15 : Int) (y16 : Bool) : Ann.clr f23a16 (f23e8 y0 y1 y2 y3 y4 y5 y6 y7 y8 y9 y10 y11 y12 y13 y14 y15 y16) = f23e9 y0 y16 := hide (by kernel_rfl)
theorem f23x19_f23e9 {R : Type} (call : Bool → CallF R) (dem : Bool) (N : Nat) (y0 : Option (Nat × Nat)) (y1 : Bool) (J : KF R) (σ : St) : runK Try.prog call dem N f23c19 f23a19 J (f23e9 y0 y1) σ = if y1 = true then runK Try.prog call dem N f23c20 f23a20 (condC f23a19 J) (f23e9 y0 y1) σ else runK Try.prog call dem N f23c21 f23a21 (condC f23a19 J) (f23e9 y0 y1) σ := runK_cond' (o := Operand.tmp (28 : Nat)) (by kernel_rfl) (by kernel_rfl) (by kernel_rfl) (by kernel_rfl)
theorem f23n20 {R : Type} (call : Bool → CallF R) (dem : Bool) (N : Nat) (J : KF R) (e : Env) (σ : St) : runK Try.prog call dem N f23c20 f23a20 J e σ = runK Try.prog call dem N f23c22 f23a22 (seqC (fun K e σ => runK Try.prog call dem N f23c23 f23a23 K e σ) f23a20 J) e σ := runK_seq' (by kernel_rfl) (by kernel_rfl) (by kernel_rfl)
theorem f23r22_f23e9 {R : Type} (call : Bool → CallF R) (dem : Bool) (N : Nat) (y0 : Option (Nat × Nat)) (y1 : Bool) (J : KF R) (σ : St) :
    runK Try.prog call dem N f23c22 f23a22 J (f23e9 y0 y1) σ =
J Ex.normal (f23e10 y0 true y1) σ := hide (by kernel_rfl)
theorem f23z20_f23e10 (y0 : Option (Nat × Nat)) (y1 : Bool) (y2 : Bool) : Ann.clr f23a20 (f23e10 y0 y1 y2) = f23e11 y1 := hide (by kernel_rfl)
theorem f23y23_f23e11 {R : Type} (call : Bool → CallF R) (dem : Bool) (N : Nat) (y0 : Bool) (J : KF R) (σ : St) : runK Try.prog call dem N f23c23 f23a23 J (f23e11 y0) σ = J .ret (f23e11 y0) σ := runK_ret' (by kernel_rfl) (by kernel_rfl)
theorem f23n21 {R : Type} (call : Bool → CallF R) (dem : Bool) (N : Nat) (J : KF R) (e : Env) (σ : St) : runK Try.prog call dem N f23c21 f23a21 J e σ = J .normal e σ := runK_skip' (by kernel_rfl)
theorem f23z19_f23e9 (y0 : Option (Nat × Nat)) (y1 : Bool) : Ann.clr f23a19 (f23e9 y0 y1) = f23e0 y0 := hide (by kernel_rfl)
theorem f23z15_f23e0 (y0 : Option (Nat × Nat)) : Ann.clr f23a15 (f23e0 y0) = f23e0 y0 := hide (by kernel_rfl)
theorem f23r17_f23e0 {R : Type} (call : Bool → CallF R) (dem : Bool) (N : Nat) (y0 : Option (Nat × Nat)) (J : KF R) (σ : St) :
    runK Try.prog call dem N f23c17 f23a17 J (f23e0 y0) σ =
Option.bind y0 fun v0 =>
  call dem (24 : Nat) [AV.iface (59 : Nat) (AV.ptr (some (Prod.fst v0, Prod.snd v0 + (2 : Nat))))] σ fun v1 v2 =>
    if AV.one v1 = true then
      J Ex.normal (f23e12 y0 y0 (some v0) (some (Prod.fst v0, Prod.snd v0 + (2 : Nat))) (some (Prod.fst v0, Prod.snd v0 + (2 : Nat))) v1) v2
    else none := hide (by kernel_rfl)
theorem f23z8_f23e12 (y0 : Option (Nat × Nat)) (y1 : Option (Nat × Nat)) (y2 : Option (Nat × Nat)) (y3 : Option (Nat × Nat)) (y4 : Option (Nat × Nat)) (y5 : AV) : Ann.clr f23a8 (f23e12 y0 y1 y2 y3 y4 y5) = f23e0 y0 := hide (by kernel_rfl)
theorem f23z3_f23e5 : Ann.clr f23a3 (f23e5) = f23e5 := hide (by kernel_rfl)
theorem f23z2_f23e5 : Ann.clr f23a2 (f23e5) = f23e5 := hide (by kernel_rfl)
theorem f23n4 {R : Type} (call : Bool → CallF R) (dem : Bool) (N : Nat) (J : KF R) (e : Env) (σ : St) : runK Try.prog call dem N f23c4 f23a4 J e σ = runK Try.prog call dem N f23c24 f23a24 (seqC (fun K e σ => runK Try.prog call dem N f23c25 f23a25 K e σ) f23a4 J) e σ := runK_seq' (by kernel_rfl) (by kernel_rfl) (by kernel_rfl)
theorem f23r24_f23e5 {R : Type} (call : Bool → CallF R) (dem : Bool) (N : Nat) (J : KF R) (σ : St) :
    runK Try.prog call dem N f23c24 f23a24 J (f23e5) σ =
J Ex.normal (f23e11 false) σ := hide (by kernel_rfl)
theorem f23z4_f23e11 (y0 : Bool) : Ann.clr f23a4 (f23e11 y0) = f23e11 y0 := hide (by kernel_rfl)
theorem f23y25_f23e11 {R : Type} (call : Bool → CallF R) (dem : Bool) (N : Nat) (y0 : Bool) (J : KF R) (σ : St) : runK Try.prog call dem N f23c25 f23a25 J (f23e11 y0) σ = J .ret (f23e11 y0) σ := runK_ret' (by kernel_rfl) (by kernel_rfl)
theorem f23b_f23e11_r {R : Type} (y0 : Bool) (σ : St) (K : AV → St → Option R) : bodyC Try.prog f23rs K (Ex.ret) (f23e11 y0) σ =
K (AV.bool y0) σ := hide (by kernel_rfl)
attribute [go_sem] f23_eq f23n0 f23r1_f23e0 f23z0_f23e1 f23n2 f23n3 f23L5_eq f23z5_f23e0 f23l5_f23e0 f23n6 f23n7 f23r9_f23e0 f23z7_f23e2 f23x10_f23e4 f23n11 f23z10_f23e4 f23y12_f23e4 f23z7_f23e3 f23z6_f23e0 f23n8 f23n13 f23r14_f23e0 f23z13_f23e6 f23n15 f23n16 f23r18_f23e7 f23z16_f23e8 f23x19_f23e9 f23n20 f23r22_f23e9 f23z20_f23e10 f23y23_f23e11 f23n21 f23z19_f23e9 f23z15_f23e0 f23r17_f23e0 f23z8_f23e12 f23z3_f23e5 f23z2_f23e5 f23n4 f23r24_f23e5 f23z4_f23e11 f23y25_f23e11 f23b_f23e11_r

end Go.Proofs.Ytciibgjmdgpgnaa
