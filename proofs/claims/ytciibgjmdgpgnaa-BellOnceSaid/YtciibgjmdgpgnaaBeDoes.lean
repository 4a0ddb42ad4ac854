/- What the machine does with each piece of code, in plain text. PRINTED by a program of this workplace; Lean checks it. -/
import Derived.Test.YtciibgjmdgpgnaaBeAnn
import Derived.Test.YtciibgjmdgpgnaaProg
import Derived.KernelRfl
import Derived.Attr
namespace Go.Proofs.Ytciibgjmdgpgnaa
open Go.AM
set_option maxRecDepth 100000
set_option linter.unusedVariables false
noncomputable def f16rs : List ResultVar := [ResultVar.tmp (6 : Nat)]
noncomputable def f16c0 : Code := subCode [] (bodyOf Try.prog 16)
def f16a0 : Ann := subAnn [] ann16
noncomputable def f16c1 : Code := subCode [0] (bodyOf Try.prog 16)
def f16a1 : Ann := subAnn [0] ann16
noncomputable def f16c2 : Code := subCode [1] (bodyOf Try.prog 16)
def f16a2 : Ann := subAnn [1] ann16
noncomputable def f16c3 : Code := subCode [1, 0] (bodyOf Try.prog 16)
def f16a3 : Ann := subAnn [1, 0] ann16
noncomputable def f16c4 : Code := subCode [1, 1] (bodyOf Try.prog 16)
def f16a4 : Ann := subAnn [1, 1] ann16
noncomputable def f16c5 : Code := subCode [1, 0, 0] (bodyOf Try.prog 16)
def f16a5 : Ann := subAnn [1, 0, 0] ann16
noncomputable def f16c6 : Code := subCode [1, 0, 1] (bodyOf Try.prog 16)
def f16a6 : Ann := subAnn [1, 0, 1] ann16
noncomputable def f16c7 : Code := subCode [1, 0, 1, 0] (bodyOf Try.prog 16)
def f16a7 : Ann := subAnn [1, 0, 1, 0] ann16
noncomputable def f16c8 : Code := subCode [1, 0, 1, 0, 0] (bodyOf Try.prog 16)
def f16a8 : Ann := subAnn [1, 0, 1, 0, 0] ann16
noncomputable def f16c9 : Code := subCode [1, 0, 1, 0, 1] (bodyOf Try.prog 16)
def f16a9 : Ann := subAnn [1, 0, 1, 0, 1] ann16
noncomputable def f16c10 : Code := subCode [1, 0, 1, 0, 0, 0] (bodyOf Try.prog 16)
def f16a10 : Ann := subAnn [1, 0, 1, 0, 0, 0] ann16
noncomputable def f16c11 : Code := subCode [1, 0, 1, 0, 0, 1] (bodyOf Try.prog 16)
def f16a11 : Ann := subAnn [1, 0, 1, 0, 0, 1] ann16
noncomputable def f16c12 : Code := subCode [1, 0, 1, 0, 0, 1, 0] (bodyOf Try.prog 16)
def f16a12 : Ann := subAnn [1, 0, 1, 0, 0, 1, 0] ann16
noncomputable def f16c13 : Code := subCode [1, 0, 1, 0, 0, 1, 1] (bodyOf Try.prog 16)
def f16a13 : Ann := subAnn [1, 0, 1, 0, 0, 1, 1] ann16
noncomputable def f16c14 : Code := subCode [1, 0, 1, 0, 1, 0] (bodyOf Try.prog 16)
def f16a14 : Ann := subAnn [1, 0, 1, 0, 1, 0] ann16
noncomputable def f16c15 : Code := subCode [1, 0, 1, 0, 1, 1] (bodyOf Try.prog 16)
def f16a15 : Ann := subAnn [1, 0, 1, 0, 1, 1] ann16
noncomputable def f16c16 : Code := subCode [1, 0, 1, 0, 1, 0, 0] (bodyOf Try.prog 16)
def f16a16 : Ann := subAnn [1, 0, 1, 0, 1, 0, 0] ann16
noncomputable def f16c17 : Code := subCode [1, 0, 1, 0, 1, 0, 1] (bodyOf Try.prog 16)
def f16a17 : Ann := subAnn [1, 0, 1, 0, 1, 0, 1] ann16
noncomputable def f16c18 : Code := subCode [1, 0, 1, 0, 1, 1, 0] (bodyOf Try.prog 16)
def f16a18 : Ann := subAnn [1, 0, 1, 0, 1, 1, 0] ann16
noncomputable def f16c19 : Code := subCode [1, 0, 1, 0, 1, 1, 1] (bodyOf Try.prog 16)
def f16a19 : Ann := subAnn [1, 0, 1, 0, 1, 1, 1] ann16
noncomputable def f16c20 : Code := subCode [1, 0, 1, 0, 1, 1, 1, 0] (bodyOf Try.prog 16)
def f16a20 : Ann := subAnn [1, 0, 1, 0, 1, 1, 1, 0] ann16
noncomputable def f16c21 : Code := subCode [1, 0, 1, 0, 1, 1, 1, 1] (bodyOf Try.prog 16)
def f16a21 : Ann := subAnn [1, 0, 1, 0, 1, 1, 1, 1] ann16
noncomputable def f16c22 : Code := subCode [1, 0, 1, 0, 1, 1, 1, 0, 0] (bodyOf Try.prog 16)
def f16a22 : Ann := subAnn [1, 0, 1, 0, 1, 1, 1, 0, 0] ann16
noncomputable def f16c23 : Code := subCode [1, 0, 1, 0, 1, 1, 1, 0, 1] (bodyOf Try.prog 16)
def f16a23 : Ann := subAnn [1, 0, 1, 0, 1, 1, 1, 0, 1] ann16
noncomputable def f16c24 : Code := subCode [1, 0, 1, 0, 1, 1, 1, 0, 1, 0] (bodyOf Try.prog 16)
def f16a24 : Ann := subAnn [1, 0, 1, 0, 1, 1, 1, 0, 1, 0] ann16
noncomputable def f16c25 : Code := subCode [1, 0, 1, 0, 1, 1, 1, 0, 1, 1] (bodyOf Try.prog 16)
def f16a25 : Ann := subAnn [1, 0, 1, 0, 1, 1, 1, 0, 1, 1] ann16
noncomputable def f16c26 : Code := subCode [1, 0, 1, 0, 1, 1, 1, 0, 1, 1, 0] (bodyOf Try.prog 16)
def f16a26 : Ann := subAnn [1, 0, 1, 0, 1, 1, 1, 0, 1, 1, 0] ann16
noncomputable def f16c27 : Code := subCode [1, 0, 1, 0, 1, 1, 1, 0, 1, 1, 1] (bodyOf Try.prog 16)
def f16a27 : Ann := subAnn [1, 0, 1, 0, 1, 1, 1, 0, 1, 1, 1] ann16
noncomputable def f16c28 : Code := subCode [1, 0, 1, 0, 1, 1, 1, 1, 0] (bodyOf Try.prog 16)
def f16a28 : Ann := subAnn [1, 0, 1, 0, 1, 1, 1, 1, 0] ann16
noncomputable def f16c29 : Code := subCode [1, 0, 1, 0, 1, 1, 1, 1, 1] (bodyOf Try.prog 16)
def f16a29 : Ann := subAnn [1, 0, 1, 0, 1, 1, 1, 1, 1] ann16
noncomputable def f16c30 : Code := subCode [1, 0, 1, 0, 1, 1, 1, 1, 1, 0] (bodyOf Try.prog 16)
def f16a30 : Ann := subAnn [1, 0, 1, 0, 1, 1, 1, 1, 1, 0] ann16
noncomputable def f16c31 : Code := subCode [1, 0, 1, 0, 1, 1, 1, 1, 1, 1] (bodyOf Try.prog 16)
def f16a31 : Ann := subAnn [1, 0, 1, 0, 1, 1, 1, 1, 1, 1] ann16
noncomputable def f16c32 : Code := subCode [1, 0, 1, 0, 1, 1, 1, 1, 1, 0, 0] (bodyOf Try.prog 16)
def f16a32 : Ann := subAnn [1, 0, 1, 0, 1, 1, 1, 1, 1, 0, 0] ann16
noncomputable def f16c33 : Code := subCode [1, 0, 1, 0, 1, 1, 1, 1, 1, 0, 1] (bodyOf Try.prog 16)
def f16a33 : Ann := subAnn [1, 0, 1, 0, 1, 1, 1, 1, 1, 0, 1] ann16
noncomputable def f16c34 : Code := subCode [1, 0, 1, 0, 1, 1, 1, 1, 1, 0, 1, 0] (bodyOf Try.prog 16)
def f16a34 : Ann := subAnn [1, 0, 1, 0, 1, 1, 1, 1, 1, 0, 1, 0] ann16
noncomputable def f16c35 : Code := subCode [1, 0, 1, 0, 1, 1, 1, 1, 1, 0, 1, 1] (bodyOf Try.prog 16)
def f16a35 : Ann := subAnn [1, 0, 1, 0, 1, 1, 1, 1, 1, 0, 1, 1] ann16
noncomputable def f16c36 : Code := subCode [1, 0, 1, 0, 1, 1, 1, 1, 1, 0, 1, 1, 0] (bodyOf Try.prog 16)
def f16a36 : Ann := subAnn [1, 0, 1, 0, 1, 1, 1, 1, 1, 0, 1, 1, 0] ann16
noncomputable def f16c37 : Code := subCode [1, 0, 1, 0, 1, 1, 1, 1, 1, 0, 1, 1, 1] (bodyOf Try.prog 16)
def f16a37 : Ann := subAnn [1, 0, 1, 0, 1, 1, 1, 1, 1, 0, 1, 1, 1] ann16
noncomputable def f16c38 : Code := subCode [1, 0, 1, 0, 1, 1, 1, 1, 1, 1, 0] (bodyOf Try.prog 16)
def f16a38 : Ann := subAnn [1, 0, 1, 0, 1, 1, 1, 1, 1, 1, 0] ann16
noncomputable def f16c39 : Code := subCode [1, 0, 1, 0, 1, 1, 1, 1, 1, 1, 1] (bodyOf Try.prog 16)
def f16a39 : Ann := subAnn [1, 0, 1, 0, 1, 1, 1, 1, 1, 1, 1] ann16
noncomputable def f16c40 : Code := subCode [1, 0, 1, 0, 1, 1, 1, 1, 1, 1, 1, 0] (bodyOf Try.prog 16)
def f16a40 : Ann := subAnn [1, 0, 1, 0, 1, 1, 1, 1, 1, 1, 1, 0] ann16
noncomputable def f16c41 : Code := subCode [1, 0, 1, 0, 1, 1, 1, 1, 1, 1, 1, 1] (bodyOf Try.prog 16)
def f16a41 : Ann := subAnn [1, 0, 1, 0, 1, 1, 1, 1, 1, 1, 1, 1] ann16
noncomputable def f16c42 : Code := subCode [1, 0, 1, 0, 1, 1, 1, 1, 1, 1, 1, 0, 0] (bodyOf Try.prog 16)
def f16a42 : Ann := subAnn [1, 0, 1, 0, 1, 1, 1, 1, 1, 1, 1, 0, 0] ann16
noncomputable def f16c43 : Code := subCode [1, 0, 1, 0, 1, 1, 1, 1, 1, 1, 1, 0, 1] (bodyOf Try.prog 16)
def f16a43 : Ann := subAnn [1, 0, 1, 0, 1, 1, 1, 1, 1, 1, 1, 0, 1] ann16
noncomputable def f16c44 : Code := subCode [1, 0, 1, 0, 1, 1, 1, 1, 1, 1, 1, 0, 1, 0] (bodyOf Try.prog 16)
def f16a44 : Ann := subAnn [1, 0, 1, 0, 1, 1, 1, 1, 1, 1, 1, 0, 1, 0] ann16
noncomputable def f16c45 : Code := subCode [1, 0, 1, 0, 1, 1, 1, 1, 1, 1, 1, 0, 1, 1] (bodyOf Try.prog 16)
def f16a45 : Ann := subAnn [1, 0, 1, 0, 1, 1, 1, 1, 1, 1, 1, 0, 1, 1] ann16
noncomputable def f16c46 : Code := subCode [1, 0, 1, 0, 1, 1, 1, 1, 1, 1, 1, 0, 1, 1, 0] (bodyOf Try.prog 16)
def f16a46 : Ann := subAnn [1, 0, 1, 0, 1, 1, 1, 1, 1, 1, 1, 0, 1, 1, 0] ann16
noncomputable def f16c47 : Code := subCode [1, 0, 1, 0, 1, 1, 1, 1, 1, 1, 1, 0, 1, 1, 1] (bodyOf Try.prog 16)
def f16a47 : Ann := subAnn [1, 0, 1, 0, 1, 1, 1, 1, 1, 1, 1, 0, 1, 1, 1] ann16
noncomputable def f16c48 : Code := subCode [1, 1, 0] (bodyOf Try.prog 16)
def f16a48 : Ann := subAnn [1, 1, 0] ann16
noncomputable def f16c49 : Code := subCode [1, 1, 1] (bodyOf Try.prog 16)
def f16a49 : Ann := subAnn [1, 1, 1] ann16
def f16e0 (y0 : Option (Nat × Nat)) (y1 : Option (Nat × Nat)) (y2 : Int) (y3 : Int) (y4 : Int) : Env := AV.ptr y0 :: AV.ptr y1 :: AV.agg [AV.int IntKind.i64 y2, AV.int IntKind.i64 y3, AV.int IntKind.i64 y4] :: Env.sp 106 []
def f16e1 (y0 : Option (Nat × Nat)) (y1 : Option (Nat × Nat)) (y2 : Int) (y3 : Int) (y4 : Int) (y5 : Nat) (y6 : Bool) : Env := AV.ptr y0 :: AV.ptr y1 :: AV.agg [AV.int IntKind.i64 y2, AV.int IntKind.i64 y3, AV.int IntKind.i64 y4] :: Env.sp 2 (AV.ptr (some (y5, (0 : Nat))) :: AV.bool y6 :: Env.sp 102 [])
def f16e2 (y0 : Option (Nat × Nat)) (y1 : Option (Nat × Nat)) (y2 : Nat) : Env := AV.ptr y0 :: AV.ptr y1 :: Env.sp 3 (AV.ptr (some (y2, (0 : Nat))) :: Env.sp 103 [])
def f16e3 (y0 : Option (Nat × Nat)) (y1 : Option (Nat × Nat)) (y2 : Nat) (y3 : Nat) (y4 : Int) : Env := AV.ptr y0 :: AV.ptr y1 :: Env.sp 3 (AV.ptr (some (y2, (0 : Nat))) :: Env.sp 13 (AV.ptr (some (y3, (0 : Nat))) :: AV.int IntKind.i64 y4 :: Env.sp 88 []))
def f16e4 (y0 : Option (Nat × Nat)) (y1 : Option (Nat × Nat)) (y2 : Nat) (y3 : Int) : Env := AV.ptr y0 :: AV.ptr y1 :: Env.sp 3 (AV.ptr (some (y2, (0 : Nat))) :: Env.sp 14 (AV.int IntKind.i64 y3 :: Env.sp 88 []))
def f16e5 (y0 : Option (Nat × Nat)) (y1 : Option (Nat × Nat)) (y2 : Nat) (y3 : Int) (y4 : Bool) (y5 : Bool) : Env := AV.ptr y0 :: AV.ptr y1 :: Env.sp 3 (AV.ptr (some (y2, (0 : Nat))) :: Env.sp 14 (AV.int IntKind.i64 y3 :: AV.bool y4 :: AV.bool y5 :: Env.sp 86 []))
def f16e6 (y0 : Option (Nat × Nat)) (y1 : Option (Nat × Nat)) (y2 : Nat) (y3 : Int) (y4 : Bool) : Env := AV.ptr y0 :: AV.ptr y1 :: Env.sp 3 (AV.ptr (some (y2, (0 : Nat))) :: Env.sp 14 (AV.int IntKind.i64 y3 :: AV.bool y4 :: Env.sp 87 []))
def f16e7 (y0 : Option (Nat × Nat)) (y1 : Option (Nat × Nat)) (y2 : Nat) (y3 : Int) (y4 : Bool) (y5 : Bool) : Env := AV.ptr y0 :: AV.ptr y1 :: Env.sp 3 (AV.ptr (some (y2, (0 : Nat))) :: Env.sp 14 (AV.int IntKind.i64 y3 :: AV.bool y4 :: Env.sp 1 (AV.bool y5 :: Env.sp 85 [])))
def f16e8 (y0 : Option (Nat × Nat)) (y1 : Option (Nat × Nat)) (y2 : Nat) (y3 : Bool) (y4 : Int) (y5 : Bool) (y6 : Option (Nat × Nat)) (y7 : Nat) (y8 : Int) (y9 : Nat) (y10 : Int) (y11 : Int) (y12 : Option (Nat × Nat)) (y13 : Nat) (y14 : Int) (y15 : Nat) (y16 : Int) (y17 : Int) (y18 : Bool) : Env := AV.ptr y0 :: AV.ptr y1 :: Env.sp 3 (AV.ptr (some (y2, (0 : Nat))) :: AV.bool y3 :: Env.sp 13 (AV.int IntKind.i64 y4 :: AV.bool y5 :: Env.sp 2 (AV.ptr y6 :: AV.ptr (some (y7, (1 : Nat))) :: AV.int IntKind.i64 y8 :: AV.ptr (some (y9, (2 : Nat))) :: AV.int IntKind.i64 y10 :: AV.int IntKind.i64 y11 :: AV.ptr y12 :: AV.ptr (some (y13, (1 : Nat))) :: AV.int IntKind.i64 y14 :: AV.ptr (some (y15, (2 : Nat))) :: AV.int IntKind.i64 y16 :: AV.int IntKind.i64 y17 :: AV.bool y18 :: Env.sp 72 [])))
def f16e9 (y0 : Bool) : Env := Env.sp 6 (AV.bool y0 :: Env.sp 102 [])
def f16e10 (y0 : Option (Nat × Nat)) (y1 : Option (Nat × Nat)) (y2 : Nat) (y3 : Int) (y4 : Bool) (y5 : Bool) (y6 : Bool) : Env := AV.ptr y0 :: AV.ptr y1 :: Env.sp 3 (AV.ptr (some (y2, (0 : Nat))) :: Env.sp 14 (AV.int IntKind.i64 y3 :: AV.bool y4 :: Env.sp 15 (AV.bool y5 :: AV.bool y6 :: Env.sp 70 [])))
def f16e11 (y0 : Option (Nat × Nat)) (y1 : Option (Nat × Nat)) (y2 : Nat) (y3 : Int) (y4 : Bool) : Env := AV.ptr y0 :: AV.ptr y1 :: Env.sp 3 (AV.ptr (some (y2, (0 : Nat))) :: Env.sp 14 (AV.int IntKind.i64 y3 :: Env.sp 16 (AV.bool y4 :: Env.sp 71 [])))
def f16e12 (y0 : Option (Nat × Nat)) (y1 : Option (Nat × Nat)) (y2 : Nat) (y3 : Bool) (y4 : Int) (y5 : Int) (y6 : Bool) (y7 : Bool) (y8 : Int) (y9 : Option (Nat × Nat)) (y10 : Nat) (y11 : Int) (y12 : Bool) (y13 : Int) (y14 : Bool) (y15 : Int) : Env := AV.ptr y0 :: AV.ptr y1 :: Env.sp 3 (AV.ptr (some (y2, (0 : Nat))) :: Env.sp 1 (AV.bool y3 :: AV.int IntKind.i64 y4 :: Env.sp 11 (AV.int IntKind.i64 y5 :: Env.sp 16 (AV.bool y6 :: Env.sp 1 (AV.tuple [AV.bool y7, AV.int IntKind.i64 y8] :: AV.ptr y9 :: AV.ptr (some (y10, (1 : Nat))) :: AV.int IntKind.i64 y11 :: AV.tuple [AV.bool y12, AV.int IntKind.i64 y13] :: AV.bool y14 :: AV.int IntKind.i64 y15 :: Env.sp 63 [])))))
def f16e13 (y0 : Option (Nat × Nat)) (y1 : Nat) (y2 : Bool) (y3 : Int) : Env := Env.sp 1 (AV.ptr y0 :: Env.sp 3 (AV.ptr (some (y1, (0 : Nat))) :: Env.sp 1 (AV.bool y2 :: AV.int IntKind.i64 y3 :: Env.sp 100 [])))
def f16e14 (y0 : Option (Nat × Nat)) (y1 : Nat) (y2 : Bool) (y3 : Int) (y4 : Bool) (y5 : Int) (y6 : Bool) (y7 : Int) (y8 : Option (Nat × Nat)) (y9 : Nat) (y10 : Int) (y11 : Bool) (y12 : Int) (y13 : Bool) (y14 : Int) : Env := Env.sp 1 (AV.ptr y0 :: Env.sp 3 (AV.ptr (some (y1, (0 : Nat))) :: Env.sp 1 (AV.bool y2 :: AV.int IntKind.i64 y3 :: AV.bool y4 :: AV.int IntKind.i64 y5 :: Env.sp 35 (AV.tuple [AV.bool y6, AV.int IntKind.i64 y7] :: AV.ptr y8 :: AV.ptr (some (y9, (1 : Nat))) :: AV.int IntKind.i64 y10 :: AV.tuple [AV.bool y11, AV.int IntKind.i64 y12] :: AV.bool y13 :: AV.int IntKind.i64 y14 :: Env.sp 56 []))))
def f16e15 (y0 : Bool) (y1 : Int) (y2 : Bool) (y3 : Int) : Env := Env.sp 7 (AV.bool y0 :: AV.int IntKind.i64 y1 :: AV.bool y2 :: AV.int IntKind.i64 y3 :: Env.sp 98 [])
def f16e16 (y0 : Bool) (y1 : Bool) (y2 : Int) (y3 : Bool) (y4 : Int) (y5 : Bool) (y6 : Bool) (y7 : Bool) (y8 : Bool) (y9 : Int) (y10 : Int) (y11 : Bool) (y12 : Bool) : Env := Env.sp 6 (AV.bool y0 :: AV.bool y1 :: AV.int IntKind.i64 y2 :: AV.bool y3 :: AV.int IntKind.i64 y4 :: Env.sp 42 (AV.bool y5 :: AV.bool y6 :: AV.bool y7 :: AV.bool y8 :: AV.int IntKind.i64 y9 :: AV.int IntKind.i64 y10 :: AV.bool y11 :: AV.bool y12 :: Env.sp 48 []))
def f16e17 (y0 : Bool) (y1 : Bool) (y2 : Int) (y3 : Bool) (y4 : Int) (y5 : Bool) (y6 : Bool) (y7 : Bool) (y8 : Bool) (y9 : Bool) : Env := Env.sp 6 (AV.bool y0 :: AV.bool y1 :: AV.int IntKind.i64 y2 :: AV.bool y3 :: AV.int IntKind.i64 y4 :: Env.sp 42 (AV.bool y5 :: AV.bool y6 :: AV.bool y7 :: AV.bool y8 :: AV.tuple [] :: AV.tuple [] :: AV.tuple [] :: AV.bool y9 :: Env.sp 48 []))
def f16e18 (y0 : Option (Nat × Nat)) (y1 : Option (Nat × Nat)) (y2 : Nat) (y3 : Int) (y4 : Bool) (y5 : Bool) (y6 : Bool) : Env := AV.ptr y0 :: AV.ptr y1 :: Env.sp 3 (AV.ptr (some (y2, (0 : Nat))) :: Env.sp 14 (AV.int IntKind.i64 y3 :: Env.sp 16 (AV.bool y4 :: Env.sp 23 (AV.bool y5 :: AV.bool y6 :: Env.sp 46 []))))
def f16e19 (y0 : Option (Nat × Nat)) (y1 : Option (Nat × Nat)) (y2 : Nat) (y3 : Int) (y4 : Bool) : Env := AV.ptr y0 :: AV.ptr y1 :: Env.sp 3 (AV.ptr (some (y2, (0 : Nat))) :: Env.sp 14 (AV.int IntKind.i64 y3 :: Env.sp 40 (AV.bool y4 :: Env.sp 47 [])))
def f16e20 (y0 : Option (Nat × Nat)) (y1 : Option (Nat × Nat)) (y2 : Nat) (y3 : Int) (y4 : Int) (y5 : Int) (y6 : Bool) (y7 : Int) (y8 : Int) (y9 : Option (Nat × Nat)) (y10 : Nat) (y11 : Int) (y12 : Int) (y13 : Int) (y14 : Int) (y15 : Int) : Env := AV.ptr y0 :: AV.ptr y1 :: Env.sp 3 (AV.ptr (some (y2, (0 : Nat))) :: Env.sp 5 (AV.int IntKind.i64 y3 :: AV.int IntKind.i64 y4 :: Env.sp 7 (AV.int IntKind.i64 y5 :: Env.sp 40 (AV.bool y6 :: Env.sp 1 (AV.tuple [AV.int IntKind.i64 y7, AV.int IntKind.i64 y8] :: AV.ptr y9 :: AV.ptr (some (y10, (1 : Nat))) :: AV.int IntKind.i64 y11 :: AV.tuple [AV.int IntKind.i64 y12, AV.int IntKind.i64 y13] :: AV.int IntKind.i64 y14 :: AV.int IntKind.i64 y15 :: Env.sp 39 [])))))
def f16e21 (y0 : Option (Nat × Nat)) (y1 : Nat) (y2 : Int) (y3 : Int) : Env := Env.sp 1 (AV.ptr y0 :: Env.sp 3 (AV.ptr (some (y1, (0 : Nat))) :: Env.sp 5 (AV.int IntKind.i64 y2 :: AV.int IntKind.i64 y3 :: Env.sp 96 [])))
def f16e22 (y0 : Option (Nat × Nat)) (y1 : Nat) (y2 : Int) (y3 : Int) (y4 : Int) (y5 : Int) (y6 : Int) (y7 : Int) (y8 : Option (Nat × Nat)) (y9 : Nat) (y10 : Int) (y11 : Int) (y12 : Int) (y13 : Int) (y14 : Int) : Env := Env.sp 1 (AV.ptr y0 :: Env.sp 3 (AV.ptr (some (y1, (0 : Nat))) :: Env.sp 5 (AV.int IntKind.i64 y2 :: AV.int IntKind.i64 y3 :: AV.int IntKind.i64 y4 :: AV.int IntKind.i64 y5 :: Env.sp 55 (AV.tuple [AV.int IntKind.i64 y6, AV.int IntKind.i64 y7] :: AV.ptr y8 :: AV.ptr (some (y9, (1 : Nat))) :: AV.int IntKind.i64 y10 :: AV.tuple [AV.int IntKind.i64 y11, AV.int IntKind.i64 y12] :: AV.int IntKind.i64 y13 :: AV.int IntKind.i64 y14 :: Env.sp 32 []))))
def f16e23 (y0 : Int) (y1 : Int) (y2 : Int) (y3 : Int) : Env := Env.sp 11 (AV.int IntKind.i64 y0 :: AV.int IntKind.i64 y1 :: AV.int IntKind.i64 y2 :: AV.int IntKind.i64 y3 :: Env.sp 94 [])
def f16e24 (y0 : Bool) (y1 : Int) (y2 : Int) (y3 : Int) (y4 : Int) (y5 : Int) (y6 : Int) (y7 : Bool) (y8 : Bool) (y9 : Int) (y10 : Int) (y11 : Bool) (y12 : Bool) : Env := Env.sp 6 (AV.bool y0 :: Env.sp 4 (AV.int IntKind.i64 y1 :: AV.int IntKind.i64 y2 :: AV.int IntKind.i64 y3 :: AV.int IntKind.i64 y4 :: Env.sp 62 (AV.int IntKind.i64 y5 :: AV.int IntKind.i64 y6 :: AV.bool y7 :: AV.bool y8 :: AV.int IntKind.i64 y9 :: AV.int IntKind.i64 y10 :: AV.bool y11 :: AV.bool y12 :: Env.sp 24 [])))
def f16e25 (y0 : Bool) (y1 : Int) (y2 : Int) (y3 : Int) (y4 : Int) (y5 : Int) (y6 : Int) (y7 : Bool) (y8 : Bool) (y9 : Bool) : Env := Env.sp 6 (AV.bool y0 :: Env.sp 4 (AV.int IntKind.i64 y1 :: AV.int IntKind.i64 y2 :: AV.int IntKind.i64 y3 :: AV.int IntKind.i64 y4 :: Env.sp 62 (AV.int IntKind.i64 y5 :: AV.int IntKind.i64 y6 :: AV.bool y7 :: AV.bool y8 :: AV.tuple [] :: AV.tuple [] :: AV.tuple [] :: AV.bool y9 :: Env.sp 24 [])))
def f16e26 (y0 : Option (Nat × Nat)) (y1 : Option (Nat × Nat)) (y2 : Nat) (y3 : Int) (y4 : Bool) (y5 : Bool) (y6 : Bool) : Env := AV.ptr y0 :: AV.ptr y1 :: Env.sp 3 (AV.ptr (some (y2, (0 : Nat))) :: Env.sp 14 (AV.int IntKind.i64 y3 :: Env.sp 40 (AV.bool y4 :: Env.sp 23 (AV.bool y5 :: AV.bool y6 :: Env.sp 22 []))))
def f16e27 (y0 : Option (Nat × Nat)) (y1 : Option (Nat × Nat)) (y2 : Nat) (y3 : Bool) : Env := AV.ptr y0 :: AV.ptr y1 :: Env.sp 3 (AV.ptr (some (y2, (0 : Nat))) :: Env.sp 79 (AV.bool y3 :: Env.sp 23 []))
def f16e28 (y0 : Option (Nat × Nat)) (y1 : Option (Nat × Nat)) (y2 : Nat) (y3 : Option (Nat × Nat)) (y4 : Nat) (y5 : Option Nat) (y6 : Int) (y7 : Bool) (y8 : Option (Nat × Nat)) (y9 : Nat) (y10 : Option Nat) (y11 : Int) (y12 : Option (Nat × Nat)) (y13 : Nat) (y14 : Int) (y15 : Option (Nat × Nat)) (y16 : Nat) (y17 : Option Nat) (y18 : Int) (y19 : Option (Nat × Nat)) (y20 : Nat) (y21 : Option Nat) (y22 : Int) : Env := AV.ptr y0 :: AV.ptr y1 :: Env.sp 3 (AV.ptr (some (y2, (0 : Nat))) :: Env.sp 9 (AV.slice y3 y4 y5 (1 : Nat) :: AV.int IntKind.i64 y6 :: Env.sp 68 (AV.bool y7 :: Env.sp 1 (AV.tuple [AV.slice y8 y9 y10 (1 : Nat), AV.int IntKind.i64 y11] :: AV.ptr y12 :: AV.ptr (some (y13, (2 : Nat))) :: AV.int IntKind.i64 y14 :: AV.tuple [AV.slice y15 y16 y17 (1 : Nat), AV.int IntKind.i64 y18] :: AV.slice y19 y20 y21 (1 : Nat) :: AV.int IntKind.i64 y22 :: Env.sp 15 []))))
def f16e29 (y0 : Option (Nat × Nat)) (y1 : Nat) (y2 : Option (Nat × Nat)) (y3 : Nat) (y4 : Option Nat) (y5 : Int) : Env := Env.sp 1 (AV.ptr y0 :: Env.sp 3 (AV.ptr (some (y1, (0 : Nat))) :: Env.sp 9 (AV.slice y2 y3 y4 (1 : Nat) :: AV.int IntKind.i64 y5 :: Env.sp 92 [])))
def f16e30 (y0 : Option (Nat × Nat)) (y1 : Nat) (y2 : Option (Nat × Nat)) (y3 : Nat) (y4 : Option Nat) (y5 : Int) (y6 : Option (Nat × Nat)) (y7 : Nat) (y8 : Option Nat) (y9 : Int) (y10 : Option (Nat × Nat)) (y11 : Nat) (y12 : Option Nat) (y13 : Int) (y14 : Option (Nat × Nat)) (y15 : Nat) (y16 : Int) (y17 : Option (Nat × Nat)) (y18 : Nat) (y19 : Option Nat) (y20 : Int) (y21 : Option (Nat × Nat)) (y22 : Nat) (y23 : Option Nat) (y24 : Int) : Env := Env.sp 1 (AV.ptr y0 :: Env.sp 3 (AV.ptr (some (y1, (0 : Nat))) :: Env.sp 9 (AV.slice y2 y3 y4 (1 : Nat) :: AV.int IntKind.i64 y5 :: AV.slice y6 y7 y8 (1 : Nat) :: AV.int IntKind.i64 y9 :: Env.sp 75 (AV.tuple [AV.slice y10 y11 y12 (1 : Nat), AV.int IntKind.i64 y13] :: AV.ptr y14 :: AV.ptr (some (y15, (2 : Nat))) :: AV.int IntKind.i64 y16 :: AV.tuple [AV.slice y17 y18 y19 (1 : Nat), AV.int IntKind.i64 y20] :: AV.slice y21 y22 y23 (1 : Nat) :: AV.int IntKind.i64 y24 :: Env.sp 8 []))))
def f16e31 (y0 : Option (Nat × Nat)) (y1 : Nat) (y2 : Option Nat) (y3 : Int) (y4 : Option (Nat × Nat)) (y5 : Nat) (y6 : Option Nat) (y7 : Int) : Env := Env.sp 15 (AV.slice y0 y1 y2 (1 : Nat) :: AV.int IntKind.i64 y3 :: AV.slice y4 y5 y6 (1 : Nat) :: AV.int IntKind.i64 y7 :: Env.sp 90 [])
def f16e32 (y0 : Bool) (y1 : Option (Nat × Nat)) (y2 : Nat) (y3 : Option Nat) (y4 : Int) (y5 : Option (Nat × Nat)) (y6 : Nat) (y7 : Option Nat) (y8 : Int) (y9 : Option (Nat × Nat)) (y10 : Nat) (y11 : Option Nat) (y12 : Option (Nat × Nat)) (y13 : Nat) (y14 : Option Nat) (y15 : Bool) (y16 : Bool) (y17 : Int) (y18 : Int) (y19 : Bool) (y20 : Bool) : Env := Env.sp 6 (AV.bool y0 :: Env.sp 8 (AV.slice y1 y2 y3 (1 : Nat) :: AV.int IntKind.i64 y4 :: AV.slice y5 y6 y7 (1 : Nat) :: AV.int IntKind.i64 y8 :: Env.sp 82 (AV.slice y9 y10 y11 (1 : Nat) :: AV.slice y12 y13 y14 (1 : Nat) :: AV.bool y15 :: AV.bool y16 :: AV.int IntKind.i64 y17 :: AV.int IntKind.i64 y18 :: AV.bool y19 :: AV.bool y20 :: [])))
def f16e33 (y0 : Bool) (y1 : Option (Nat × Nat)) (y2 : Nat) (y3 : Option Nat) (y4 : Int) (y5 : Option (Nat × Nat)) (y6 : Nat) (y7 : Option Nat) (y8 : Int) (y9 : Option (Nat × Nat)) (y10 : Nat) (y11 : Option Nat) (y12 : Option (Nat × Nat)) (y13 : Nat) (y14 : Option Nat) (y15 : Bool) (y16 : Bool) (y17 : Bool) : Env := Env.sp 6 (AV.bool y0 :: Env.sp 8 (AV.slice y1 y2 y3 (1 : Nat) :: AV.int IntKind.i64 y4 :: AV.slice y5 y6 y7 (1 : Nat) :: AV.int IntKind.i64 y8 :: Env.sp 82 (AV.slice y9 y10 y11 (1 : Nat) :: AV.slice y12 y13 y14 (1 : Nat) :: AV.bool y15 :: AV.bool y16 :: AV.tuple [] :: AV.tuple [] :: AV.tuple [] :: AV.bool y17 :: [])))
def f16e34 : Env := Env.sp 109 []

/- function 16 -/
theorem f16_eq {R : Type} (call : Bool → CallF R) (dem : Bool) (N : Nat) (y0 : Option (Nat × Nat)) (y1 : Option (Nat × Nat)) (y2 : Int) (y3 : Int) (y4 : Int) (σ : St) (K : AV → St → Option R) :
    bodyK Try.prog call dem N ann 16 [AV.ptr y0, AV.ptr y1, AV.agg [AV.int IntKind.i64 y2, AV.int IntKind.i64 y3, AV.int IntKind.i64 y4]] σ K = runK Try.prog call dem N f16c0 f16a0 (bodyC Try.prog f16rs K) (f16e0 y0 y1 y2 y3 y4) σ := bodyK_of (fn := ((Try.prog.funcs[16]?).get rfl)) (by kernel_rfl) (by kernel_rfl) (by kernel_rfl) (by kernel_rfl) (by kernel_rfl) (by kernel_rfl)
theorem f16n0 {R : Type} (call : Bool → CallF R) (dem : Bool) (N : Nat) (J : KF R) (e : Env) (σ : St) : runK Try.prog call dem N f16c0 f16a0 J e σ = runK Try.prog call dem N f16c1 f16a1 (seqC (fun K e σ => runK Try.prog call dem N f16c2 f16a2 K e σ) f16a0 J) e σ := runK_seq' (by kernel_rfl) (by kernel_rfl) (by kernel_rfl)
theorem f16r1_f16e0 {R : Type} (call : Bool → CallF R) (dem : Bool) (N : Nat) (y0 : Option (Nat × Nat)) (y1 : Option (Nat × Nat)) (y2 : Int) (y3 : Int) (y4 : Int) (J : KF R) (σ : St) :
    runK Try.prog call dem N f16c1 f16a1 J (f16e0 y0 y1 y2 y3 y4) σ =
J Ex.normal (f16e1 y0 y1 y2 y3 y4 (St.next σ) false) (St.new σ (Blk.cells [AV.int IntKind.i64 y2, AV.int IntKind.i64 y3, AV.int IntKind.i64 y4] true)) := hide (by kernel_rfl)
theorem f16z0_f16e1 (y0 : Option (Nat × Nat)) (y1 : Option (Nat × Nat)) (y2 : Int) (y3 : Int) (y4 : Int) (y5 : Nat) (y6 : Bool) : Ann.clr f16a0 (f16e1 y0 y1 y2 y3 y4 y5 y6) = f16e2 y0 y1 y5 := hide (by kernel_rfl)
theorem f16n2 {R : Type} (call : Bool → CallF R) (dem : Bool) (N : Nat) (J : KF R) (e : Env) (σ : St) : runK Try.prog call dem N f16c2 f16a2 J e σ = runK Try.prog call dem N f16c3 f16a3 (seqC (fun K e σ => runK Try.prog call dem N f16c4 f16a4 K e σ) f16a2 J) e σ := runK_seq' (by kernel_rfl) (by kernel_rfl) (by kernel_rfl)
theorem f16n3 {R : Type} (call : Bool → CallF R) (dem : Bool) (N : Nat) (J : KF R) (e : Env) (σ : St) : runK Try.prog call dem N f16c3 f16a3 J e σ = runK Try.prog call dem N f16c5 f16a5 (seqC (fun K e σ => runK Try.prog call dem N f16c6 f16a6 K e σ) f16a3 J) e σ := runK_seq' (by kernel_rfl) (by kernel_rfl) (by kernel_rfl)
theorem f16r5_f16e2 {R : Type} (call : Bool → CallF R) (dem : Bool) (N : Nat) (y0 : Option (Nat × Nat)) (y1 : Option (Nat × Nat)) (y2 : Nat) (J : KF R) (σ : St) :
    runK Try.prog call dem N f16c5 f16a5 J (f16e2 y0 y1 y2) σ =
Option.bind (St.ld σ y2 (0 : Nat)) fun v0 => Option.bind (AV.toInt IntKind.i64 v0) fun v1 => J Ex.normal (f16e3 y0 y1 y2 y2 v1) σ := hide (by kernel_rfl)
theorem f16z3_f16e3 (y0 : Option (Nat × Nat)) (y1 : Option (Nat × Nat)) (y2 : Nat) (y3 : Nat) (y4 : Int) : Ann.clr f16a3 (f16e3 y0 y1 y2 y3 y4) = f16e4 y0 y1 y2 y4 := hide (by kernel_rfl)
theorem f16n6 {R : Type} (call : Bool → CallF R) (dem : Bool) (N : Nat) (J : KF R) (e : Env) (σ : St) : runK Try.prog call dem N f16c6 f16a6 J e σ = runK Try.prog call dem N f16c7 f16a7 (blockC 0 f16a6 J) e σ := runK_block' (by kernel_rfl) (by kernel_rfl)
theorem f16n7 {R : Type} (call : Bool → CallF R) (dem : Bool) (N : Nat) (J : KF R) (e : Env) (σ : St) : runK Try.prog call dem N f16c7 f16a7 J e σ = runK Try.prog call dem N f16c8 f16a8 (seqC (fun K e σ => runK Try.prog call dem N f16c9 f16a9 K e σ) f16a7 J) e σ := runK_seq' (by kernel_rfl) (by kernel_rfl) (by kernel_rfl)
theorem f16n8 {R : Type} (call : Bool → CallF R) (dem : Bool) (N : Nat) (J : KF R) (e : Env) (σ : St) : runK Try.prog call dem N f16c8 f16a8 J e σ = runK Try.prog call dem N f16c10 f16a10 (seqC (fun K e σ => runK Try.prog call dem N f16c11 f16a11 K e σ) f16a8 J) e σ := runK_seq' (by kernel_rfl) (by kernel_rfl) (by kernel_rfl)
theorem f16r10_f16e4 {R : Type} (call : Bool → CallF R) (dem : Bool) (N : Nat) (y0 : Option (Nat × Nat)) (y1 : Option (Nat × Nat)) (y2 : Nat) (y3 : Int) (J : KF R) (σ : St) :
    runK Try.prog call dem N f16c10 f16a10 J (f16e4 y0 y1 y2 y3) σ =
J Ex.normal (f16e5 y0 y1 y2 y3 (y3 == (0 : Int)) (y3 == (0 : Int))) σ := hide (by kernel_rfl)
theorem f16z8_f16e5 (y0 : Option (Nat × Nat)) (y1 : Option (Nat × Nat)) (y2 : Nat) (y3 : Int) (y4 : Bool) (y5 : Bool) : Ann.clr f16a8 (f16e5 y0 y1 y2 y3 y4 y5) = f16e6 y0 y1 y2 y3 y4 := hide (by kernel_rfl)
theorem f16x11_f16e6 {R : Type} (call : Bool → CallF R) (dem : Bool) (N : Nat) (y0 : Option (Nat × Nat)) (y1 : Option (Nat × Nat)) (y2 : Nat) (y3 : Int) (y4 : Bool) (J : KF R) (σ : St) : runK Try.prog call dem N f16c11 f16a11 J (f16e6 y0 y1 y2 y3 y4) σ = if y4 = true then runK Try.prog call dem N f16c12 f16a12 (condC f16a11 J) (f16e6 y0 y1 y2 y3 y4) σ else runK Try.prog call dem N f16c13 f16a13 (condC f16a11 J) (f16e6 y0 y1 y2 y3 y4) σ := runK_cond' (o := Operand.tmp (21 : Nat)) (by kernel_rfl) (by kernel_rfl) (by kernel_rfl) (by kernel_rfl)
theorem f16n12 {R : Type} (call : Bool → CallF R) (dem : Bool) (N : Nat) (J : KF R) (e : Env) (σ : St) : runK Try.prog call dem N f16c12 f16a12 J e σ = J .normal e σ := runK_skip' (by kernel_rfl)
theorem f16z11_f16e6 (y0 : Option (Nat × Nat)) (y1 : Option (Nat × Nat)) (y2 : Nat) (y3 : Int) (y4 : Bool) : Ann.clr f16a11 (f16e6 y0 y1 y2 y3 y4) = f16e6 y0 y1 y2 y3 y4 := hide (by kernel_rfl)
theorem f16r13_f16e6 {R : Type} (call : Bool → CallF R) (dem : Bool) (N : Nat) (y0 : Option (Nat × Nat)) (y1 : Option (Nat × Nat)) (y2 : Nat) (y3 : Int) (y4 : Bool) (J : KF R) (σ : St) :
    runK Try.prog call dem N f16c13 f16a13 J (f16e6 y0 y1 y2 y3 y4) σ =
J Ex.normal (f16e7 y0 y1 y2 y3 (y3 == (1 : Int)) (y3 == (1 : Int))) σ := hide (by kernel_rfl)
theorem f16z11_f16e7 (y0 : Option (Nat × Nat)) (y1 : Option (Nat × Nat)) (y2 : Nat) (y3 : Int) (y4 : Bool) (y5 : Bool) : Ann.clr f16a11 (f16e7 y0 y1 y2 y3 y4 y5) = f16e6 y0 y1 y2 y3 y4 := hide (by kernel_rfl)
theorem f16z7_f16e6 (y0 : Option (Nat × Nat)) (y1 : Option (Nat × Nat)) (y2 : Nat) (y3 : Int) (y4 : Bool) : Ann.clr f16a7 (f16e6 y0 y1 y2 y3 y4) = f16e6 y0 y1 y2 y3 y4 := hide (by kernel_rfl)
theorem f16x9_f16e6 {R : Type} (call : Bool → CallF R) (dem : Bool) (N : Nat) (y0 : Option (Nat × Nat)) (y1 : Option (Nat × Nat)) (y2 : Nat) (y3 : Int) (y4 : Bool) (J : KF R) (σ : St) : runK Try.prog call dem N f16c9 f16a9 J (f16e6 y0 y1 y2 y3 y4) σ = if y4 = true then runK Try.prog call dem N f16c14 f16a14 (condC f16a9 J) (f16e6 y0 y1 y2 y3 y4) σ else runK Try.prog call dem N f16c15 f16a15 (condC f16a9 J) (f16e6 y0 y1 y2 y3 y4) σ := runK_cond' (o := Operand.tmp (21 : Nat)) (by kernel_rfl) (by kernel_rfl) (by kernel_rfl) (by kernel_rfl)
theorem f16n14 {R : Type} (call : Bool → CallF R) (dem : Bool) (N : Nat) (J : KF R) (e : Env) (σ : St) : runK Try.prog call dem N f16c14 f16a14 J e σ = runK Try.prog call dem N f16c16 f16a16 (seqC (fun K e σ => runK Try.prog call dem N f16c17 f16a17 K e σ) f16a14 J) e σ := runK_seq' (by kernel_rfl) (by kernel_rfl) (by kernel_rfl)
theorem f16r16_f16e6 {R : Type} (call : Bool → CallF R) (dem : Bool) (N : Nat) (y0 : Option (Nat × Nat)) (y1 : Option (Nat × Nat)) (y2 : Nat) (y3 : Int) (y4 : Bool) (J : KF R) (σ : St) :
    runK Try.prog call dem N f16c16 f16a16 J (f16e6 y0 y1 y2 y3 y4) σ =
Option.bind (St.ld σ y2 (1 : Nat)) fun v0 =>
  Option.bind (AV.toInt IntKind.i64 v0) fun v1 =>
    Option.bind (St.ld σ y2 (2 : Nat)) fun v2 =>
      Option.bind (AV.toInt IntKind.i64 v2) fun v3 =>
        call false (9 : Nat) [AV.ptr y0, AV.int IntKind.i64 v1, AV.int IntKind.i64 v3] σ fun v4 v5 =>
          Option.bind (AV.toInt IntKind.i64 v4) fun v6 =>
            Option.bind (St.ld v5 y2 (1 : Nat)) fun v7 =>
              Option.bind (AV.toInt IntKind.i64 v7) fun v8 =>
                if St.same σ y2 (1 : Nat) [AV.int IntKind.i64 v8] = true then
                  Option.bind (St.ld v5 y2 (2 : Nat)) fun v9 =>
                    Option.bind (AV.toInt IntKind.i64 v9) fun v10 =>
                      if St.same σ y2 (2 : Nat) [AV.int IntKind.i64 v10] = true then
                        call false (25 : Nat) [AV.ptr y1, AV.int IntKind.i64 v8, AV.int IntKind.i64 v10] v5 fun v11 v12 =>
                          Option.bind (AV.toInt IntKind.i64 v11) fun v13 =>
                            J Ex.normal (f16e8 y0 y1 y2 (v6 == v13) y3 y4 y0 y2 v1 y2 v3 v6 y1 y2 v8 y2 v10 v13 (v6 == v13)) v12
                      else none
                else none := hide (by kernel_rfl)
theorem f16z14_f16e8 (y0 : Option (Nat × Nat)) (y1 : Option (Nat × Nat)) (y2 : Nat) (y3 : Bool) (y4 : Int) (y5 : Bool) (y6 : Option (Nat × Nat)) (y7 : Nat) (y8 : Int) (y9 : Nat) (y10 : Int) (y11 : Int) (y12 : Option (Nat × Nat)) (y13 : Nat) (y14 : Int) (y15 : Nat) (y16 : Int) (y17 : Int) (y18 : Bool) : Ann.clr f16a14 (f16e8 y0 y1 y2 y3 y4 y5 y6 y7 y8 y9 y10 y11 y12 y13 y14 y15 y16 y17 y18) = f16e9 y3 := hide (by kernel_rfl)
theorem f16y17_f16e9 {R : Type} (call : Bool → CallF R) (dem : Bool) (N : Nat) (y0 : Bool) (J : KF R) (σ : St) : runK Try.prog call dem N f16c17 f16a17 J (f16e9 y0) σ = J .ret (f16e9 y0) σ := runK_ret' (by kernel_rfl) (by kernel_rfl)
theorem f16n15 {R : Type} (call : Bool → CallF R) (dem : Bool) (N : Nat) (J : KF R) (e : Env) (σ : St) : runK Try.prog call dem N f16c15 f16a15 J e σ = runK Try.prog call dem N f16c18 f16a18 (seqC (fun K e σ => runK Try.prog call dem N f16c19 f16a19 K e σ) f16a15 J) e σ := runK_seq' (by kernel_rfl) (by kernel_rfl) (by kernel_rfl)
theorem f16r18_f16e6 {R : Type} (call : Bool → CallF R) (dem : Bool) (N : Nat) (y0 : Option (Nat × Nat)) (y1 : Option (Nat × Nat)) (y2 : Nat) (y3 : Int) (y4 : Bool) (J : KF R) (σ : St) :
    runK Try.prog call dem N f16c18 f16a18 J (f16e6 y0 y1 y2 y3 y4) σ =
J Ex.normal (f16e10 y0 y1 y2 y3 y4 (y3 == (2 : Int)) (y3 == (2 : Int))) σ := hide (by kernel_rfl)
theorem f16z15_f16e10 (y0 : Option (Nat × Nat)) (y1 : Option (Nat × Nat)) (y2 : Nat) (y3 : Int) (y4 : Bool) (y5 : Bool) (y6 : Bool) : Ann.clr f16a15 (f16e10 y0 y1 y2 y3 y4 y5 y6) = f16e11 y0 y1 y2 y3 y5 := hide (by kernel_rfl)
theorem f16x19_f16e11 {R : Type} (call : Bool → CallF R) (dem : Bool) (N : Nat) (y0 : Option (Nat × Nat)) (y1 : Option (Nat × Nat)) (y2 : Nat) (y3 : Int) (y4 : Bool) (J : KF R) (σ : St) : runK Try.prog call dem N f16c19 f16a19 J (f16e11 y0 y1 y2 y3 y4) σ = if y4 = true then runK Try.prog call dem N f16c20 f16a20 (condC f16a19 J) (f16e11 y0 y1 y2 y3 y4) σ else runK Try.prog call dem N f16c21 f16a21 (condC f16a19 J) (f16e11 y0 y1 y2 y3 y4) σ := runK_cond' (o := Operand.tmp (37 : Nat)) (by kernel_rfl) (by kernel_rfl) (by kernel_rfl) (by kernel_rfl)
theorem f16n20 {R : Type} (call : Bool → CallF R) (dem : Bool) (N : Nat) (J : KF R) (e : Env) (σ : St) : runK Try.prog call dem N f16c20 f16a20 J e σ = runK Try.prog call dem N f16c22 f16a22 (seqC (fun K e σ => runK Try.prog call dem N f16c23 f16a23 K e σ) f16a20 J) e σ := runK_seq' (by kernel_rfl) (by kernel_rfl) (by kernel_rfl)
theorem f16r22_f16e11 {R : Type} (call : Bool → CallF R) (dem : Bool) (N : Nat) (y0 : Option (Nat × Nat)) (y1 : Option (Nat × Nat)) (y2 : Nat) (y3 : Int) (y4 : Bool) (J : KF R) (σ : St) :
    runK Try.prog call dem N f16c22 f16a22 J (f16e11 y0 y1 y2 y3 y4) σ =
Option.bind (St.ld σ y2 (1 : Nat)) fun v0 =>
  Option.bind (AV.toInt IntKind.i64 v0) fun v1 =>
    call dem (14 : Nat) [AV.ptr y0, AV.int IntKind.i64 v1] σ fun v2 v3 =>
      Option.bind (AV.toTuple v2) fun v4 =>
        if List.length v4 = (2 : Nat) then
          Option.bind (List.head? v4) fun v5 =>
            Option.bind (AV.toBool v5) fun v6 =>
              Option.bind (List.head? (List.tail v4)) fun v7 =>
                Option.bind (AV.toInt IntKind.i64 v7) fun v8 => J Ex.normal (f16e12 y0 y1 y2 v6 v8 y3 y4 v6 v8 y0 y2 v1 v6 v8 v6 v8) v3
        else none := hide (by kernel_rfl)
theorem f16z20_f16e12 (y0 : Option (Nat × Nat)) (y1 : Option (Nat × Nat)) (y2 : Nat) (y3 : Bool) (y4 : Int) (y5 : Int) (y6 : Bool) (y7 : Bool) (y8 : Int) (y9 : Option (Nat × Nat)) (y10 : Nat) (y11 : Int) (y12 : Bool) (y13 : Int) (y14 : Bool) (y15 : Int) : Ann.clr f16a20 (f16e12 y0 y1 y2 y3 y4 y5 y6 y7 y8 y9 y10 y11 y12 y13 y14 y15) = f16e13 y1 y2 y3 y4 := hide (by kernel_rfl)
theorem f16n23 {R : Type} (call : Bool → CallF R) (dem : Bool) (N : Nat) (J : KF R) (e : Env) (σ : St) : runK Try.prog call dem N f16c23 f16a23 J e σ = runK Try.prog call dem N f16c24 f16a24 (seqC (fun K e σ => runK Try.prog call dem N f16c25 f16a25 K e σ) f16a23 J) e σ := runK_seq' (by kernel_rfl) (by kernel_rfl) (by kernel_rfl)
theorem f16r24_f16e13 {R : Type} (call : Bool → CallF R) (dem : Bool) (N : Nat) (y0 : Option (Nat × Nat)) (y1 : Nat) (y2 : Bool) (y3 : Int) (J : KF R) (σ : St) :
    runK Try.prog call dem N f16c24 f16a24 J (f16e13 y0 y1 y2 y3) σ =
Option.bind (St.ld σ y1 (1 : Nat)) fun v0 =>
  Option.bind (AV.toInt IntKind.i64 v0) fun v1 =>
    call dem (26 : Nat) [AV.ptr y0, AV.int IntKind.i64 v1] σ fun v2 v3 =>
      Option.bind (AV.toTuple v2) fun v4 =>
        if List.length v4 = (2 : Nat) then
          Option.bind (List.head? v4) fun v5 =>
            Option.bind (AV.toBool v5) fun v6 =>
              Option.bind (List.head? (List.tail v4)) fun v7 =>
                Option.bind (AV.toInt IntKind.i64 v7) fun v8 => J Ex.normal (f16e14 y0 y1 y2 y3 v6 v8 v6 v8 y0 y1 v1 v6 v8 v6 v8) v3
        else none := hide (by kernel_rfl)
theorem f16z23_f16e14 (y0 : Option (Nat × Nat)) (y1 : Nat) (y2 : Bool) (y3 : Int) (y4 : Bool) (y5 : Int) (y6 : Bool) (y7 : Int) (y8 : Option (Nat × Nat)) (y9 : Nat) (y10 : Int) (y11 : Bool) (y12 : Int) (y13 : Bool) (y14 : Int) : Ann.clr f16a23 (f16e14 y0 y1 y2 y3 y4 y5 y6 y7 y8 y9 y10 y11 y12 y13 y14) = f16e15 y2 y3 y4 y5 := hide (by kernel_rfl)
theorem f16n25 {R : Type} (call : Bool → CallF R) (dem : Bool) (N : Nat) (J : KF R) (e : Env) (σ : St) : runK Try.prog call dem N f16c25 f16a25 J e σ = runK Try.prog call dem N f16c26 f16a26 (seqC (fun K e σ => runK Try.prog call dem N f16c27 f16a27 K e σ) f16a25 J) e σ := runK_seq' (by kernel_rfl) (by kernel_rfl) (by kernel_rfl)
theorem f16r26_f16e15 {R : Type} (call : Bool → CallF R) (dem : Bool) (N : Nat) (y0 : Bool) (y1 : Int) (y2 : Bool) (y3 : Int) (J : KF R) (σ : St) :
    runK Try.prog call dem N f16c26 f16a26 J (f16e15 y0 y1 y2 y3) σ =
if (y0 == y2) = true then J Ex.normal (f16e16 (y1 == y3) y0 y1 y2 y3 y0 y2 (y0 == y2) true y1 y3 (y1 == y3) (y1 == y3)) σ
else J Ex.normal (f16e17 false y0 y1 y2 y3 y0 y2 (y0 == y2) false false) σ := hide (by kernel_rfl)
theorem f16z25_f16e16 (y0 : Bool) (y1 : Bool) (y2 : Int) (y3 : Bool) (y4 : Int) (y5 : Bool) (y6 : Bool) (y7 : Bool) (y8 : Bool) (y9 : Int) (y10 : Int) (y11 : Bool) (y12 : Bool) : Ann.clr f16a25 (f16e16 y0 y1 y2 y3 y4 y5 y6 y7 y8 y9 y10 y11 y12) = f16e9 y0 := hide (by kernel_rfl)
theorem f16y27_f16e9 {R : Type} (call : Bool → CallF R) (dem : Bool) (N : Nat) (y0 : Bool) (J : KF R) (σ : St) : runK Try.prog call dem N f16c27 f16a27 J (f16e9 y0) σ = J .ret (f16e9 y0) σ := runK_ret' (by kernel_rfl) (by kernel_rfl)
theorem f16z25_f16e17 (y0 : Bool) (y1 : Bool) (y2 : Int) (y3 : Bool) (y4 : Int) (y5 : Bool) (y6 : Bool) (y7 : Bool) (y8 : Bool) (y9 : Bool) : Ann.clr f16a25 (f16e17 y0 y1 y2 y3 y4 y5 y6 y7 y8 y9) = f16e9 y0 := hide (by kernel_rfl)
theorem f16n21 {R : Type} (call : Bool → CallF R) (dem : Bool) (N : Nat) (J : KF R) (e : Env) (σ : St) : runK Try.prog call dem N f16c21 f16a21 J e σ = runK Try.prog call dem N f16c28 f16a28 (seqC (fun K e σ => runK Try.prog call dem N f16c29 f16a29 K e σ) f16a21 J) e σ := runK_seq' (by kernel_rfl) (by kernel_rfl) (by kernel_rfl)
theorem f16r28_f16e11 {R : Type} (call : Bool → CallF R) (dem : Bool) (N : Nat) (y0 : Option (Nat × Nat)) (y1 : Option (Nat × Nat)) (y2 : Nat) (y3 : Int) (y4 : Bool) (J : KF R) (σ : St) :
    runK Try.prog call dem N f16c28 f16a28 J (f16e11 y0 y1 y2 y3 y4) σ =
J Ex.normal (f16e18 y0 y1 y2 y3 y4 (y3 == (3 : Int)) (y3 == (3 : Int))) σ := hide (by kernel_rfl)
theorem f16z21_f16e18 (y0 : Option (Nat × Nat)) (y1 : Option (Nat × Nat)) (y2 : Nat) (y3 : Int) (y4 : Bool) (y5 : Bool) (y6 : Bool) : Ann.clr f16a21 (f16e18 y0 y1 y2 y3 y4 y5 y6) = f16e19 y0 y1 y2 y3 y5 := hide (by kernel_rfl)
theorem f16x29_f16e19 {R : Type} (call : Bool → CallF R) (dem : Bool) (N : Nat) (y0 : Option (Nat × Nat)) (y1 : Option (Nat × Nat)) (y2 : Nat) (y3 : Int) (y4 : Bool) (J : KF R) (σ : St) : runK Try.prog call dem N f16c29 f16a29 J (f16e19 y0 y1 y2 y3 y4) σ = if y4 = true then runK Try.prog call dem N f16c30 f16a30 (condC f16a29 J) (f16e19 y0 y1 y2 y3 y4) σ else runK Try.prog call dem N f16c31 f16a31 (condC f16a29 J) (f16e19 y0 y1 y2 y3 y4) σ := runK_cond' (o := Operand.tmp (61 : Nat)) (by kernel_rfl) (by kernel_rfl) (by kernel_rfl) (by kernel_rfl)
theorem f16n30 {R : Type} (call : Bool → CallF R) (dem : Bool) (N : Nat) (J : KF R) (e : Env) (σ : St) : runK Try.prog call dem N f16c30 f16a30 J e σ = runK Try.prog call dem N f16c32 f16a32 (seqC (fun K e σ => runK Try.prog call dem N f16c33 f16a33 K e σ) f16a30 J) e σ := runK_seq' (by kernel_rfl) (by kernel_rfl) (by kernel_rfl)
theorem f16r32_f16e19 {R : Type} (call : Bool → CallF R) (dem : Bool) (N : Nat) (y0 : Option (Nat × Nat)) (y1 : Option (Nat × Nat)) (y2 : Nat) (y3 : Int) (y4 : Bool) (J : KF R) (σ : St) :
    runK Try.prog call dem N f16c32 f16a32 J (f16e19 y0 y1 y2 y3 y4) σ =
Option.bind (St.ld σ y2 (1 : Nat)) fun v0 =>
  Option.bind (AV.toInt IntKind.i64 v0) fun v1 =>
    call dem (10 : Nat) [AV.ptr y0, AV.int IntKind.i64 v1] σ fun v2 v3 =>
      Option.bind (AV.toTuple v2) fun v4 =>
        if List.length v4 = (2 : Nat) then
          Option.bind (List.head? v4) fun v5 =>
            Option.bind (AV.toInt IntKind.i64 v5) fun v6 =>
              Option.bind (List.head? (List.tail v4)) fun v7 =>
                Option.bind (AV.toInt IntKind.i64 v7) fun v8 => J Ex.normal (f16e20 y0 y1 y2 v6 v8 y3 y4 v6 v8 y0 y2 v1 v6 v8 v6 v8) v3
        else none := hide (by kernel_rfl)
theorem f16z30_f16e20 (y0 : Option (Nat × Nat)) (y1 : Option (Nat × Nat)) (y2 : Nat) (y3 : Int) (y4 : Int) (y5 : Int) (y6 : Bool) (y7 : Int) (y8 : Int) (y9 : Option (Nat × Nat)) (y10 : Nat) (y11 : Int) (y12 : Int) (y13 : Int) (y14 : Int) (y15 : Int) : Ann.clr f16a30 (f16e20 y0 y1 y2 y3 y4 y5 y6 y7 y8 y9 y10 y11 y12 y13 y14 y15) = f16e21 y1 y2 y3 y4 := hide (by kernel_rfl)
theorem f16n33 {R : Type} (call : Bool → CallF R) (dem : Bool) (N : Nat) (J : KF R) (e : Env) (σ : St) : runK Try.prog call dem N f16c33 f16a33 J e σ = runK Try.prog call dem N f16c34 f16a34 (seqC (fun K e σ => runK Try.prog call dem N f16c35 f16a35 K e σ) f16a33 J) e σ := runK_seq' (by kernel_rfl) (by kernel_rfl) (by kernel_rfl)
theorem f16r34_f16e21 {R : Type} (call : Bool → CallF R) (dem : Bool) (N : Nat) (y0 : Option (Nat × Nat)) (y1 : Nat) (y2 : Int) (y3 : Int) (J : KF R) (σ : St) :
    runK Try.prog call dem N f16c34 f16a34 J (f16e21 y0 y1 y2 y3) σ =
Option.bind (St.ld σ y1 (1 : Nat)) fun v0 =>
  Option.bind (AV.toInt IntKind.i64 v0) fun v1 =>
    call dem (27 : Nat) [AV.ptr y0, AV.int IntKind.i64 v1] σ fun v2 v3 =>
      Option.bind (AV.toTuple v2) fun v4 =>
        if List.length v4 = (2 : Nat) then
          Option.bind (List.head? v4) fun v5 =>
            Option.bind (AV.toInt IntKind.i64 v5) fun v6 =>
              Option.bind (List.head? (List.tail v4)) fun v7 =>
                Option.bind (AV.toInt IntKind.i64 v7) fun v8 => J Ex.normal (f16e22 y0 y1 y2 y3 v6 v8 v6 v8 y0 y1 v1 v6 v8 v6 v8) v3
        else none := hide (by kernel_rfl)
theorem f16z33_f16e22 (y0 : Option (Nat × Nat)) (y1 : Nat) (y2 : Int) (y3 : Int) (y4 : Int) (y5 : Int) (y6 : Int) (y7 : Int) (y8 : Option (Nat × Nat)) (y9 : Nat) (y10 : Int) (y11 : Int) (y12 : Int) (y13 : Int) (y14 : Int) : Ann.clr f16a33 (f16e22 y0 y1 y2 y3 y4 y5 y6 y7 y8 y9 y10 y11 y12 y13 y14) = f16e23 y2 y3 y4 y5 := hide (by kernel_rfl)
theorem f16n35 {R : Type} (call : Bool → CallF R) (dem : Bool) (N : Nat) (J : KF R) (e : Env) (σ : St) : runK Try.prog call dem N f16c35 f16a35 J e σ = runK Try.prog call dem N f16c36 f16a36 (seqC (fun K e σ => runK Try.prog call dem N f16c37 f16a37 K e σ) f16a35 J) e σ := runK_seq' (by kernel_rfl) (by kernel_rfl) (by kernel_rfl)
theorem f16r36_f16e23 {R : Type} (call : Bool → CallF R) (dem : Bool) (N : Nat) (y0 : Int) (y1 : Int) (y2 : Int) (y3 : Int) (J : KF R) (σ : St) :
    runK Try.prog call dem N f16c36 f16a36 J (f16e23 y0 y1 y2 y3) σ =
if (y0 == y2) = true then J Ex.normal (f16e24 (y1 == y3) y0 y1 y2 y3 y0 y2 (y0 == y2) true y1 y3 (y1 == y3) (y1 == y3)) σ
else J Ex.normal (f16e25 false y0 y1 y2 y3 y0 y2 (y0 == y2) false false) σ := hide (by kernel_rfl)
theorem f16z35_f16e24 (y0 : Bool) (y1 : Int) (y2 : Int) (y3 : Int) (y4 : Int) (y5 : Int) (y6 : Int) (y7 : Bool) (y8 : Bool) (y9 : Int) (y10 : Int) (y11 : Bool) (y12 : Bool) : Ann.clr f16a35 (f16e24 y0 y1 y2 y3 y4 y5 y6 y7 y8 y9 y10 y11 y12) = f16e9 y0 := hide (by kernel_rfl)
theorem f16y37_f16e9 {R : Type} (call : Bool → CallF R) (dem : Bool) (N : Nat) (y0 : Bool) (J : KF R) (σ : St) : runK Try.prog call dem N f16c37 f16a37 J (f16e9 y0) σ = J .ret (f16e9 y0) σ := runK_ret' (by kernel_rfl) (by kernel_rfl)
theorem f16z35_f16e25 (y0 : Bool) (y1 : Int) (y2 : Int) (y3 : Int) (y4 : Int) (y5 : Int) (y6 : Int) (y7 : Bool) (y8 : Bool) (y9 : Bool) : Ann.clr f16a35 (f16e25 y0 y1 y2 y3 y4 y5 y6 y7 y8 y9) = f16e9 y0 := hide (by kernel_rfl)
theorem f16n31 {R : Type} (call : Bool → CallF R) (dem : Bool) (N : Nat) (J : KF R) (e : Env) (σ : St) : runK Try.prog call dem N f16c31 f16a31 J e σ = runK Try.prog call dem N f16c38 f16a38 (seqC (fun K e σ => runK Try.prog call dem N f16c39 f16a39 K e σ) f16a31 J) e σ := runK_seq' (by kernel_rfl) (by kernel_rfl) (by kernel_rfl)
theorem f16r38_f16e19 {R : Type} (call : Bool → CallF R) (dem : Bool) (N : Nat) (y0 : Option (Nat × Nat)) (y1 : Option (Nat × Nat)) (y2 : Nat) (y3 : Int) (y4 : Bool) (J : KF R) (σ : St) :
    runK Try.prog call dem N f16c38 f16a38 J (f16e19 y0 y1 y2 y3 y4) σ =
J Ex.normal (f16e26 y0 y1 y2 y3 y4 (y3 == (4 : Int)) (y3 == (4 : Int))) σ := hide (by kernel_rfl)
theorem f16z31_f16e26 (y0 : Option (Nat × Nat)) (y1 : Option (Nat × Nat)) (y2 : Nat) (y3 : Int) (y4 : Bool) (y5 : Bool) (y6 : Bool) : Ann.clr f16a31 (f16e26 y0 y1 y2 y3 y4 y5 y6) = f16e27 y0 y1 y2 y5 := hide (by kernel_rfl)
theorem f16x39_f16e27 {R : Type} (call : Bool → CallF R) (dem : Bool) (N : Nat) (y0 : Option (Nat × Nat)) (y1 : Option (Nat × Nat)) (y2 : Nat) (y3 : Bool) (J : KF R) (σ : St) : runK Try.prog call dem N f16c39 f16a39 J (f16e27 y0 y1 y2 y3) σ = if y3 = true then runK Try.prog call dem N f16c40 f16a40 (condC f16a39 J) (f16e27 y0 y1 y2 y3) σ else runK Try.prog call dem N f16c41 f16a41 (condC f16a39 J) (f16e27 y0 y1 y2 y3) σ := runK_cond' (o := Operand.tmp (85 : Nat)) (by kernel_rfl) (by kernel_rfl) (by kernel_rfl) (by kernel_rfl)
theorem f16n40 {R : Type} (call : Bool → CallF R) (dem : Bool) (N : Nat) (J : KF R) (e : Env) (σ : St) : runK Try.prog call dem N f16c40 f16a40 J e σ = runK Try.prog call dem N f16c42 f16a42 (seqC (fun K e σ => runK Try.prog call dem N f16c43 f16a43 K e σ) f16a40 J) e σ := runK_seq' (by kernel_rfl) (by kernel_rfl) (by kernel_rfl)
theorem f16r42_f16e27 {R : Type} (call : Bool → CallF R) (dem : Bool) (N : Nat) (y0 : Option (Nat × Nat)) (y1 : Option (Nat × Nat)) (y2 : Nat) (y3 : Bool) (J : KF R) (σ : St) :
    runK Try.prog call dem N f16c42 f16a42 J (f16e27 y0 y1 y2 y3) σ =
Option.bind (St.ld σ y2 (2 : Nat)) fun v0 =>
  Option.bind (AV.toInt IntKind.i64 v0) fun v1 =>
    call dem (13 : Nat) [AV.ptr y0, AV.int IntKind.i64 v1] σ fun v2 v3 =>
      Option.bind (AV.toTuple v2) fun v4 =>
        if List.length v4 = (2 : Nat) then
          Option.bind (List.head? v4) fun v5 =>
            Option.bind (AV.toSl (1 : Nat) v5) fun v6 =>
              Option.bind (List.head? (List.tail v4)) fun v7 =>
                Option.bind (AV.toInt IntKind.i64 v7) fun v8 =>
                  J Ex.normal
                    (f16e28 y0 y1 y2 (Sl.o v6) (Sl.len v6) (Sl.cap v6) v8 y3 (Sl.o v6) (Sl.len v6) (Sl.cap v6) v8 y0 y2 v1 (Sl.o v6) (Sl.len v6)
                      (Sl.cap v6) v8 (Sl.o v6) (Sl.len v6) (Sl.cap v6) v8)
                    v3
        else none := hide (by kernel_rfl)
theorem f16z40_f16e28 (y0 : Option (Nat × Nat)) (y1 : Option (Nat × Nat)) (y2 : Nat) (y3 : Option (Nat × Nat)) (y4 : Nat) (y5 : Option Nat) (y6 : Int) (y7 : Bool) (y8 : Option (Nat × Nat)) (y9 : Nat) (y10 : Option Nat) (y11 : Int) (y12 : Option (Nat × Nat)) (y13 : Nat) (y14 : Int) (y15 : Option (Nat × Nat)) (y16 : Nat) (y17 : Option Nat) (y18 : Int) (y19 : Option (Nat × Nat)) (y20 : Nat) (y21 : Option Nat) (y22 : Int) : Ann.clr f16a40 (f16e28 y0 y1 y2 y3 y4 y5 y6 y7 y8 y9 y10 y11 y12 y13 y14 y15 y16 y17 y18 y19 y20 y21 y22) = f16e29 y1 y2 y3 y4 y5 y6 := hide (by kernel_rfl)
theorem f16n43 {R : Type} (call : Bool → CallF R) (dem : Bool) (N : Nat) (J : KF R) (e : Env) (σ : St) : runK Try.prog call dem N f16c43 f16a43 J e σ = runK Try.prog call dem N f16c44 f16a44 (seqC (fun K e σ => runK Try.prog call dem N f16c45 f16a45 K e σ) f16a43 J) e σ := runK_seq' (by kernel_rfl) (by kernel_rfl) (by kernel_rfl)
theorem f16r44_f16e29 {R : Type} (call : Bool → CallF R) (dem : Bool) (N : Nat) (y0 : Option (Nat × Nat)) (y1 : Nat) (y2 : Option (Nat × Nat)) (y3 : Nat) (y4 : Option Nat) (y5 : Int) (J : KF R) (σ : St) :
    runK Try.prog call dem N f16c44 f16a44 J (f16e29 y0 y1 y2 y3 y4 y5) σ =
Option.bind (St.ld σ y1 (2 : Nat)) fun v0 =>
  Option.bind (AV.toInt IntKind.i64 v0) fun v1 =>
    call dem (28 : Nat) [AV.ptr y0, AV.int IntKind.i64 v1] σ fun v2 v3 =>
      Option.bind (AV.toTuple v2) fun v4 =>
        if List.length v4 = (2 : Nat) then
          Option.bind (List.head? v4) fun v5 =>
            Option.bind (AV.toSl (1 : Nat) v5) fun v6 =>
              Option.bind (List.head? (List.tail v4)) fun v7 =>
                Option.bind (AV.toInt IntKind.i64 v7) fun v8 =>
                  J Ex.normal
                    (f16e30 y0 y1 y2 y3 y4 y5 (Sl.o v6) (Sl.len v6) (Sl.cap v6) v8 (Sl.o v6) (Sl.len v6) (Sl.cap v6) v8 y0 y1 v1 (Sl.o v6) (Sl.len v6)
                      (Sl.cap v6) v8 (Sl.o v6) (Sl.len v6) (Sl.cap v6) v8)
                    v3
        else none := hide (by kernel_rfl)
theorem f16z43_f16e30 (y0 : Option (Nat × Nat)) (y1 : Nat) (y2 : Option (Nat × Nat)) (y3 : Nat) (y4 : Option Nat) (y5 : Int) (y6 : Option (Nat × Nat)) (y7 : Nat) (y8 : Option Nat) (y9 : Int) (y10 : Option (Nat × Nat)) (y11 : Nat) (y12 : Option Nat) (y13 : Int) (y14 : Option (Nat × Nat)) (y15 : Nat) (y16 : Int) (y17 : Option (Nat × Nat)) (y18 : Nat) (y19 : Option Nat) (y20 : Int) (y21 : Option (Nat × Nat)) (y22 : Nat) (y23 : Option Nat) (y24 : Int) : Ann.clr f16a43 (f16e30 y0 y1 y2 y3 y4 y5 y6 y7 y8 y9 y10 y11 y12 y13 y14 y15 y16 y17 y18 y19 y20 y21 y22 y23 y24) = f16e31 y2 y3 y4 y5 y6 y7 y8 y9 := hide (by kernel_rfl)
theorem f16n45 {R : Type} (call : Bool → CallF R) (dem : Bool) (N : Nat) (J : KF R) (e : Env) (σ : St) : runK Try.prog call dem N f16c45 f16a45 J e σ = runK Try.prog call dem N f16c46 f16a46 (seqC (fun K e σ => runK Try.prog call dem N f16c47 f16a47 K e σ) f16a45 J) e σ := runK_seq' (by kernel_rfl) (by kernel_rfl) (by kernel_rfl)
theorem f16r46_f16e31 {R : Type} (call : Bool → CallF R) (dem : Bool) (N : Nat) (y0 : Option (Nat × Nat)) (y1 : Nat) (y2 : Option Nat) (y3 : Int) (y4 : Option (Nat × Nat)) (y5 : Nat) (y6 : Option Nat) (y7 : Int) (J : KF R) (σ : St) :
    runK Try.prog call dem N f16c46 f16a46 J (f16e31 y0 y1 y2 y3 y4 y5 y6 y7) σ =
call dem (19 : Nat) [AV.slice y0 y1 y2 (1 : Nat), AV.slice y4 y5 y6 (1 : Nat)] σ fun v0 v1 =>
  Option.bind (AV.toBool v0) fun v2 =>
    if v2 = true then J Ex.normal (f16e32 (y3 == y7) y0 y1 y2 y3 y4 y5 y6 y7 y0 y1 y2 y4 y5 y6 v2 true y3 y7 (y3 == y7) (y3 == y7)) v1
    else J Ex.normal (f16e33 false y0 y1 y2 y3 y4 y5 y6 y7 y0 y1 y2 y4 y5 y6 v2 false false) v1 := hide (by kernel_rfl)
theorem f16z45_f16e32 (y0 : Bool) (y1 : Option (Nat × Nat)) (y2 : Nat) (y3 : Option Nat) (y4 : Int) (y5 : Option (Nat × Nat)) (y6 : Nat) (y7 : Option Nat) (y8 : Int) (y9 : Option (Nat × Nat)) (y10 : Nat) (y11 : Option Nat) (y12 : Option (Nat × Nat)) (y13 : Nat) (y14 : Option Nat) (y15 : Bool) (y16 : Bool) (y17 : Int) (y18 : Int) (y19 : Bool) (y20 : Bool) : Ann.clr f16a45 (f16e32 y0 y1 y2 y3 y4 y5 y6 y7 y8 y9 y10 y11 y12 y13 y14 y15 y16 y17 y18 y19 y20) = f16e9 y0 := hide (by kernel_rfl)
theorem f16y47_f16e9 {R : Type} (call : Bool → CallF R) (dem : Bool) (N : Nat) (y0 : Bool) (J : KF R) (σ : St) : runK Try.prog call dem N f16c47 f16a47 J (f16e9 y0) σ = J .ret (f16e9 y0) σ := runK_ret' (by kernel_rfl) (by kernel_rfl)
theorem f16z45_f16e33 (y0 : Bool) (y1 : Option (Nat × Nat)) (y2 : Nat) (y3 : Option Nat) (y4 : Int) (y5 : Option (Nat × Nat)) (y6 : Nat) (y7 : Option Nat) (y8 : Int) (y9 : Option (Nat × Nat)) (y10 : Nat) (y11 : Option Nat) (y12 : Option (Nat × Nat)) (y13 : Nat) (y14 : Option Nat) (y15 : Bool) (y16 : Bool) (y17 : Bool) : Ann.clr f16a45 (f16e33 y0 y1 y2 y3 y4 y5 y6 y7 y8 y9 y10 y11 y12 y13 y14 y15 y16 y17) = f16e9 y0 := hide (by kernel_rfl)
theorem f16n41 {R : Type} (call : Bool → CallF R) (dem : Bool) (N : Nat) (J : KF R) (e : Env) (σ : St) : runK Try.prog call dem N f16c41 f16a41 J e σ = J .normal e σ := runK_skip' (by kernel_rfl)
theorem f16z39_f16e27 (y0 : Option (Nat × Nat)) (y1 : Option (Nat × Nat)) (y2 : Nat) (y3 : Bool) : Ann.clr f16a39 (f16e27 y0 y1 y2 y3) = f16e34 := hide (by kernel_rfl)
theorem f16z29_f16e34 : Ann.clr f16a29 (f16e34) = f16e34 := hide (by kernel_rfl)
theorem f16z19_f16e34 : Ann.clr f16a19 (f16e34) = f16e34 := hide (by kernel_rfl)
theorem f16z9_f16e34 : Ann.clr f16a9 (f16e34) = f16e34 := hide (by kernel_rfl)
theorem f16z6_f16e34 : Ann.clr f16a6 (f16e34) = f16e34 := hide (by kernel_rfl)
theorem f16z2_f16e34 : Ann.clr f16a2 (f16e34) = f16e34 := hide (by kernel_rfl)
theorem f16n4 {R : Type} (call : Bool → CallF R) (dem : Bool) (N : Nat) (J : KF R) (e : Env) (σ : St) : runK Try.prog call dem N f16c4 f16a4 J e σ = runK Try.prog call dem N f16c48 f16a48 (seqC (fun K e σ => runK Try.prog call dem N f16c49 f16a49 K e σ) f16a4 J) e σ := runK_seq' (by kernel_rfl) (by kernel_rfl) (by kernel_rfl)
theorem f16r48_f16e34 {R : Type} (call : Bool → CallF R) (dem : Bool) (N : Nat) (J : KF R) (σ : St) :
    runK Try.prog call dem N f16c48 f16a48 J (f16e34) σ =
J Ex.normal (f16e9 true) σ := hide (by kernel_rfl)
theorem f16z4_f16e9 (y0 : Bool) : Ann.clr f16a4 (f16e9 y0) = f16e9 y0 := hide (by kernel_rfl)
theorem f16y49_f16e9 {R : Type} (call : Bool → CallF R) (dem : Bool) (N : Nat) (y0 : Bool) (J : KF R) (σ : St) : runK Try.prog call dem N f16c49 f16a49 J (f16e9 y0) σ = J .ret (f16e9 y0) σ := runK_ret' (by kernel_rfl) (by kernel_rfl)
theorem f16b_f16e9_r {R : Type} (y0 : Bool) (σ : St) (K : AV → St → Option R) : bodyC Try.prog f16rs K (Ex.ret) (f16e9 y0) σ =
K (AV.bool y0) σ := hide (by kernel_rfl)
attribute [go_sem] f16_eq f16n0 f16r1_f16e0 f16z0_f16e1 f16n2 f16n3 f16r5_f16e2 f16z3_f16e3 f16n6 f16n7 f16n8 f16r10_f16e4 f16z8_f16e5 f16x11_f16e6 f16n12 f16z11_f16e6 f16r13_f16e6 f16z11_f16e7 f16z7_f16e6 f16x9_f16e6 f16n14 f16r16_f16e6 f16z14_f16e8 f16y17_f16e9 f16n15 f16r18_f16e6 f16z15_f16e10 f16x19_f16e11 f16n20 f16r22_f16e11 f16z20_f16e12 f16n23 f16r24_f16e13 f16z23_f16e14 f16n25 f16r26_f16e15 f16z25_f16e16 f16y27_f16e9 f16z25_f16e17 f16n21 f16r28_f16e11 f16z21_f16e18 f16x29_f16e19 f16n30 f16r32_f16e19 f16z30_f16e20 f16n33 f16r34_f16e21 f16z33_f16e22 f16n35 f16r36_f16e23 f16z35_f16e24 f16y37_f16e9 f16z35_f16e25 f16n31 f16r38_f16e19 f16z31_f16e26 f16x39_f16e27 f16n40 f16r42_f16e27 f16z40_f16e28 f16n43 f16r44_f16e29 f16z43_f16e30 f16n45 f16r46_f16e31 f16z45_f16e32 f16y47_f16e9 f16z45_f16e33 f16n41 f16z39_f16e27 f16z29_f16e34 f16z19_f16e34 f16z9_f16e34 f16z6_f16e34 f16z2_f16e34 f16n4 f16r48_f16e34 f16z4_f16e9 f16y49_f16e9 f16b_f16e9_r

end Go.Proofs.Ytciibgjmdgpgnaa
