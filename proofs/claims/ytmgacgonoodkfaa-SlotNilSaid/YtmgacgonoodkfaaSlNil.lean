/- What the machine does with each piece of code, in plain text. PRINTED by a program of this workplace; Lean checks it. -/
import Derived.Test.YtmgacgonoodkfaaSlAnn
import Derived.Test.YtmgacgonoodkfaaProg
import Derived.KernelRfl
import Derived.Attr
namespace Go.Proofs.Ytmgacgonoodkfaa
open Go.AM
set_option maxRecDepth 100000
set_option linter.unusedVariables false
noncomputable def f7rs : List ResultVar := [ResultVar.tmp (2 : Nat)]
noncomputable def f7c0 : Code := subCode [] (bodyOf Try.prog 7)
def f7a0 : Ann := subAnn [] ann7
noncomputable def f7c1 : Code := subCode [0] (bodyOf Try.prog 7)
def f7a1 : Ann := subAnn [0] ann7
noncomputable def f7c2 : Code := subCode [1] (bodyOf Try.prog 7)
def f7a2 : Ann := subAnn [1] ann7
noncomputable def f7c3 : Code := subCode [1, 0] (bodyOf Try.prog 7)
def f7a3 : Ann := subAnn [1, 0] ann7
noncomputable def f7c4 : Code := subCode [1, 1] (bodyOf Try.prog 7)
def f7a4 : Ann := subAnn [1, 1] ann7
noncomputable def f7c5 : Code := subCode [1, 1, 0] (bodyOf Try.prog 7)
def f7a5 : Ann := subAnn [1, 1, 0] ann7
noncomputable def f7c6 : Code := subCode [1, 1, 1] (bodyOf Try.prog 7)
def f7a6 : Ann := subAnn [1, 1, 1] ann7
noncomputable def f7c7 : Code := subCode [1, 1, 1, 0] (bodyOf Try.prog 7)
def f7a7 : Ann := subAnn [1, 1, 1, 0] ann7
noncomputable def f7c8 : Code := subCode [1, 1, 1, 1] (bodyOf Try.prog 7)
def f7a8 : Ann := subAnn [1, 1, 1, 1] ann7
noncomputable def f7c9 : Code := subCode [1, 1, 1, 1, 0] (bodyOf Try.prog 7)
def f7a9 : Ann := subAnn [1, 1, 1, 1, 0] ann7
noncomputable def f7c10 : Code := subCode [1, 1, 1, 1, 1] (bodyOf Try.prog 7)
def f7a10 : Ann := subAnn [1, 1, 1, 1, 1] ann7
noncomputable def f7c11 : Code := subCode [1, 1, 1, 1, 1, 0] (bodyOf Try.prog 7)
def f7a11 : Ann := subAnn [1, 1, 1, 1, 1, 0] ann7
noncomputable def f7c12 : Code := subCode [1, 1, 1, 1, 1, 1] (bodyOf Try.prog 7)
def f7a12 : Ann := subAnn [1, 1, 1, 1, 1, 1] ann7
noncomputable def f7c13 : Code := subCode [1, 1, 1, 1, 1, 1, 0] (bodyOf Try.prog 7)
def f7a13 : Ann := subAnn [1, 1, 1, 1, 1, 1, 0] ann7
noncomputable def f7c14 : Code := subCode [1, 1, 1, 1, 1, 1, 1] (bodyOf Try.prog 7)
def f7a14 : Ann := subAnn [1, 1, 1, 1, 1, 1, 1] ann7
noncomputable def f7c15 : Code := subCode [1, 1, 1, 1, 1, 1, 1, 0] (bodyOf Try.prog 7)
def f7a15 : Ann := subAnn [1, 1, 1, 1, 1, 1, 1, 0] ann7
noncomputable def f7c16 : Code := subCode [1, 1, 1, 1, 1, 1, 1, 1] (bodyOf Try.prog 7)
def f7a16 : Ann := subAnn [1, 1, 1, 1, 1, 1, 1, 1] ann7
noncomputable def f7c17 : Code := subCode [1, 1, 1, 1, 1, 1, 1, 0, 0] (bodyOf Try.prog 7)
def f7a17 : Ann := subAnn [1, 1, 1, 1, 1, 1, 1, 0, 0] ann7
noncomputable def f7c18 : Code := subCode [1, 1, 1, 1, 1, 1, 1, 0, 1] (bodyOf Try.prog 7)
def f7a18 : Ann := subAnn [1, 1, 1, 1, 1, 1, 1, 0, 1] ann7
noncomputable def f7c19 : Code := subCode [1, 1, 1, 1, 1, 1, 1, 0, 1, 0] (bodyOf Try.prog 7)
def f7a19 : Ann := subAnn [1, 1, 1, 1, 1, 1, 1, 0, 1, 0] ann7
noncomputable def f7c20 : Code := subCode [1, 1, 1, 1, 1, 1, 1, 0, 1, 1] (bodyOf Try.prog 7)
def f7a20 : Ann := subAnn [1, 1, 1, 1, 1, 1, 1, 0, 1, 1] ann7
noncomputable def f7c21 : Code := subCode [1, 1, 1, 1, 1, 1, 1, 0, 1, 1, 0] (bodyOf Try.prog 7)
def f7a21 : Ann := subAnn [1, 1, 1, 1, 1, 1, 1, 0, 1, 1, 0] ann7
noncomputable def f7c22 : Code := subCode [1, 1, 1, 1, 1, 1, 1, 0, 1, 1, 1] (bodyOf Try.prog 7)
def f7a22 : Ann := subAnn [1, 1, 1, 1, 1, 1, 1, 0, 1, 1, 1] ann7
noncomputable def f7c23 : Code := subCode [1, 1, 1, 1, 1, 1, 1, 0, 1, 1, 1, 0] (bodyOf Try.prog 7)
def f7a23 : Ann := subAnn [1, 1, 1, 1, 1, 1, 1, 0, 1, 1, 1, 0] ann7
noncomputable def f7c24 : Code := subCode [1, 1, 1, 1, 1, 1, 1, 0, 1, 1, 1, 1] (bodyOf Try.prog 7)
def f7a24 : Ann := subAnn [1, 1, 1, 1, 1, 1, 1, 0, 1, 1, 1, 1] ann7
noncomputable def f7c25 : Code := subCode [1, 1, 1, 1, 1, 1, 1, 0, 1, 1, 1, 1, 0] (bodyOf Try.prog 7)
def f7a25 : Ann := subAnn [1, 1, 1, 1, 1, 1, 1, 0, 1, 1, 1, 1, 0] ann7
noncomputable def f7c26 : Code := subCode [1, 1, 1, 1, 1, 1, 1, 0, 1, 1, 1, 1, 1] (bodyOf Try.prog 7)
def f7a26 : Ann := subAnn [1, 1, 1, 1, 1, 1, 1, 0, 1, 1, 1, 1, 1] ann7
noncomputable def f7c27 : Code := subCode [1, 1, 1, 1, 1, 1, 1, 0, 1, 1, 1, 1, 1, 0] (bodyOf Try.prog 7)
def f7a27 : Ann := subAnn [1, 1, 1, 1, 1, 1, 1, 0, 1, 1, 1, 1, 1, 0] ann7
noncomputable def f7c28 : Code := subCode [1, 1, 1, 1, 1, 1, 1, 0, 1, 1, 1, 1, 1, 1] (bodyOf Try.prog 7)
def f7a28 : Ann := subAnn [1, 1, 1, 1, 1, 1, 1, 0, 1, 1, 1, 1, 1, 1] ann7
noncomputable def f7c29 : Code := subCode [1, 1, 1, 1, 1, 1, 1, 1, 0] (bodyOf Try.prog 7)
def f7a29 : Ann := subAnn [1, 1, 1, 1, 1, 1, 1, 1, 0] ann7
noncomputable def f7c30 : Code := subCode [1, 1, 1, 1, 1, 1, 1, 1, 1] (bodyOf Try.prog 7)
def f7a30 : Ann := subAnn [1, 1, 1, 1, 1, 1, 1, 1, 1] ann7
def f7e0 (y0 : Int) (y1 : Int) (y2 : ByteArray) (y3 : ByteArray) : Env := AV.agg [AV.int IntKind.i64 y0, AV.int IntKind.i64 y1, AV.str y2, AV.str y3] :: Env.sp 98 []
def f7e1 (y0 : Int) (y1 : Int) (y2 : ByteArray) (y3 : ByteArray) (y4 : Nat) (y5 : Bool) : Env := AV.agg [AV.int IntKind.i64 y0, AV.int IntKind.i64 y1, AV.str y2, AV.str y3] :: AV.ptr (some (y4, (0 : Nat))) :: AV.bool y5 :: Env.sp 96 []
def f7e2 (y0 : Nat) : Env := Env.sp 1 (AV.ptr (some (y0, (0 : Nat))) :: Env.sp 97 [])
def f7e3 (y0 : Nat) (y1 : Option (Nat × Nat)) : Env := Env.sp 1 (AV.ptr (some (y0, (0 : Nat))) :: Env.sp 1 (AV.ptr y1 :: Env.sp 95 []))
def f7e4 (y0 : Nat) (y1 : Option (Nat × Nat)) (y2 : Bool) (y3 : Int) (y4 : Bool) (y5 : Int) (y6 : Option (Nat × Nat)) (y7 : Nat) (y8 : Int) (y9 : Nat) (y10 : Int) (y11 : Nat) (y12 : ByteArray) (y13 : Nat) (y14 : ByteArray) (y15 : Bool) (y16 : Int) (y17 : Bool) (y18 : Int) : Env := Env.sp 1 (AV.ptr (some (y0, (0 : Nat))) :: Env.sp 1 (AV.ptr y1 :: AV.bool y2 :: AV.int IntKind.i64 y3 :: Env.sp 8 (AV.tuple [AV.bool y4, AV.int IntKind.i64 y5] :: AV.ptr y6 :: AV.ptr (some (y7, (0 : Nat))) :: AV.int IntKind.i64 y8 :: AV.ptr (some (y9, (1 : Nat))) :: AV.int IntKind.i64 y10 :: AV.ptr (some (y11, (2 : Nat))) :: AV.str y12 :: AV.ptr (some (y13, (3 : Nat))) :: AV.str y14 :: AV.tuple [AV.bool y15, AV.int IntKind.i64 y16] :: AV.bool y17 :: AV.int IntKind.i64 y18 :: Env.sp 72 [])))
def f7e5 (y0 : Nat) (y1 : Option (Nat × Nat)) (y2 : Bool) (y3 : Int) : Env := Env.sp 1 (AV.ptr (some (y0, (0 : Nat))) :: Env.sp 1 (AV.ptr y1 :: AV.bool y2 :: AV.int IntKind.i64 y3 :: Env.sp 93 []))
def f7e6 (y0 : Nat) (y1 : Option (Nat × Nat)) (y2 : Bool) (y3 : Int) (y4 : ByteArray) (y5 : Bool) (y6 : ByteArray) (y7 : Bool) (y8 : Option (Nat × Nat)) (y9 : ByteArray) (y10 : Bool) (y11 : ByteArray) (y12 : Bool) : Env := Env.sp 1 (AV.ptr (some (y0, (0 : Nat))) :: Env.sp 1 (AV.ptr y1 :: AV.bool y2 :: AV.int IntKind.i64 y3 :: AV.str y4 :: AV.bool y5 :: Env.sp 19 (AV.tuple [AV.str y6, AV.bool y7] :: AV.ptr y8 :: AV.tuple [AV.str y9, AV.bool y10] :: AV.str y11 :: AV.bool y12 :: Env.sp 67 [])))
def f7e7 (y0 : Nat) (y1 : Option (Nat × Nat)) (y2 : Bool) (y3 : Int) (y4 : Bool) : Env := Env.sp 1 (AV.ptr (some (y0, (0 : Nat))) :: Env.sp 1 (AV.ptr y1 :: AV.bool y2 :: AV.int IntKind.i64 y3 :: Env.sp 1 (AV.bool y4 :: Env.sp 91 [])))
def f7e8 (y0 : Nat) (y1 : Option (Nat × Nat)) (y2 : Bool) (y3 : Int) (y4 : Bool) (y5 : Nat) (y6 : Bool) (y7 : ByteArray) (y8 : Int) (y9 : Option (Nat × Nat)) (y10 : Nat) (y11 : Option Nat) (y12 : Bool) (y13 : Option (Nat × Nat)) (y14 : Nat) (y15 : Int) (y16 : ByteArray) (y17 : Int) (y18 : Option (Nat × Nat)) (y19 : Nat) (y20 : Option Nat) (y21 : Bool) (y22 : ByteArray) (y23 : Int) (y24 : Option (Nat × Nat)) (y25 : Nat) (y26 : Option Nat) (y27 : Bool) : Env := Env.sp 1 (AV.ptr (some (y0, (0 : Nat))) :: Env.sp 1 (AV.ptr y1 :: AV.bool y2 :: AV.int IntKind.i64 y3 :: Env.sp 1 (AV.bool y4 :: AV.ptr (some (y5, (0 : Nat))) :: AV.bool y6 :: Env.sp 22 (AV.tuple [AV.agg [AV.str y7, AV.int IntKind.i64 y8, AV.slice y9 y10 y11 (2 : Nat)], AV.bool y12] :: AV.ptr y13 :: AV.ptr (some (y14, (0 : Nat))) :: AV.int IntKind.i64 y15 :: AV.tuple [AV.agg [AV.str y16, AV.int IntKind.i64 y17, AV.slice y18 y19 y20 (2 : Nat)], AV.bool y21] :: AV.agg [AV.str y22, AV.int IntKind.i64 y23, AV.slice y24 y25 y26 (2 : Nat)] :: AV.bool y27 :: Env.sp 60 []))))
def f7e9 (y0 : Nat) (y1 : Option (Nat × Nat)) (y2 : Bool) (y3 : Int) (y4 : Bool) (y5 : Bool) : Env := Env.sp 1 (AV.ptr (some (y0, (0 : Nat))) :: Env.sp 1 (AV.ptr y1 :: AV.bool y2 :: AV.int IntKind.i64 y3 :: Env.sp 1 (AV.bool y4 :: Env.sp 1 (AV.bool y5 :: Env.sp 89 []))))
def f7e10 (y0 : Nat) (y1 : Option (Nat × Nat)) (y2 : Bool) (y3 : Int) (y4 : Bool) (y5 : Bool) (y6 : ByteArray) (y7 : ByteArray) (y8 : Bool) (y9 : ByteArray) (y10 : ByteArray) (y11 : Bool) (y12 : Option (Nat × Nat)) (y13 : Nat) (y14 : Int) (y15 : Nat) (y16 : Int) (y17 : ByteArray) (y18 : ByteArray) (y19 : Bool) (y20 : ByteArray) (y21 : ByteArray) (y22 : Bool) : Env := Env.sp 1 (AV.ptr (some (y0, (0 : Nat))) :: Env.sp 1 (AV.ptr y1 :: AV.bool y2 :: AV.int IntKind.i64 y3 :: Env.sp 1 (AV.bool y4 :: Env.sp 1 (AV.bool y5 :: AV.str y6 :: AV.str y7 :: AV.bool y8 :: Env.sp 26 (AV.tuple [AV.str y9, AV.str y10, AV.bool y11] :: AV.ptr y12 :: AV.ptr (some (y13, (0 : Nat))) :: AV.int IntKind.i64 y14 :: AV.ptr (some (y15, (1 : Nat))) :: AV.int IntKind.i64 y16 :: AV.tuple [AV.str y17, AV.str y18, AV.bool y19] :: AV.str y20 :: AV.str y21 :: AV.bool y22 :: Env.sp 50 [])))))
def f7e11 (y0 : Nat) (y1 : Option (Nat × Nat)) (y2 : Bool) (y3 : Int) (y4 : Bool) (y5 : Bool) (y6 : Bool) : Env := Env.sp 1 (AV.ptr (some (y0, (0 : Nat))) :: Env.sp 1 (AV.ptr y1 :: AV.bool y2 :: AV.int IntKind.i64 y3 :: Env.sp 1 (AV.bool y4 :: Env.sp 1 (AV.bool y5 :: Env.sp 2 (AV.bool y6 :: Env.sp 86 [])))))
def f7e12 (y0 : Nat) (y1 : Option (Nat × Nat)) (y2 : Bool) (y3 : Int) (y4 : Bool) (y5 : Bool) (y6 : Bool) (y7 : Int) : Env := Env.sp 1 (AV.ptr (some (y0, (0 : Nat))) :: Env.sp 1 (AV.ptr y1 :: AV.bool y2 :: AV.int IntKind.i64 y3 :: Env.sp 1 (AV.bool y4 :: Env.sp 1 (AV.bool y5 :: Env.sp 2 (AV.bool y6 :: AV.int IntKind.i64 y7 :: Env.sp 85 [])))))
def f7e13 (y0 : Nat) (y1 : Option (Nat × Nat)) (y2 : Bool) (y3 : Int) (y4 : Bool) (y5 : Bool) (y6 : Bool) (y7 : Int) (y8 : Nat) (y9 : Int) (y10 : Bool) (y11 : Bool) (y12 : Bool) (y13 : Bool) (y14 : Bool) : Env := Env.sp 1 (AV.ptr (some (y0, (0 : Nat))) :: Env.sp 1 (AV.ptr y1 :: AV.bool y2 :: AV.int IntKind.i64 y3 :: Env.sp 1 (AV.bool y4 :: Env.sp 1 (AV.bool y5 :: Env.sp 2 (AV.bool y6 :: AV.int IntKind.i64 y7 :: Env.sp 35 (AV.ptr (some (y8, (0 : Nat))) :: AV.int IntKind.i64 y9 :: AV.bool y10 :: AV.bool y11 :: AV.tuple [] :: AV.tuple [] :: AV.tuple [] :: AV.bool y12 :: AV.bool y13 :: AV.tuple [] :: AV.tuple [] :: AV.tuple [] :: AV.bool y14 :: Env.sp 37 []))))))
def f7e14 (y0 : Nat) (y1 : Option (Nat × Nat)) (y2 : Bool) (y3 : Int) (y4 : Bool) (y5 : Bool) (y6 : Bool) (y7 : Int) (y8 : Nat) (y9 : Int) (y10 : Bool) (y11 : Bool) (y12 : Nat) (y13 : Int) (y14 : Bool) (y15 : Bool) (y16 : Bool) (y17 : Bool) : Env := Env.sp 1 (AV.ptr (some (y0, (0 : Nat))) :: Env.sp 1 (AV.ptr y1 :: AV.bool y2 :: AV.int IntKind.i64 y3 :: Env.sp 1 (AV.bool y4 :: Env.sp 1 (AV.bool y5 :: Env.sp 2 (AV.bool y6 :: AV.int IntKind.i64 y7 :: Env.sp 35 (AV.ptr (some (y8, (0 : Nat))) :: AV.int IntKind.i64 y9 :: AV.bool y10 :: AV.bool y11 :: AV.ptr (some (y12, (0 : Nat))) :: AV.int IntKind.i64 y13 :: AV.bool y14 :: AV.bool y15 :: AV.bool y16 :: AV.tuple [] :: AV.tuple [] :: AV.tuple [] :: AV.bool y17 :: Env.sp 37 []))))))
def f7e15 (y0 : Nat) (y1 : Option (Nat × Nat)) (y2 : Bool) (y3 : Int) (y4 : Bool) (y5 : Bool) (y6 : Bool) (y7 : Int) (y8 : Nat) (y9 : Int) (y10 : Bool) (y11 : Bool) (y12 : Nat) (y13 : Int) (y14 : Bool) (y15 : Bool) (y16 : Bool) (y17 : Nat) (y18 : Int) (y19 : Bool) (y20 : Bool) : Env := Env.sp 1 (AV.ptr (some (y0, (0 : Nat))) :: Env.sp 1 (AV.ptr y1 :: AV.bool y2 :: AV.int IntKind.i64 y3 :: Env.sp 1 (AV.bool y4 :: Env.sp 1 (AV.bool y5 :: Env.sp 2 (AV.bool y6 :: AV.int IntKind.i64 y7 :: Env.sp 35 (AV.ptr (some (y8, (0 : Nat))) :: AV.int IntKind.i64 y9 :: AV.bool y10 :: AV.bool y11 :: AV.ptr (some (y12, (0 : Nat))) :: AV.int IntKind.i64 y13 :: AV.bool y14 :: AV.bool y15 :: AV.bool y16 :: AV.ptr (some (y17, (1 : Nat))) :: AV.int IntKind.i64 y18 :: AV.bool y19 :: AV.bool y20 :: Env.sp 37 []))))))
def f7e16 (y0 : Nat) (y1 : Option (Nat × Nat)) (y2 : Bool) (y3 : Int) (y4 : Bool) (y5 : Bool) (y6 : Bool) (y7 : Int) (y8 : Bool) : Env := Env.sp 1 (AV.ptr (some (y0, (0 : Nat))) :: Env.sp 1 (AV.ptr y1 :: AV.bool y2 :: AV.int IntKind.i64 y3 :: Env.sp 1 (AV.bool y4 :: Env.sp 1 (AV.bool y5 :: Env.sp 2 (AV.bool y6 :: AV.int IntKind.i64 y7 :: Env.sp 47 (AV.bool y8 :: Env.sp 37 []))))))
def f7e17 (y0 : Nat) (y1 : Option (Nat × Nat)) (y2 : Bool) (y3 : Int) (y4 : Bool) (y5 : Bool) (y6 : Bool) (y7 : Int) (y8 : Bool) (y9 : Nat) (y10 : ByteArray) (y11 : Int) (y12 : Bool) : Env := Env.sp 1 (AV.ptr (some (y0, (0 : Nat))) :: Env.sp 1 (AV.ptr y1 :: AV.bool y2 :: AV.int IntKind.i64 y3 :: Env.sp 1 (AV.bool y4 :: Env.sp 1 (AV.bool y5 :: Env.sp 2 (AV.bool y6 :: AV.int IntKind.i64 y7 :: Env.sp 47 (AV.bool y8 :: AV.ptr (some (y9, (2 : Nat))) :: AV.str y10 :: AV.int IntKind.i64 y11 :: AV.bool y12 :: Env.sp 33 []))))))
def f7e18 (y0 : Nat) (y1 : Option (Nat × Nat)) (y2 : Bool) (y3 : Int) (y4 : Bool) (y5 : Bool) (y6 : Bool) (y7 : Int) (y8 : Bool) : Env := Env.sp 1 (AV.ptr (some (y0, (0 : Nat))) :: Env.sp 1 (AV.ptr y1 :: AV.bool y2 :: AV.int IntKind.i64 y3 :: Env.sp 1 (AV.bool y4 :: Env.sp 1 (AV.bool y5 :: Env.sp 2 (AV.bool y6 :: AV.int IntKind.i64 y7 :: Env.sp 51 (AV.bool y8 :: Env.sp 33 []))))))
def f7e19 (y0 : Nat) (y1 : Option (Nat × Nat)) (y2 : Bool) (y3 : Int) (y4 : Bool) (y5 : Bool) (y6 : Bool) (y7 : Int) (y8 : Bool) (y9 : Nat) (y10 : ByteArray) (y11 : Int) (y12 : Bool) : Env := Env.sp 1 (AV.ptr (some (y0, (0 : Nat))) :: Env.sp 1 (AV.ptr y1 :: AV.bool y2 :: AV.int IntKind.i64 y3 :: Env.sp 1 (AV.bool y4 :: Env.sp 1 (AV.bool y5 :: Env.sp 2 (AV.bool y6 :: AV.int IntKind.i64 y7 :: Env.sp 51 (AV.bool y8 :: AV.ptr (some (y9, (3 : Nat))) :: AV.str y10 :: AV.int IntKind.i64 y11 :: AV.bool y12 :: Env.sp 29 []))))))
def f7e20 (y0 : Nat) (y1 : Option (Nat × Nat)) (y2 : Bool) (y3 : Int) (y4 : Bool) (y5 : Bool) (y6 : Bool) (y7 : Int) (y8 : Bool) : Env := Env.sp 1 (AV.ptr (some (y0, (0 : Nat))) :: Env.sp 1 (AV.ptr y1 :: AV.bool y2 :: AV.int IntKind.i64 y3 :: Env.sp 1 (AV.bool y4 :: Env.sp 1 (AV.bool y5 :: Env.sp 2 (AV.bool y6 :: AV.int IntKind.i64 y7 :: Env.sp 55 (AV.bool y8 :: Env.sp 29 []))))))
def f7e21 (y0 : Nat) (y1 : Bool) (y2 : Option (Nat × Nat)) (y3 : Bool) (y4 : Int) (y5 : Bool) (y6 : Bool) (y7 : Bool) (y8 : Int) (y9 : Bool) (y10 : Bool) (y11 : Bool) (y12 : Int) (y13 : Int) (y14 : Bool) (y15 : Bool) (y16 : Bool) (y17 : Bool) (y18 : Bool) (y19 : Bool) (y20 : Bool) (y21 : Bool) (y22 : Bool) (y23 : Bool) (y24 : Bool) (y25 : Bool) (y26 : Bool) (y27 : Bool) (y28 : Bool) (y29 : Option (Nat × Nat)) (y30 : Nat) (y31 : Int) (y32 : Int) (y33 : Bool) (y34 : Bool) (y35 : Bool) (y36 : Bool) (y37 : Bool) : Env := Env.sp 1 (AV.ptr (some (y0, (0 : Nat))) :: AV.bool y1 :: AV.ptr y2 :: AV.bool y3 :: AV.int IntKind.i64 y4 :: Env.sp 1 (AV.bool y5 :: Env.sp 1 (AV.bool y6 :: Env.sp 2 (AV.bool y7 :: AV.int IntKind.i64 y8 :: Env.sp 56 (AV.bool y9 :: AV.bool y10 :: AV.bool y11 :: AV.int IntKind.i64 y12 :: AV.int IntKind.i64 y13 :: AV.bool y14 :: AV.bool y15 :: AV.bool y16 :: AV.bool y17 :: AV.bool y18 :: AV.bool y19 :: AV.bool y20 :: AV.bool y21 :: AV.bool y22 :: AV.bool y23 :: AV.bool y24 :: AV.bool y25 :: AV.bool y26 :: AV.bool y27 :: AV.bool y28 :: AV.ptr y29 :: AV.ptr (some (y30, (0 : Nat))) :: AV.int IntKind.i64 y31 :: AV.int IntKind.i64 y32 :: AV.bool y33 :: AV.bool y34 :: AV.bool y35 :: AV.bool y36 :: AV.bool y37 :: [])))))
def f7e22 (y0 : Nat) (y1 : Bool) (y2 : Option (Nat × Nat)) (y3 : Bool) (y4 : Int) (y5 : Bool) (y6 : Bool) (y7 : Bool) (y8 : Int) (y9 : Bool) (y10 : Bool) (y11 : Bool) (y12 : Int) (y13 : Int) (y14 : Bool) (y15 : Bool) (y16 : Bool) (y17 : Bool) (y18 : Bool) (y19 : Bool) (y20 : Bool) (y21 : Bool) (y22 : Bool) (y23 : Bool) (y24 : Bool) (y25 : Bool) (y26 : Bool) (y27 : Bool) (y28 : Bool) (y29 : Option (Nat × Nat)) (y30 : Nat) (y31 : Int) (y32 : Int) (y33 : Bool) (y34 : Bool) (y35 : Bool) (y36 : Bool) : Env := Env.sp 1 (AV.ptr (some (y0, (0 : Nat))) :: AV.bool y1 :: AV.ptr y2 :: AV.bool y3 :: AV.int IntKind.i64 y4 :: Env.sp 1 (AV.bool y5 :: Env.sp 1 (AV.bool y6 :: Env.sp 2 (AV.bool y7 :: AV.int IntKind.i64 y8 :: Env.sp 56 (AV.bool y9 :: AV.bool y10 :: AV.bool y11 :: AV.int IntKind.i64 y12 :: AV.int IntKind.i64 y13 :: AV.bool y14 :: AV.bool y15 :: AV.bool y16 :: AV.bool y17 :: AV.bool y18 :: AV.bool y19 :: AV.bool y20 :: AV.bool y21 :: AV.bool y22 :: AV.bool y23 :: AV.bool y24 :: AV.bool y25 :: AV.bool y26 :: AV.bool y27 :: AV.bool y28 :: AV.ptr y29 :: AV.ptr (some (y30, (0 : Nat))) :: AV.int IntKind.i64 y31 :: AV.int IntKind.i64 y32 :: AV.bool y33 :: AV.bool y34 :: AV.bool y35 :: AV.tuple [] :: AV.bool y36 :: [])))))
def f7e23 (y0 : Nat) (y1 : Bool) (y2 : Option (Nat × Nat)) (y3 : Bool) (y4 : Int) (y5 : Bool) (y6 : Bool) (y7 : Bool) (y8 : Int) (y9 : Bool) (y10 : Bool) (y11 : Bool) (y12 : Int) (y13 : Int) (y14 : Bool) (y15 : Bool) (y16 : Bool) (y17 : Bool) (y18 : Bool) (y19 : Bool) (y20 : Bool) (y21 : Bool) (y22 : Bool) (y23 : Bool) (y24 : Bool) (y25 : Bool) (y26 : Bool) (y27 : Bool) (y28 : Bool) (y29 : Bool) (y30 : Bool) (y31 : Bool) : Env := Env.sp 1 (AV.ptr (some (y0, (0 : Nat))) :: AV.bool y1 :: AV.ptr y2 :: AV.bool y3 :: AV.int IntKind.i64 y4 :: Env.sp 1 (AV.bool y5 :: Env.sp 1 (AV.bool y6 :: Env.sp 2 (AV.bool y7 :: AV.int IntKind.i64 y8 :: Env.sp 56 (AV.bool y9 :: AV.bool y10 :: AV.bool y11 :: AV.int IntKind.i64 y12 :: AV.int IntKind.i64 y13 :: AV.bool y14 :: AV.bool y15 :: AV.bool y16 :: AV.bool y17 :: AV.bool y18 :: AV.bool y19 :: AV.bool y20 :: AV.bool y21 :: AV.bool y22 :: AV.bool y23 :: AV.bool y24 :: AV.bool y25 :: AV.bool y26 :: AV.bool y27 :: AV.bool y28 :: AV.tuple [] :: AV.tuple [] :: AV.tuple [] :: AV.tuple [] :: AV.tuple [] :: AV.bool y29 :: AV.bool y30 :: AV.tuple [] :: AV.bool y31 :: [])))))
def f7e24 (y0 : Nat) (y1 : Bool) (y2 : Option (Nat × Nat)) (y3 : Bool) (y4 : Int) (y5 : Bool) (y6 : Bool) (y7 : Bool) (y8 : Int) (y9 : Bool) (y10 : Bool) (y11 : Bool) (y12 : Int) (y13 : Int) (y14 : Bool) (y15 : Bool) (y16 : Bool) (y17 : Bool) (y18 : Bool) (y19 : Bool) (y20 : Bool) (y21 : Bool) (y22 : Bool) (y23 : Bool) (y24 : Bool) (y25 : Bool) (y26 : Bool) (y27 : Bool) (y28 : Bool) (y29 : Bool) : Env := Env.sp 1 (AV.ptr (some (y0, (0 : Nat))) :: AV.bool y1 :: AV.ptr y2 :: AV.bool y3 :: AV.int IntKind.i64 y4 :: Env.sp 1 (AV.bool y5 :: Env.sp 1 (AV.bool y6 :: Env.sp 2 (AV.bool y7 :: AV.int IntKind.i64 y8 :: Env.sp 56 (AV.bool y9 :: AV.bool y10 :: AV.bool y11 :: AV.int IntKind.i64 y12 :: AV.int IntKind.i64 y13 :: AV.bool y14 :: AV.bool y15 :: AV.bool y16 :: AV.bool y17 :: AV.bool y18 :: AV.bool y19 :: AV.bool y20 :: AV.bool y21 :: AV.bool y22 :: AV.bool y23 :: AV.bool y24 :: AV.tuple [] :: AV.tuple [] :: AV.bool y25 :: AV.bool y26 :: AV.tuple [] :: AV.tuple [] :: AV.tuple [] :: AV.tuple [] :: AV.tuple [] :: AV.bool y27 :: AV.bool y28 :: AV.tuple [] :: AV.bool y29 :: [])))))
def f7e25 (y0 : Nat) (y1 : Bool) (y2 : Option (Nat × Nat)) (y3 : Bool) (y4 : Int) (y5 : Bool) (y6 : Bool) (y7 : Bool) (y8 : Int) (y9 : Bool) (y10 : Bool) (y11 : Bool) (y12 : Int) (y13 : Int) (y14 : Bool) (y15 : Bool) (y16 : Bool) (y17 : Bool) (y18 : Bool) (y19 : Bool) (y20 : Bool) (y21 : Bool) (y22 : Bool) (y23 : Bool) (y24 : Bool) (y25 : Bool) (y26 : Bool) (y27 : Bool) : Env := Env.sp 1 (AV.ptr (some (y0, (0 : Nat))) :: AV.bool y1 :: AV.ptr y2 :: AV.bool y3 :: AV.int IntKind.i64 y4 :: Env.sp 1 (AV.bool y5 :: Env.sp 1 (AV.bool y6 :: Env.sp 2 (AV.bool y7 :: AV.int IntKind.i64 y8 :: Env.sp 56 (AV.bool y9 :: AV.bool y10 :: AV.bool y11 :: AV.int IntKind.i64 y12 :: AV.int IntKind.i64 y13 :: AV.bool y14 :: AV.bool y15 :: AV.bool y16 :: AV.bool y17 :: AV.bool y18 :: AV.bool y19 :: AV.bool y20 :: AV.tuple [] :: AV.tuple [] :: AV.bool y21 :: AV.bool y22 :: AV.tuple [] :: AV.tuple [] :: AV.bool y23 :: AV.bool y24 :: AV.tuple [] :: AV.tuple [] :: AV.tuple [] :: AV.tuple [] :: AV.tuple [] :: AV.bool y25 :: AV.bool y26 :: AV.tuple [] :: AV.bool y27 :: [])))))
def f7e26 (y0 : Nat) (y1 : Bool) (y2 : Option (Nat × Nat)) (y3 : Bool) (y4 : Int) (y5 : Bool) (y6 : Bool) (y7 : Bool) (y8 : Int) (y9 : Bool) (y10 : Bool) (y11 : Bool) (y12 : Int) (y13 : Int) (y14 : Bool) (y15 : Bool) (y16 : Bool) (y17 : Bool) (y18 : Bool) (y19 : Bool) (y20 : Bool) (y21 : Bool) (y22 : Bool) (y23 : Bool) (y24 : Bool) (y25 : Bool) : Env := Env.sp 1 (AV.ptr (some (y0, (0 : Nat))) :: AV.bool y1 :: AV.ptr y2 :: AV.bool y3 :: AV.int IntKind.i64 y4 :: Env.sp 1 (AV.bool y5 :: Env.sp 1 (AV.bool y6 :: Env.sp 2 (AV.bool y7 :: AV.int IntKind.i64 y8 :: Env.sp 56 (AV.bool y9 :: AV.bool y10 :: AV.bool y11 :: AV.int IntKind.i64 y12 :: AV.int IntKind.i64 y13 :: AV.bool y14 :: AV.bool y15 :: AV.bool y16 :: AV.tuple [] :: AV.tuple [] :: AV.bool y17 :: AV.bool y18 :: AV.tuple [] :: AV.tuple [] :: AV.bool y19 :: AV.bool y20 :: AV.tuple [] :: AV.tuple [] :: AV.bool y21 :: AV.bool y22 :: AV.tuple [] :: AV.tuple [] :: AV.tuple [] :: AV.tuple [] :: AV.tuple [] :: AV.bool y23 :: AV.bool y24 :: AV.tuple [] :: AV.bool y25 :: [])))))
def f7e27 (y0 : Nat) (y1 : Bool) (y2 : Option (Nat × Nat)) (y3 : Bool) (y4 : Int) (y5 : Bool) (y6 : Bool) (y7 : Bool) (y8 : Int) (y9 : Bool) (y10 : Bool) (y11 : Bool) (y12 : Bool) (y13 : Bool) (y14 : Bool) (y15 : Bool) (y16 : Bool) (y17 : Bool) (y18 : Bool) (y19 : Bool) (y20 : Bool) (y21 : Bool) (y22 : Bool) : Env := Env.sp 1 (AV.ptr (some (y0, (0 : Nat))) :: AV.bool y1 :: AV.ptr y2 :: AV.bool y3 :: AV.int IntKind.i64 y4 :: Env.sp 1 (AV.bool y5 :: Env.sp 1 (AV.bool y6 :: Env.sp 2 (AV.bool y7 :: AV.int IntKind.i64 y8 :: Env.sp 56 (AV.bool y9 :: AV.bool y10 :: AV.bool y11 :: AV.tuple [] :: AV.tuple [] :: AV.tuple [] :: AV.bool y12 :: AV.bool y13 :: AV.tuple [] :: AV.tuple [] :: AV.bool y14 :: AV.bool y15 :: AV.tuple [] :: AV.tuple [] :: AV.bool y16 :: AV.bool y17 :: AV.tuple [] :: AV.tuple [] :: AV.bool y18 :: AV.bool y19 :: AV.tuple [] :: AV.tuple [] :: AV.tuple [] :: AV.tuple [] :: AV.tuple [] :: AV.bool y20 :: AV.bool y21 :: AV.tuple [] :: AV.bool y22 :: [])))))
def f7e28 (y0 : Bool) : Env := Env.sp 2 (AV.bool y0 :: Env.sp 96 [])

/- function 7 -/
theorem f7_eq {R : Type} (call : CallF R) (N : Nat) (y0 : Int) (y1 : Int) (y2 : ByteArray) (y3 : ByteArray) (σ : St) (K : AV → St → Option R) :
    bodyK Try.prog call N ann 7 [AV.agg [AV.int IntKind.i64 y0, AV.int IntKind.i64 y1, AV.str y2, AV.str y3]] σ K = runK Try.prog call N f7c0 f7a0 (bodyC Try.prog f7rs K) (f7e0 y0 y1 y2 y3) σ := bodyK_of (fn := ((Try.prog.funcs[7]?).get rfl)) (by kernel_rfl) (by kernel_rfl) (by kernel_rfl) (by kernel_rfl) (by kernel_rfl) (by kernel_rfl)
theorem f7n0 {R : Type} (call : CallF R) (N : Nat) (J : KF R) (e : Env) (σ : St) : runK Try.prog call N f7c0 f7a0 J e σ = runK Try.prog call N f7c1 f7a1 (seqC (fun K e σ => runK Try.prog call N f7c2 f7a2 K e σ) f7a0 J) e σ := runK_seq' (by kernel_rfl) (by kernel_rfl) (by kernel_rfl)
theorem f7r1_f7e0 {R : Type} (call : CallF R) (N : Nat) (y0 : Int) (y1 : Int) (y2 : ByteArray) (y3 : ByteArray) (J : KF R) (σ : St) :
    runK Try.prog call N f7c1 f7a1 J (f7e0 y0 y1 y2 y3) σ =
J Ex.normal (f7e1 y0 y1 y2 y3 (St.next σ) false) (St.new σ (Blk.cells [AV.int IntKind.i64 y0, AV.int IntKind.i64 y1, AV.str y2, AV.str y3] true)) := hide (by kernel_rfl)
theorem f7z0_f7e1 (y0 : Int) (y1 : Int) (y2 : ByteArray) (y3 : ByteArray) (y4 : Nat) (y5 : Bool) : Ann.clr f7a0 (f7e1 y0 y1 y2 y3 y4 y5) = f7e2 y4 := hide (by kernel_rfl)
theorem f7n2 {R : Type} (call : CallF R) (N : Nat) (J : KF R) (e : Env) (σ : St) : runK Try.prog call N f7c2 f7a2 J e σ = runK Try.prog call N f7c3 f7a3 (seqC (fun K e σ => runK Try.prog call N f7c4 f7a4 K e σ) f7a2 J) e σ := runK_seq' (by kernel_rfl) (by kernel_rfl) (by kernel_rfl)
theorem f7r3_f7e2 {R : Type} (call : CallF R) (N : Nat) (y0 : Nat) (J : KF R) (σ : St) :
    runK Try.prog call N f7c3 f7a3 J (f7e2 y0) σ =
J Ex.normal (f7e3 y0 none) σ := hide (by kernel_rfl)
theorem f7z2_f7e3 (y0 : Nat) (y1 : Option (Nat × Nat)) : Ann.clr f7a2 (f7e3 y0 y1) = f7e3 y0 y1 := hide (by kernel_rfl)
theorem f7n4 {R : Type} (call : CallF R) (N : Nat) (J : KF R) (e : Env) (σ : St) : runK Try.prog call N f7c4 f7a4 J e σ = runK Try.prog call N f7c5 f7a5 (seqC (fun K e σ => runK Try.prog call N f7c6 f7a6 K e σ) f7a4 J) e σ := runK_seq' (by kernel_rfl) (by kernel_rfl) (by kernel_rfl)
theorem f7r5_f7e3 {R : Type} (call : CallF R) (N : Nat) (y0 : Nat) (y1 : Option (Nat × Nat)) (J : KF R) (σ : St) :
    runK Try.prog call N f7c5 f7a5 J (f7e3 y0 y1) σ =
Option.bind (St.ld σ y0 (0 : Nat)) fun v0 =>
  Option.bind (AV.toInt IntKind.i64 v0) fun v1 =>
    Option.bind (St.ld σ y0 (1 : Nat)) fun v2 =>
      Option.bind (AV.toInt IntKind.i64 v2) fun v3 =>
        Option.bind (St.ld σ y0 (2 : Nat)) fun v4 =>
          Option.bind (AV.toStr v4) fun v5 =>
            Option.bind (St.ld σ y0 (3 : Nat)) fun v6 =>
              Option.bind (AV.toStr v6) fun v7 =>
                call (24 : Nat) [AV.ptr y1, AV.int IntKind.i64 v1, AV.int IntKind.i64 v3, AV.str v5, AV.str v7] σ fun v8 v9 =>
                  Option.bind (AV.toTuple v8) fun v10 =>
                    if List.length v10 = (2 : Nat) then
                      Option.bind (List.head? v10) fun v11 =>
                        Option.bind (AV.toBool v11) fun v12 =>
                          Option.bind (List.head? (List.tail v10)) fun v13 =>
                            Option.bind (AV.toInt IntKind.i64 v13) fun v14 =>
                              J Ex.normal (f7e4 y0 y1 v12 v14 v12 v14 y1 y0 v1 y0 v3 y0 v5 y0 v7 v12 v14 v12 v14) v9
                    else none := hide (by kernel_rfl)
theorem f7z4_f7e4 (y0 : Nat) (y1 : Option (Nat × Nat)) (y2 : Bool) (y3 : Int) (y4 : Bool) (y5 : Int) (y6 : Option (Nat × Nat)) (y7 : Nat) (y8 : Int) (y9 : Nat) (y10 : Int) (y11 : Nat) (y12 : ByteArray) (y13 : Nat) (y14 : ByteArray) (y15 : Bool) (y16 : Int) (y17 : Bool) (y18 : Int) : Ann.clr f7a4 (f7e4 y0 y1 y2 y3 y4 y5 y6 y7 y8 y9 y10 y11 y12 y13 y14 y15 y16 y17 y18) = f7e5 y0 y1 y2 y3 := hide (by kernel_rfl)
theorem f7n6 {R : Type} (call : CallF R) (N : Nat) (J : KF R) (e : Env) (σ : St) : runK Try.prog call N f7c6 f7a6 J e σ = runK Try.prog call N f7c7 f7a7 (seqC (fun K e σ => runK Try.prog call N f7c8 f7a8 K e σ) f7a6 J) e σ := runK_seq' (by kernel_rfl) (by kernel_rfl) (by kernel_rfl)
theorem f7r7_f7e5 {R : Type} (call : CallF R) (N : Nat) (y0 : Nat) (y1 : Option (Nat × Nat)) (y2 : Bool) (y3 : Int) (J : KF R) (σ : St) :
    runK Try.prog call N f7c7 f7a7 J (f7e5 y0 y1 y2 y3) σ =
call (26 : Nat) [AV.ptr y1] σ fun v0 v1 =>
  Option.bind (AV.toTuple v0) fun v2 =>
    if List.length v2 = (2 : Nat) then
      Option.bind (List.head? v2) fun v3 =>
        Option.bind (AV.toStr v3) fun v4 =>
          Option.bind (List.head? (List.tail v2)) fun v5 =>
            Option.bind (AV.toBool v5) fun v6 => J Ex.normal (f7e6 y0 y1 y2 y3 v4 v6 v4 v6 y1 v4 v6 v4 v6) v1
    else none := hide (by kernel_rfl)
theorem f7z6_f7e6 (y0 : Nat) (y1 : Option (Nat × Nat)) (y2 : Bool) (y3 : Int) (y4 : ByteArray) (y5 : Bool) (y6 : ByteArray) (y7 : Bool) (y8 : Option (Nat × Nat)) (y9 : ByteArray) (y10 : Bool) (y11 : ByteArray) (y12 : Bool) : Ann.clr f7a6 (f7e6 y0 y1 y2 y3 y4 y5 y6 y7 y8 y9 y10 y11 y12) = f7e7 y0 y1 y2 y3 y5 := hide (by kernel_rfl)
theorem f7n8 {R : Type} (call : CallF R) (N : Nat) (J : KF R) (e : Env) (σ : St) : runK Try.prog call N f7c8 f7a8 J e σ = runK Try.prog call N f7c9 f7a9 (seqC (fun K e σ => runK Try.prog call N f7c10 f7a10 K e σ) f7a8 J) e σ := runK_seq' (by kernel_rfl) (by kernel_rfl) (by kernel_rfl)
theorem f7r9_f7e7 {R : Type} (call : CallF R) (N : Nat) (y0 : Nat) (y1 : Option (Nat × Nat)) (y2 : Bool) (y3 : Int) (y4 : Bool) (J : KF R) (σ : St) :
    runK Try.prog call N f7c9 f7a9 J (f7e7 y0 y1 y2 y3 y4) σ =
Option.bind (St.ld σ y0 (0 : Nat)) fun v0 =>
  Option.bind (AV.toInt IntKind.i64 v0) fun v1 =>
    call (21 : Nat) [AV.ptr y1, AV.int IntKind.i64 v1] σ fun v2 v3 =>
      Option.bind (AV.toTuple v2) fun v4 =>
        if List.length v4 = (2 : Nat) then
          Option.bind (List.head? v4) fun v5 =>
            Option.bind (AV.toAgg v5) fun v6 =>
              if List.length v6 = (3 : Nat) then
                Option.bind (List.head? v6) fun v7 =>
                  Option.bind (AV.toStr v7) fun v8 =>
                    Option.bind (List.head? (List.tail v6)) fun v9 =>
                      Option.bind (AV.toInt IntKind.i64 v9) fun v10 =>
                        Option.bind (List.head? (List.tail (List.tail v6))) fun v11 =>
                          Option.bind (AV.toSl (2 : Nat) v11) fun v12 =>
                            Option.bind (List.head? (List.tail v4)) fun v13 =>
                              Option.bind (AV.toBool v13) fun v14 =>
                                Option.bind
                                  (St.st
                                    (St.new v3
                                      (Blk.cells
                                        [AV.str (ByteArray.mk #[]), AV.int IntKind.i64 (0 : Int), AV.slice none (0 : Nat) (some (0 : Nat)) (2 : Nat)]
                                        true))
                                    (St.next v3) (0 : Nat)
                                    [AV.str v8, AV.int IntKind.i64 v10, AV.slice (Sl.o v12) (Sl.len v12) (Sl.cap v12) (2 : Nat)])
                                  fun v15 =>
                                  J Ex.normal
                                    (f7e8 y0 y1 y2 y3 y4 (St.next v3) v14 v8 v10 (Sl.o v12) (Sl.len v12) (Sl.cap v12) v14 y1 y0 v1 v8 v10 (Sl.o v12)
                                      (Sl.len v12) (Sl.cap v12) v14 v8 v10 (Sl.o v12) (Sl.len v12) (Sl.cap v12) v14)
                                    v15
              else none
        else none := hide (by kernel_rfl)
theorem f7z8_f7e8 (y0 : Nat) (y1 : Option (Nat × Nat)) (y2 : Bool) (y3 : Int) (y4 : Bool) (y5 : Nat) (y6 : Bool) (y7 : ByteArray) (y8 : Int) (y9 : Option (Nat × Nat)) (y10 : Nat) (y11 : Option Nat) (y12 : Bool) (y13 : Option (Nat × Nat)) (y14 : Nat) (y15 : Int) (y16 : ByteArray) (y17 : Int) (y18 : Option (Nat × Nat)) (y19 : Nat) (y20 : Option Nat) (y21 : Bool) (y22 : ByteArray) (y23 : Int) (y24 : Option (Nat × Nat)) (y25 : Nat) (y26 : Option Nat) (y27 : Bool) : Ann.clr f7a8 (f7e8 y0 y1 y2 y3 y4 y5 y6 y7 y8 y9 y10 y11 y12 y13 y14 y15 y16 y17 y18 y19 y20 y21 y22 y23 y24 y25 y26 y27) = f7e9 y0 y1 y2 y3 y4 y6 := hide (by kernel_rfl)
theorem f7n10 {R : Type} (call : CallF R) (N : Nat) (J : KF R) (e : Env) (σ : St) : runK Try.prog call N f7c10 f7a10 J e σ = runK Try.prog call N f7c11 f7a11 (seqC (fun K e σ => runK Try.prog call N f7c12 f7a12 K e σ) f7a10 J) e σ := runK_seq' (by kernel_rfl) (by kernel_rfl) (by kernel_rfl)
theorem f7r11_f7e9 {R : Type} (call : CallF R) (N : Nat) (y0 : Nat) (y1 : Option (Nat × Nat)) (y2 : Bool) (y3 : Int) (y4 : Bool) (y5 : Bool) (J : KF R) (σ : St) :
    runK Try.prog call N f7c11 f7a11 J (f7e9 y0 y1 y2 y3 y4 y5) σ =
Option.bind (St.ld σ y0 (0 : Nat)) fun v0 =>
  Option.bind (AV.toInt IntKind.i64 v0) fun v1 =>
    Option.bind (St.ld σ y0 (1 : Nat)) fun v2 =>
      Option.bind (AV.toInt IntKind.i64 v2) fun v3 =>
        call (29 : Nat) [AV.ptr y1, AV.int IntKind.i64 v1, AV.int IntKind.i64 v3] σ fun v4 v5 =>
          Option.bind (AV.toTuple v4) fun v6 =>
            if List.length v6 = (3 : Nat) then
              Option.bind (List.head? v6) fun v7 =>
                Option.bind (AV.toStr v7) fun v8 =>
                  Option.bind (List.head? (List.tail v6)) fun v9 =>
                    Option.bind (AV.toStr v9) fun v10 =>
                      Option.bind (List.head? (List.tail (List.tail v6))) fun v11 =>
                        Option.bind (AV.toBool v11) fun v12 =>
                          J Ex.normal (f7e10 y0 y1 y2 y3 y4 y5 v8 v10 v12 v8 v10 v12 y1 y0 v1 y0 v3 v8 v10 v12 v8 v10 v12) v5
            else none := hide (by kernel_rfl)
theorem f7z10_f7e10 (y0 : Nat) (y1 : Option (Nat × Nat)) (y2 : Bool) (y3 : Int) (y4 : Bool) (y5 : Bool) (y6 : ByteArray) (y7 : ByteArray) (y8 : Bool) (y9 : ByteArray) (y10 : ByteArray) (y11 : Bool) (y12 : Option (Nat × Nat)) (y13 : Nat) (y14 : Int) (y15 : Nat) (y16 : Int) (y17 : ByteArray) (y18 : ByteArray) (y19 : Bool) (y20 : ByteArray) (y21 : ByteArray) (y22 : Bool) : Ann.clr f7a10 (f7e10 y0 y1 y2 y3 y4 y5 y6 y7 y8 y9 y10 y11 y12 y13 y14 y15 y16 y17 y18 y19 y20 y21 y22) = f7e11 y0 y1 y2 y3 y4 y5 y8 := hide (by kernel_rfl)
theorem f7n12 {R : Type} (call : CallF R) (N : Nat) (J : KF R) (e : Env) (σ : St) : runK Try.prog call N f7c12 f7a12 J e σ = runK Try.prog call N f7c13 f7a13 (seqC (fun K e σ => runK Try.prog call N f7c14 f7a14 K e σ) f7a12 J) e σ := runK_seq' (by kernel_rfl) (by kernel_rfl) (by kernel_rfl)
theorem f7r13_f7e11 {R : Type} (call : CallF R) (N : Nat) (y0 : Nat) (y1 : Option (Nat × Nat)) (y2 : Bool) (y3 : Int) (y4 : Bool) (y5 : Bool) (y6 : Bool) (J : KF R) (σ : St) :
    runK Try.prog call N f7c13 f7a13 J (f7e11 y0 y1 y2 y3 y4 y5 y6) σ =
J Ex.normal (f7e12 y0 y1 y2 y3 y4 y5 y6 (7 : Int)) σ := hide (by kernel_rfl)
theorem f7z12_f7e12 (y0 : Nat) (y1 : Option (Nat × Nat)) (y2 : Bool) (y3 : Int) (y4 : Bool) (y5 : Bool) (y6 : Bool) (y7 : Int) : Ann.clr f7a12 (f7e12 y0 y1 y2 y3 y4 y5 y6 y7) = f7e12 y0 y1 y2 y3 y4 y5 y6 y7 := hide (by kernel_rfl)
theorem f7n14 {R : Type} (call : CallF R) (N : Nat) (J : KF R) (e : Env) (σ : St) : runK Try.prog call N f7c14 f7a14 J e σ = runK Try.prog call N f7c15 f7a15 (seqC (fun K e σ => runK Try.prog call N f7c16 f7a16 K e σ) f7a14 J) e σ := runK_seq' (by kernel_rfl) (by kernel_rfl) (by kernel_rfl)
theorem f7n15 {R : Type} (call : CallF R) (N : Nat) (J : KF R) (e : Env) (σ : St) : runK Try.prog call N f7c15 f7a15 J e σ = runK Try.prog call N f7c17 f7a17 (seqC (fun K e σ => runK Try.prog call N f7c18 f7a18 K e σ) f7a15 J) e σ := runK_seq' (by kernel_rfl) (by kernel_rfl) (by kernel_rfl)
theorem f7r17_f7e12 {R : Type} (call : CallF R) (N : Nat) (y0 : Nat) (y1 : Option (Nat × Nat)) (y2 : Bool) (y3 : Int) (y4 : Bool) (y5 : Bool) (y6 : Bool) (y7 : Int) (J : KF R) (σ : St) :
    runK Try.prog call N f7c17 f7a17 J (f7e12 y0 y1 y2 y3 y4 y5 y6 y7) σ =
Option.bind (St.ld σ y0 (0 : Nat)) fun v0 =>
  Option.bind (AV.toInt IntKind.i64 v0) fun v1 =>
    if decide (v1 < (1 : Int)) = true then J Ex.normal (f7e13 y0 y1 y2 y3 y4 y5 y6 y7 y0 v1 (decide (v1 < (1 : Int))) true true true true) σ
    else
      Option.bind (St.ld σ y0 (0 : Nat)) fun v2 =>
        Option.bind (AV.toInt IntKind.i64 v2) fun v3 =>
          if decide (v3 > (2 : Int)) = true then
            J Ex.normal
              (f7e14 y0 y1 y2 y3 y4 y5 y6 y7 y0 v1 (decide (v1 < (1 : Int))) false y0 v3 (decide (v3 > (2 : Int))) (decide (v3 > (2 : Int))) true
                true)
              σ
          else
            Option.bind (St.ld σ y0 (1 : Nat)) fun v4 =>
              Option.bind (AV.toInt IntKind.i64 v4) fun v5 =>
                J Ex.normal
                  (f7e15 y0 y1 y2 y3 y4 y5 y6 y7 y0 v1 (decide (v1 < (1 : Int))) false y0 v3 (decide (v3 > (2 : Int))) (decide (v3 > (2 : Int))) false
                    y0 v5 (decide (v5 < (0 : Int))) (decide (v5 < (0 : Int))))
                  σ := hide (by kernel_rfl)
theorem f7z15_f7e13 (y0 : Nat) (y1 : Option (Nat × Nat)) (y2 : Bool) (y3 : Int) (y4 : Bool) (y5 : Bool) (y6 : Bool) (y7 : Int) (y8 : Nat) (y9 : Int) (y10 : Bool) (y11 : Bool) (y12 : Bool) (y13 : Bool) (y14 : Bool) : Ann.clr f7a15 (f7e13 y0 y1 y2 y3 y4 y5 y6 y7 y8 y9 y10 y11 y12 y13 y14) = f7e16 y0 y1 y2 y3 y4 y5 y6 y7 y14 := hide (by kernel_rfl)
theorem f7x18_f7e16 {R : Type} (call : CallF R) (N : Nat) (y0 : Nat) (y1 : Option (Nat × Nat)) (y2 : Bool) (y3 : Int) (y4 : Bool) (y5 : Bool) (y6 : Bool) (y7 : Int) (y8 : Bool) (J : KF R) (σ : St) : runK Try.prog call N f7c18 f7a18 J (f7e16 y0 y1 y2 y3 y4 y5 y6 y7 y8) σ = if y8 = true then runK Try.prog call N f7c19 f7a19 (condC f7a18 J) (f7e16 y0 y1 y2 y3 y4 y5 y6 y7 y8) σ else runK Try.prog call N f7c20 f7a20 (condC f7a18 J) (f7e16 y0 y1 y2 y3 y4 y5 y6 y7 y8) σ := runK_cond' (o := Operand.tmp (61 : Nat)) (by kernel_rfl) (by kernel_rfl) (by kernel_rfl) (by kernel_rfl)
theorem f7r19_f7e16 {R : Type} (call : CallF R) (N : Nat) (y0 : Nat) (y1 : Option (Nat × Nat)) (y2 : Bool) (y3 : Int) (y4 : Bool) (y5 : Bool) (y6 : Bool) (y7 : Int) (y8 : Bool) (J : KF R) (σ : St) :
    runK Try.prog call N f7c19 f7a19 J (f7e16 y0 y1 y2 y3 y4 y5 y6 y7 y8) σ =
J Ex.normal (f7e16 y0 y1 y2 y3 y4 y5 y6 (1 : Int) y8) σ := hide (by kernel_rfl)
theorem f7z18_f7e16 (y0 : Nat) (y1 : Option (Nat × Nat)) (y2 : Bool) (y3 : Int) (y4 : Bool) (y5 : Bool) (y6 : Bool) (y7 : Int) (y8 : Bool) : Ann.clr f7a18 (f7e16 y0 y1 y2 y3 y4 y5 y6 y7 y8) = f7e12 y0 y1 y2 y3 y4 y5 y6 y7 := hide (by kernel_rfl)
theorem f7n20 {R : Type} (call : CallF R) (N : Nat) (J : KF R) (e : Env) (σ : St) : runK Try.prog call N f7c20 f7a20 J e σ = runK Try.prog call N f7c21 f7a21 (seqC (fun K e σ => runK Try.prog call N f7c22 f7a22 K e σ) f7a20 J) e σ := runK_seq' (by kernel_rfl) (by kernel_rfl) (by kernel_rfl)
theorem f7r21_f7e16 {R : Type} (call : CallF R) (N : Nat) (y0 : Nat) (y1 : Option (Nat × Nat)) (y2 : Bool) (y3 : Int) (y4 : Bool) (y5 : Bool) (y6 : Bool) (y7 : Int) (y8 : Bool) (J : KF R) (σ : St) :
    runK Try.prog call N f7c21 f7a21 J (f7e16 y0 y1 y2 y3 y4 y5 y6 y7 y8) σ =
Option.bind (St.ld σ y0 (2 : Nat)) fun v0 =>
  Option.bind (AV.toStr v0) fun v1 =>
    J Ex.normal (f7e17 y0 y1 y2 y3 y4 y5 y6 y7 y8 y0 v1 (↑(ByteArray.size v1) : Int) (decide ((↑(ByteArray.size v1) : Int) > (30000 : Int)))) σ := hide (by kernel_rfl)
theorem f7z20_f7e17 (y0 : Nat) (y1 : Option (Nat × Nat)) (y2 : Bool) (y3 : Int) (y4 : Bool) (y5 : Bool) (y6 : Bool) (y7 : Int) (y8 : Bool) (y9 : Nat) (y10 : ByteArray) (y11 : Int) (y12 : Bool) : Ann.clr f7a20 (f7e17 y0 y1 y2 y3 y4 y5 y6 y7 y8 y9 y10 y11 y12) = f7e18 y0 y1 y2 y3 y4 y5 y6 y7 y12 := hide (by kernel_rfl)
theorem f7x22_f7e18 {R : Type} (call : CallF R) (N : Nat) (y0 : Nat) (y1 : Option (Nat × Nat)) (y2 : Bool) (y3 : Int) (y4 : Bool) (y5 : Bool) (y6 : Bool) (y7 : Int) (y8 : Bool) (J : KF R) (σ : St) : runK Try.prog call N f7c22 f7a22 J (f7e18 y0 y1 y2 y3 y4 y5 y6 y7 y8) σ = if y8 = true then runK Try.prog call N f7c23 f7a23 (condC f7a22 J) (f7e18 y0 y1 y2 y3 y4 y5 y6 y7 y8) σ else runK Try.prog call N f7c24 f7a24 (condC f7a22 J) (f7e18 y0 y1 y2 y3 y4 y5 y6 y7 y8) σ := runK_cond' (o := Operand.tmp (65 : Nat)) (by kernel_rfl) (by kernel_rfl) (by kernel_rfl) (by kernel_rfl)
theorem f7r23_f7e18 {R : Type} (call : CallF R) (N : Nat) (y0 : Nat) (y1 : Option (Nat × Nat)) (y2 : Bool) (y3 : Int) (y4 : Bool) (y5 : Bool) (y6 : Bool) (y7 : Int) (y8 : Bool) (J : KF R) (σ : St) :
    runK Try.prog call N f7c23 f7a23 J (f7e18 y0 y1 y2 y3 y4 y5 y6 y7 y8) σ =
J Ex.normal (f7e18 y0 y1 y2 y3 y4 y5 y6 (2 : Int) y8) σ := hide (by kernel_rfl)
theorem f7z22_f7e18 (y0 : Nat) (y1 : Option (Nat × Nat)) (y2 : Bool) (y3 : Int) (y4 : Bool) (y5 : Bool) (y6 : Bool) (y7 : Int) (y8 : Bool) : Ann.clr f7a22 (f7e18 y0 y1 y2 y3 y4 y5 y6 y7 y8) = f7e12 y0 y1 y2 y3 y4 y5 y6 y7 := hide (by kernel_rfl)
theorem f7n24 {R : Type} (call : CallF R) (N : Nat) (J : KF R) (e : Env) (σ : St) : runK Try.prog call N f7c24 f7a24 J e σ = runK Try.prog call N f7c25 f7a25 (seqC (fun K e σ => runK Try.prog call N f7c26 f7a26 K e σ) f7a24 J) e σ := runK_seq' (by kernel_rfl) (by kernel_rfl) (by kernel_rfl)
theorem f7r25_f7e18 {R : Type} (call : CallF R) (N : Nat) (y0 : Nat) (y1 : Option (Nat × Nat)) (y2 : Bool) (y3 : Int) (y4 : Bool) (y5 : Bool) (y6 : Bool) (y7 : Int) (y8 : Bool) (J : KF R) (σ : St) :
    runK Try.prog call N f7c25 f7a25 J (f7e18 y0 y1 y2 y3 y4 y5 y6 y7 y8) σ =
Option.bind (St.ld σ y0 (3 : Nat)) fun v0 =>
  Option.bind (AV.toStr v0) fun v1 =>
    J Ex.normal (f7e19 y0 y1 y2 y3 y4 y5 y6 y7 y8 y0 v1 (↑(ByteArray.size v1) : Int) ((↑(ByteArray.size v1) : Int) != (16 : Int))) σ := hide (by kernel_rfl)
theorem f7z24_f7e19 (y0 : Nat) (y1 : Option (Nat × Nat)) (y2 : Bool) (y3 : Int) (y4 : Bool) (y5 : Bool) (y6 : Bool) (y7 : Int) (y8 : Bool) (y9 : Nat) (y10 : ByteArray) (y11 : Int) (y12 : Bool) : Ann.clr f7a24 (f7e19 y0 y1 y2 y3 y4 y5 y6 y7 y8 y9 y10 y11 y12) = f7e20 y0 y1 y2 y3 y4 y5 y6 y7 y12 := hide (by kernel_rfl)
theorem f7x26_f7e20 {R : Type} (call : CallF R) (N : Nat) (y0 : Nat) (y1 : Option (Nat × Nat)) (y2 : Bool) (y3 : Int) (y4 : Bool) (y5 : Bool) (y6 : Bool) (y7 : Int) (y8 : Bool) (J : KF R) (σ : St) : runK Try.prog call N f7c26 f7a26 J (f7e20 y0 y1 y2 y3 y4 y5 y6 y7 y8) σ = if y8 = true then runK Try.prog call N f7c27 f7a27 (condC f7a26 J) (f7e20 y0 y1 y2 y3 y4 y5 y6 y7 y8) σ else runK Try.prog call N f7c28 f7a28 (condC f7a26 J) (f7e20 y0 y1 y2 y3 y4 y5 y6 y7 y8) σ := runK_cond' (o := Operand.tmp (69 : Nat)) (by kernel_rfl) (by kernel_rfl) (by kernel_rfl) (by kernel_rfl)
theorem f7r27_f7e20 {R : Type} (call : CallF R) (N : Nat) (y0 : Nat) (y1 : Option (Nat × Nat)) (y2 : Bool) (y3 : Int) (y4 : Bool) (y5 : Bool) (y6 : Bool) (y7 : Int) (y8 : Bool) (J : KF R) (σ : St) :
    runK Try.prog call N f7c27 f7a27 J (f7e20 y0 y1 y2 y3 y4 y5 y6 y7 y8) σ =
J Ex.normal (f7e20 y0 y1 y2 y3 y4 y5 y6 (4 : Int) y8) σ := hide (by kernel_rfl)
theorem f7z26_f7e20 (y0 : Nat) (y1 : Option (Nat × Nat)) (y2 : Bool) (y3 : Int) (y4 : Bool) (y5 : Bool) (y6 : Bool) (y7 : Int) (y8 : Bool) : Ann.clr f7a26 (f7e20 y0 y1 y2 y3 y4 y5 y6 y7 y8) = f7e12 y0 y1 y2 y3 y4 y5 y6 y7 := hide (by kernel_rfl)
theorem f7n28 {R : Type} (call : CallF R) (N : Nat) (J : KF R) (e : Env) (σ : St) : runK Try.prog call N f7c28 f7a28 J e σ = J .normal e σ := runK_skip' (by kernel_rfl)
theorem f7z22_f7e12 (y0 : Nat) (y1 : Option (Nat × Nat)) (y2 : Bool) (y3 : Int) (y4 : Bool) (y5 : Bool) (y6 : Bool) (y7 : Int) : Ann.clr f7a22 (f7e12 y0 y1 y2 y3 y4 y5 y6 y7) = f7e12 y0 y1 y2 y3 y4 y5 y6 y7 := hide (by kernel_rfl)
theorem f7z18_f7e12 (y0 : Nat) (y1 : Option (Nat × Nat)) (y2 : Bool) (y3 : Int) (y4 : Bool) (y5 : Bool) (y6 : Bool) (y7 : Int) : Ann.clr f7a18 (f7e12 y0 y1 y2 y3 y4 y5 y6 y7) = f7e12 y0 y1 y2 y3 y4 y5 y6 y7 := hide (by kernel_rfl)
theorem f7z15_f7e14 (y0 : Nat) (y1 : Option (Nat × Nat)) (y2 : Bool) (y3 : Int) (y4 : Bool) (y5 : Bool) (y6 : Bool) (y7 : Int) (y8 : Nat) (y9 : Int) (y10 : Bool) (y11 : Bool) (y12 : Nat) (y13 : Int) (y14 : Bool) (y15 : Bool) (y16 : Bool) (y17 : Bool) : Ann.clr f7a15 (f7e14 y0 y1 y2 y3 y4 y5 y6 y7 y8 y9 y10 y11 y12 y13 y14 y15 y16 y17) = f7e16 y0 y1 y2 y3 y4 y5 y6 y7 y17 := hide (by kernel_rfl)
theorem f7z15_f7e15 (y0 : Nat) (y1 : Option (Nat × Nat)) (y2 : Bool) (y3 : Int) (y4 : Bool) (y5 : Bool) (y6 : Bool) (y7 : Int) (y8 : Nat) (y9 : Int) (y10 : Bool) (y11 : Bool) (y12 : Nat) (y13 : Int) (y14 : Bool) (y15 : Bool) (y16 : Bool) (y17 : Nat) (y18 : Int) (y19 : Bool) (y20 : Bool) : Ann.clr f7a15 (f7e15 y0 y1 y2 y3 y4 y5 y6 y7 y8 y9 y10 y11 y12 y13 y14 y15 y16 y17 y18 y19 y20) = f7e16 y0 y1 y2 y3 y4 y5 y6 y7 y20 := hide (by kernel_rfl)
theorem f7z14_f7e12 (y0 : Nat) (y1 : Option (Nat × Nat)) (y2 : Bool) (y3 : Int) (y4 : Bool) (y5 : Bool) (y6 : Bool) (y7 : Int) : Ann.clr f7a14 (f7e12 y0 y1 y2 y3 y4 y5 y6 y7) = f7e12 y0 y1 y2 y3 y4 y5 y6 y7 := hide (by kernel_rfl)
theorem f7n16 {R : Type} (call : CallF R) (N : Nat) (J : KF R) (e : Env) (σ : St) : runK Try.prog call N f7c16 f7a16 J e σ = runK Try.prog call N f7c29 f7a29 (seqC (fun K e σ => runK Try.prog call N f7c30 f7a30 K e σ) f7a16 J) e σ := runK_seq' (by kernel_rfl) (by kernel_rfl) (by kernel_rfl)
theorem f7r29_f7e12 {R : Type} (call : CallF R) (N : Nat) (y0 : Nat) (y1 : Option (Nat × Nat)) (y2 : Bool) (y3 : Int) (y4 : Bool) (y5 : Bool) (y6 : Bool) (y7 : Int) (J : KF R) (σ : St) :
    runK Try.prog call N f7c29 f7a29 J (f7e12 y0 y1 y2 y3 y4 y5 y6 y7) σ =
if (!y2) = true then
  if (y3 == y7) = true then
    if (!y4) = true then
      if (!y5) = true then
        if (!y6) = true then
          Option.bind (St.ld σ y0 (0 : Nat)) fun v0 =>
            Option.bind (AV.toInt IntKind.i64 v0) fun v1 =>
              call (31 : Nat) [AV.ptr y1, AV.int IntKind.i64 v1] σ fun v2 v3 =>
                Option.bind (AV.toInt IntKind.i64 v2) fun v4 =>
                  if (v4 == (0 : Int)) = true then
                    call (19 : Nat) [] v3 fun v5 v6 =>
                      Option.bind (AV.toBool v5) fun v7 =>
                        J Ex.normal
                          (f7e21 y0 v7 y1 y2 y3 y4 y5 y6 y7 y2 (!y2) true y3 y7 (y3 == y7) (y3 == y7) true y4 (!y4) (!y4) true y5 (!y5) (!y5) true y6
                            (!y6) (!y6) true y1 y0 v1 v4 (v4 == (0 : Int)) (v4 == (0 : Int)) true v7 v7)
                          v6
                  else
                    J Ex.normal
                      (f7e22 y0 false y1 y2 y3 y4 y5 y6 y7 y2 (!y2) true y3 y7 (y3 == y7) (y3 == y7) true y4 (!y4) (!y4) true y5 (!y5) (!y5) true y6
                        (!y6) (!y6) true y1 y0 v1 v4 (v4 == (0 : Int)) (v4 == (0 : Int)) false false)
                      v3
        else
          J Ex.normal
            (f7e23 y0 false y1 y2 y3 y4 y5 y6 y7 y2 (!y2) true y3 y7 (y3 == y7) (y3 == y7) true y4 (!y4) (!y4) true y5 (!y5) (!y5) true y6 (!y6) (!y6)
              false false false false)
            σ
      else
        J Ex.normal
          (f7e24 y0 false y1 y2 y3 y4 y5 y6 y7 y2 (!y2) true y3 y7 (y3 == y7) (y3 == y7) true y4 (!y4) (!y4) true y5 (!y5) (!y5) false false false
            false false false)
          σ
    else
      J Ex.normal
        (f7e25 y0 false y1 y2 y3 y4 y5 y6 y7 y2 (!y2) true y3 y7 (y3 == y7) (y3 == y7) true y4 (!y4) (!y4) false false false false false false false
          false)
        σ
  else
    J Ex.normal
      (f7e26 y0 false y1 y2 y3 y4 y5 y6 y7 y2 (!y2) true y3 y7 (y3 == y7) (y3 == y7) false false false false false false false false false false) σ
else J Ex.normal (f7e27 y0 false y1 y2 y3 y4 y5 y6 y7 y2 (!y2) false false false false false false false false false false false false) σ := hide (by kernel_rfl)
theorem f7z16_f7e21 (y0 : Nat) (y1 : Bool) (y2 : Option (Nat × Nat)) (y3 : Bool) (y4 : Int) (y5 : Bool) (y6 : Bool) (y7 : Bool) (y8 : Int) (y9 : Bool) (y10 : Bool) (y11 : Bool) (y12 : Int) (y13 : Int) (y14 : Bool) (y15 : Bool) (y16 : Bool) (y17 : Bool) (y18 : Bool) (y19 : Bool) (y20 : Bool) (y21 : Bool) (y22 : Bool) (y23 : Bool) (y24 : Bool) (y25 : Bool) (y26 : Bool) (y27 : Bool) (y28 : Bool) (y29 : Option (Nat × Nat)) (y30 : Nat) (y31 : Int) (y32 : Int) (y33 : Bool) (y34 : Bool) (y35 : Bool) (y36 : Bool) (y37 : Bool) : Ann.clr f7a16 (f7e21 y0 y1 y2 y3 y4 y5 y6 y7 y8 y9 y10 y11 y12 y13 y14 y15 y16 y17 y18 y19 y20 y21 y22 y23 y24 y25 y26 y27 y28 y29 y30 y31 y32 y33 y34 y35 y36 y37) = f7e28 y1 := hide (by kernel_rfl)
theorem f7y30_f7e28 {R : Type} (call : CallF R) (N : Nat) (y0 : Bool) (J : KF R) (σ : St) : runK Try.prog call N f7c30 f7a30 J (f7e28 y0) σ = J .ret (f7e28 y0) σ := runK_ret' (by kernel_rfl) (by kernel_rfl)
theorem f7z16_f7e22 (y0 : Nat) (y1 : Bool) (y2 : Option (Nat × Nat)) (y3 : Bool) (y4 : Int) (y5 : Bool) (y6 : Bool) (y7 : Bool) (y8 : Int) (y9 : Bool) (y10 : Bool) (y11 : Bool) (y12 : Int) (y13 : Int) (y14 : Bool) (y15 : Bool) (y16 : Bool) (y17 : Bool) (y18 : Bool) (y19 : Bool) (y20 : Bool) (y21 : Bool) (y22 : Bool) (y23 : Bool) (y24 : Bool) (y25 : Bool) (y26 : Bool) (y27 : Bool) (y28 : Bool) (y29 : Option (Nat × Nat)) (y30 : Nat) (y31 : Int) (y32 : Int) (y33 : Bool) (y34 : Bool) (y35 : Bool) (y36 : Bool) : Ann.clr f7a16 (f7e22 y0 y1 y2 y3 y4 y5 y6 y7 y8 y9 y10 y11 y12 y13 y14 y15 y16 y17 y18 y19 y20 y21 y22 y23 y24 y25 y26 y27 y28 y29 y30 y31 y32 y33 y34 y35 y36) = f7e28 y1 := hide (by kernel_rfl)
theorem f7z16_f7e23 (y0 : Nat) (y1 : Bool) (y2 : Option (Nat × Nat)) (y3 : Bool) (y4 : Int) (y5 : Bool) (y6 : Bool) (y7 : Bool) (y8 : Int) (y9 : Bool) (y10 : Bool) (y11 : Bool) (y12 : Int) (y13 : Int) (y14 : Bool) (y15 : Bool) (y16 : Bool) (y17 : Bool) (y18 : Bool) (y19 : Bool) (y20 : Bool) (y21 : Bool) (y22 : Bool) (y23 : Bool) (y24 : Bool) (y25 : Bool) (y26 : Bool) (y27 : Bool) (y28 : Bool) (y29 : Bool) (y30 : Bool) (y31 : Bool) : Ann.clr f7a16 (f7e23 y0 y1 y2 y3 y4 y5 y6 y7 y8 y9 y10 y11 y12 y13 y14 y15 y16 y17 y18 y19 y20 y21 y22 y23 y24 y25 y26 y27 y28 y29 y30 y31) = f7e28 y1 := hide (by kernel_rfl)
theorem f7z16_f7e24 (y0 : Nat) (y1 : Bool) (y2 : Option (Nat × Nat)) (y3 : Bool) (y4 : Int) (y5 : Bool) (y6 : Bool) (y7 : Bool) (y8 : Int) (y9 : Bool) (y10 : Bool) (y11 : Bool) (y12 : Int) (y13 : Int) (y14 : Bool) (y15 : Bool) (y16 : Bool) (y17 : Bool) (y18 : Bool) (y19 : Bool) (y20 : Bool) (y21 : Bool) (y22 : Bool) (y23 : Bool) (y24 : Bool) (y25 : Bool) (y26 : Bool) (y27 : Bool) (y28 : Bool) (y29 : Bool) : Ann.clr f7a16 (f7e24 y0 y1 y2 y3 y4 y5 y6 y7 y8 y9 y10 y11 y12 y13 y14 y15 y16 y17 y18 y19 y20 y21 y22 y23 y24 y25 y26 y27 y28 y29) = f7e28 y1 := hide (by kernel_rfl)
theorem f7z16_f7e25 (y0 : Nat) (y1 : Bool) (y2 : Option (Nat × Nat)) (y3 : Bool) (y4 : Int) (y5 : Bool) (y6 : Bool) (y7 : Bool) (y8 : Int) (y9 : Bool) (y10 : Bool) (y11 : Bool) (y12 : Int) (y13 : Int) (y14 : Bool) (y15 : Bool) (y16 : Bool) (y17 : Bool) (y18 : Bool) (y19 : Bool) (y20 : Bool) (y21 : Bool) (y22 : Bool) (y23 : Bool) (y24 : Bool) (y25 : Bool) (y26 : Bool) (y27 : Bool) : Ann.clr f7a16 (f7e25 y0 y1 y2 y3 y4 y5 y6 y7 y8 y9 y10 y11 y12 y13 y14 y15 y16 y17 y18 y19 y20 y21 y22 y23 y24 y25 y26 y27) = f7e28 y1 := hide (by kernel_rfl)
theorem f7z16_f7e26 (y0 : Nat) (y1 : Bool) (y2 : Option (Nat × Nat)) (y3 : Bool) (y4 : Int) (y5 : Bool) (y6 : Bool) (y7 : Bool) (y8 : Int) (y9 : Bool) (y10 : Bool) (y11 : Bool) (y12 : Int) (y13 : Int) (y14 : Bool) (y15 : Bool) (y16 : Bool) (y17 : Bool) (y18 : Bool) (y19 : Bool) (y20 : Bool) (y21 : Bool) (y22 : Bool) (y23 : Bool) (y24 : Bool) (y25 : Bool) : Ann.clr f7a16 (f7e26 y0 y1 y2 y3 y4 y5 y6 y7 y8 y9 y10 y11 y12 y13 y14 y15 y16 y17 y18 y19 y20 y21 y22 y23 y24 y25) = f7e28 y1 := hide (by kernel_rfl)
theorem f7z16_f7e27 (y0 : Nat) (y1 : Bool) (y2 : Option (Nat × Nat)) (y3 : Bool) (y4 : Int) (y5 : Bool) (y6 : Bool) (y7 : Bool) (y8 : Int) (y9 : Bool) (y10 : Bool) (y11 : Bool) (y12 : Bool) (y13 : Bool) (y14 : Bool) (y15 : Bool) (y16 : Bool) (y17 : Bool) (y18 : Bool) (y19 : Bool) (y20 : Bool) (y21 : Bool) (y22 : Bool) : Ann.clr f7a16 (f7e27 y0 y1 y2 y3 y4 y5 y6 y7 y8 y9 y10 y11 y12 y13 y14 y15 y16 y17 y18 y19 y20 y21 y22) = f7e28 y1 := hide (by kernel_rfl)
theorem f7b_f7e28_r {R : Type} (y0 : Bool) (σ : St) (K : AV → St → Option R) : bodyC Try.prog f7rs K (Ex.ret) (f7e28 y0) σ =
K (AV.bool y0) σ := hide (by kernel_rfl)
attribute [go_sem] f7_eq f7n0 f7r1_f7e0 f7z0_f7e1 f7n2 f7r3_f7e2 f7z2_f7e3 f7n4 f7r5_f7e3 f7z4_f7e4 f7n6 f7r7_f7e5 f7z6_f7e6 f7n8 f7r9_f7e7 f7z8_f7e8 f7n10 f7r11_f7e9 f7z10_f7e10 f7n12 f7r13_f7e11 f7z12_f7e12 f7n14 f7n15 f7r17_f7e12 f7z15_f7e13 f7x18_f7e16 f7r19_f7e16 f7z18_f7e16 f7n20 f7r21_f7e16 f7z20_f7e17 f7x22_f7e18 f7r23_f7e18 f7z22_f7e18 f7n24 f7r25_f7e18 f7z24_f7e19 f7x26_f7e20 f7r27_f7e20 f7z26_f7e20 f7n28 f7z22_f7e12 f7z18_f7e12 f7z15_f7e14 f7z15_f7e15 f7z14_f7e12 f7n16 f7r29_f7e12 f7z16_f7e21 f7y30_f7e28 f7z16_f7e22 f7z16_f7e23 f7z16_f7e24 f7z16_f7e25 f7z16_f7e26 f7z16_f7e27 f7b_f7e28_r

end Go.Proofs.Ytmgacgonoodkfaa
