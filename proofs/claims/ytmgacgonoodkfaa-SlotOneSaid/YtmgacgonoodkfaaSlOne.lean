/- What the machine does with each piece of code, in plain text. PRINTED by a program of this workplace; Lean checks it. -/
import Derived.Test.YtmgacgonoodkfaaSlAnn
import Derived.Test.YtmgacgonoodkfaaProg
import Derived.KernelRfl
import Derived.Attr
namespace Go.Proofs.Ytmgacgonoodkfaa
open Go.AM
set_option maxRecDepth 100000
set_option linter.unusedVariables false
noncomputable def f4rs : List ResultVar := [ResultVar.tmp (6 : Nat)]
noncomputable def f4c0 : Code := subCode [] (bodyOf Try.prog 4)
def f4a0 : Ann := subAnn [] ann4
noncomputable def f4c1 : Code := subCode [0] (bodyOf Try.prog 4)
def f4a1 : Ann := subAnn [0] ann4
noncomputable def f4c2 : Code := subCode [1] (bodyOf Try.prog 4)
def f4a2 : Ann := subAnn [1] ann4
noncomputable def f4c3 : Code := subCode [1, 0] (bodyOf Try.prog 4)
def f4a3 : Ann := subAnn [1, 0] ann4
noncomputable def f4c4 : Code := subCode [1, 1] (bodyOf Try.prog 4)
def f4a4 : Ann := subAnn [1, 1] ann4
noncomputable def f4c5 : Code := subCode [1, 0, 0] (bodyOf Try.prog 4)
def f4a5 : Ann := subAnn [1, 0, 0] ann4
noncomputable def f4c6 : Code := subCode [1, 0, 1] (bodyOf Try.prog 4)
def f4a6 : Ann := subAnn [1, 0, 1] ann4
noncomputable def f4c7 : Code := subCode [1, 0, 1, 0] (bodyOf Try.prog 4)
def f4a7 : Ann := subAnn [1, 0, 1, 0] ann4
noncomputable def f4c8 : Code := subCode [1, 0, 1, 1] (bodyOf Try.prog 4)
def f4a8 : Ann := subAnn [1, 0, 1, 1] ann4
noncomputable def f4c9 : Code := subCode [1, 0, 1, 0, 0] (bodyOf Try.prog 4)
def f4a9 : Ann := subAnn [1, 0, 1, 0, 0] ann4
noncomputable def f4c10 : Code := subCode [1, 0, 1, 0, 1] (bodyOf Try.prog 4)
def f4a10 : Ann := subAnn [1, 0, 1, 0, 1] ann4
noncomputable def f4c11 : Code := subCode [1, 1, 0] (bodyOf Try.prog 4)
def f4a11 : Ann := subAnn [1, 1, 0] ann4
noncomputable def f4c12 : Code := subCode [1, 1, 1] (bodyOf Try.prog 4)
def f4a12 : Ann := subAnn [1, 1, 1] ann4
noncomputable def f4c13 : Code := subCode [1, 1, 1, 0] (bodyOf Try.prog 4)
def f4a13 : Ann := subAnn [1, 1, 1, 0] ann4
noncomputable def f4c14 : Code := subCode [1, 1, 1, 1] (bodyOf Try.prog 4)
def f4a14 : Ann := subAnn [1, 1, 1, 1] ann4
noncomputable def f4c15 : Code := subCode [1, 1, 1, 1, 0] (bodyOf Try.prog 4)
def f4a15 : Ann := subAnn [1, 1, 1, 1, 0] ann4
noncomputable def f4c16 : Code := subCode [1, 1, 1, 1, 1] (bodyOf Try.prog 4)
def f4a16 : Ann := subAnn [1, 1, 1, 1, 1] ann4
noncomputable def f4c17 : Code := subCode [1, 1, 1, 1, 0, 0] (bodyOf Try.prog 4)
def f4a17 : Ann := subAnn [1, 1, 1, 1, 0, 0] ann4
noncomputable def f4c18 : Code := subCode [1, 1, 1, 1, 0, 1] (bodyOf Try.prog 4)
def f4a18 : Ann := subAnn [1, 1, 1, 1, 0, 1] ann4
noncomputable def f4c19 : Code := subCode [1, 1, 1, 1, 0, 1, 0] (bodyOf Try.prog 4)
def f4a19 : Ann := subAnn [1, 1, 1, 1, 0, 1, 0] ann4
noncomputable def f4c20 : Code := subCode [1, 1, 1, 1, 0, 1, 1] (bodyOf Try.prog 4)
def f4a20 : Ann := subAnn [1, 1, 1, 1, 0, 1, 1] ann4
noncomputable def f4c21 : Code := subCode [1, 1, 1, 1, 0, 1, 0, 0] (bodyOf Try.prog 4)
def f4a21 : Ann := subAnn [1, 1, 1, 1, 0, 1, 0, 0] ann4
noncomputable def f4c22 : Code := subCode [1, 1, 1, 1, 0, 1, 0, 1] (bodyOf Try.prog 4)
def f4a22 : Ann := subAnn [1, 1, 1, 1, 0, 1, 0, 1] ann4
noncomputable def f4c23 : Code := subCode [1, 1, 1, 1, 1, 0] (bodyOf Try.prog 4)
def f4a23 : Ann := subAnn [1, 1, 1, 1, 1, 0] ann4
noncomputable def f4c24 : Code := subCode [1, 1, 1, 1, 1, 1] (bodyOf Try.prog 4)
def f4a24 : Ann := subAnn [1, 1, 1, 1, 1, 1] ann4
noncomputable def f4c25 : Code := subCode [1, 1, 1, 1, 1, 1, 0] (bodyOf Try.prog 4)
def f4a25 : Ann := subAnn [1, 1, 1, 1, 1, 1, 0] ann4
noncomputable def f4c26 : Code := subCode [1, 1, 1, 1, 1, 1, 1] (bodyOf Try.prog 4)
def f4a26 : Ann := subAnn [1, 1, 1, 1, 1, 1, 1] ann4
noncomputable def f4c27 : Code := subCode [1, 1, 1, 1, 1, 1, 1, 0] (bodyOf Try.prog 4)
def f4a27 : Ann := subAnn [1, 1, 1, 1, 1, 1, 1, 0] ann4
noncomputable def f4c28 : Code := subCode [1, 1, 1, 1, 1, 1, 1, 1] (bodyOf Try.prog 4)
def f4a28 : Ann := subAnn [1, 1, 1, 1, 1, 1, 1, 1] ann4
def f4e0 (y0 : Int) (y1 : Int) (y2 : Int) (y3 : Int) (y4 : Int) (y5 : Option (Nat × Nat)) (y6 : Nat) (y7 : Option Nat) (y8 : Option (Nat × Nat)) (y9 : Nat) (y10 : Option Nat) (y11 : Option (Nat × Nat)) (y12 : Nat) (y13 : Option Nat) : Env := AV.agg [AV.int IntKind.i64 y0, AV.int IntKind.i64 y1, AV.int IntKind.i64 y2] :: AV.int IntKind.i64 y3 :: AV.agg [AV.int IntKind.i64 y4, AV.slice y5 y6 y7 (1 : Nat), AV.slice y8 y9 y10 (1 : Nat), AV.slice y11 y12 y13 (1 : Nat)] :: Env.sp 82 []
def f4e1 (y0 : Int) (y1 : Int) (y2 : Int) (y3 : Int) (y4 : Int) (y5 : Option (Nat × Nat)) (y6 : Nat) (y7 : Option Nat) (y8 : Option (Nat × Nat)) (y9 : Nat) (y10 : Option Nat) (y11 : Option (Nat × Nat)) (y12 : Nat) (y13 : Option Nat) (y14 : Nat) (y15 : Nat) (y16 : Bool) : Env := AV.agg [AV.int IntKind.i64 y0, AV.int IntKind.i64 y1, AV.int IntKind.i64 y2] :: AV.int IntKind.i64 y3 :: AV.agg [AV.int IntKind.i64 y4, AV.slice y5 y6 y7 (1 : Nat), AV.slice y8 y9 y10 (1 : Nat), AV.slice y11 y12 y13 (1 : Nat)] :: AV.ptr (some (y14, (0 : Nat))) :: Env.sp 1 (AV.ptr (some (y15, (0 : Nat))) :: AV.bool y16 :: Env.sp 78 [])
def f4e2 (y0 : Int) (y1 : Nat) (y2 : Nat) : Env := Env.sp 1 (AV.int IntKind.i64 y0 :: Env.sp 1 (AV.ptr (some (y1, (0 : Nat))) :: Env.sp 1 (AV.ptr (some (y2, (0 : Nat))) :: Env.sp 79 [])))
def f4e3 (y0 : Int) (y1 : Nat) (y2 : Nat) (y3 : Nat) (y4 : Int) (y5 : Bool) (y6 : Bool) (y7 : Bool) (y8 : Bool) (y9 : Bool) (y10 : Bool) (y11 : Bool) : Env := Env.sp 1 (AV.int IntKind.i64 y0 :: Env.sp 1 (AV.ptr (some (y1, (0 : Nat))) :: Env.sp 1 (AV.ptr (some (y2, (0 : Nat))) :: Env.sp 7 (AV.ptr (some (y3, (1 : Nat))) :: AV.int IntKind.i64 y4 :: AV.bool y5 :: AV.bool y6 :: AV.tuple [] :: AV.tuple [] :: AV.tuple [] :: AV.bool y7 :: AV.bool y8 :: AV.tuple [] :: AV.tuple [] :: AV.bool y9 :: AV.bool y10 :: AV.tuple [] :: AV.tuple [] :: AV.bool y11 :: Env.sp 56 []))))
def f4e4 (y0 : Int) (y1 : Nat) (y2 : Nat) (y3 : Nat) (y4 : Int) (y5 : Bool) (y6 : Bool) (y7 : Nat) (y8 : Int) (y9 : Bool) (y10 : Bool) (y11 : Bool) (y12 : Bool) (y13 : Bool) (y14 : Bool) : Env := Env.sp 1 (AV.int IntKind.i64 y0 :: Env.sp 1 (AV.ptr (some (y1, (0 : Nat))) :: Env.sp 1 (AV.ptr (some (y2, (0 : Nat))) :: Env.sp 7 (AV.ptr (some (y3, (1 : Nat))) :: AV.int IntKind.i64 y4 :: AV.bool y5 :: AV.bool y6 :: AV.ptr (some (y7, (1 : Nat))) :: AV.int IntKind.i64 y8 :: AV.bool y9 :: AV.bool y10 :: AV.bool y11 :: AV.tuple [] :: AV.tuple [] :: AV.bool y12 :: AV.bool y13 :: AV.tuple [] :: AV.tuple [] :: AV.bool y14 :: Env.sp 56 []))))
def f4e5 (y0 : Int) (y1 : Nat) (y2 : Nat) (y3 : Nat) (y4 : Int) (y5 : Bool) (y6 : Bool) (y7 : Nat) (y8 : Int) (y9 : Bool) (y10 : Bool) (y11 : Bool) (y12 : Int) (y13 : Bool) (y14 : Bool) (y15 : Bool) (y16 : Bool) : Env := Env.sp 1 (AV.int IntKind.i64 y0 :: Env.sp 1 (AV.ptr (some (y1, (0 : Nat))) :: Env.sp 1 (AV.ptr (some (y2, (0 : Nat))) :: Env.sp 7 (AV.ptr (some (y3, (1 : Nat))) :: AV.int IntKind.i64 y4 :: AV.bool y5 :: AV.bool y6 :: AV.ptr (some (y7, (1 : Nat))) :: AV.int IntKind.i64 y8 :: AV.bool y9 :: AV.bool y10 :: AV.bool y11 :: AV.int IntKind.i64 y12 :: AV.bool y13 :: AV.bool y14 :: AV.bool y15 :: AV.tuple [] :: AV.tuple [] :: AV.bool y16 :: Env.sp 56 []))))
def f4e6 (y0 : Int) (y1 : Nat) (y2 : Nat) (y3 : Nat) (y4 : Int) (y5 : Bool) (y6 : Bool) (y7 : Nat) (y8 : Int) (y9 : Bool) (y10 : Bool) (y11 : Bool) (y12 : Int) (y13 : Bool) (y14 : Bool) (y15 : Bool) (y16 : Int) (y17 : Bool) (y18 : Bool) : Env := Env.sp 1 (AV.int IntKind.i64 y0 :: Env.sp 1 (AV.ptr (some (y1, (0 : Nat))) :: Env.sp 1 (AV.ptr (some (y2, (0 : Nat))) :: Env.sp 7 (AV.ptr (some (y3, (1 : Nat))) :: AV.int IntKind.i64 y4 :: AV.bool y5 :: AV.bool y6 :: AV.ptr (some (y7, (1 : Nat))) :: AV.int IntKind.i64 y8 :: AV.bool y9 :: AV.bool y10 :: AV.bool y11 :: AV.int IntKind.i64 y12 :: AV.bool y13 :: AV.bool y14 :: AV.bool y15 :: AV.int IntKind.i64 y16 :: AV.bool y17 :: AV.bool y18 :: Env.sp 56 []))))
def f4e7 (y0 : Int) (y1 : Nat) (y2 : Nat) (y3 : Bool) : Env := Env.sp 1 (AV.int IntKind.i64 y0 :: Env.sp 1 (AV.ptr (some (y1, (0 : Nat))) :: Env.sp 1 (AV.ptr (some (y2, (0 : Nat))) :: Env.sp 22 (AV.bool y3 :: Env.sp 56 []))))
def f4e8 (y0 : Int) (y1 : Nat) (y2 : Nat) (y3 : Bool) (y4 : Bool) (y5 : Bool) : Env := Env.sp 1 (AV.int IntKind.i64 y0 :: Env.sp 1 (AV.ptr (some (y1, (0 : Nat))) :: Env.sp 1 (AV.ptr (some (y2, (0 : Nat))) :: AV.bool y3 :: Env.sp 21 (AV.bool y4 :: AV.bool y5 :: Env.sp 55 []))))
def f4e9 (y0 : Bool) : Env := Env.sp 6 (AV.bool y0 :: Env.sp 78 [])
def f4e10 (y0 : Int) (y1 : Nat) (y2 : Nat) (y3 : Option (Nat × Nat)) (y4 : Int) (y5 : Int) (y6 : Int) (y7 : Int) (y8 : Int) (y9 : Option (Nat × Nat)) (y10 : Nat) (y11 : Option Nat) (y12 : Option (Nat × Nat)) (y13 : Nat) (y14 : Option Nat) (y15 : Option (Nat × Nat)) (y16 : Nat) (y17 : Option Nat) (y18 : Nat) (y19 : Option (Nat × Nat)) (y20 : Nat) (y21 : Option Nat) (y22 : Option (Nat × Nat)) : Env := Env.sp 1 (AV.int IntKind.i64 y0 :: Env.sp 1 (AV.ptr (some (y1, (0 : Nat))) :: Env.sp 1 (AV.ptr (some (y2, (0 : Nat))) :: Env.sp 1 (AV.ptr y3 :: Env.sp 22 (AV.agg [AV.int IntKind.i64 y4, AV.int IntKind.i64 y5, AV.int IntKind.i64 y6] :: AV.int IntKind.i64 y7 :: AV.agg [AV.int IntKind.i64 y8, AV.slice y9 y10 y11 (1 : Nat), AV.slice y12 y13 y14 (1 : Nat), AV.slice y15 y16 y17 (1 : Nat)] :: AV.ptr (some (y18, (2 : Nat))) :: AV.slice y19 y20 y21 (1 : Nat) :: AV.ptr y22 :: Env.sp 49 [])))))
def f4e11 (y0 : Int) (y1 : Nat) (y2 : Nat) (y3 : Option (Nat × Nat)) : Env := Env.sp 1 (AV.int IntKind.i64 y0 :: Env.sp 1 (AV.ptr (some (y1, (0 : Nat))) :: Env.sp 1 (AV.ptr (some (y2, (0 : Nat))) :: Env.sp 1 (AV.ptr y3 :: Env.sp 77 []))))
def f4e12 (y0 : Int) (y1 : Nat) (y2 : Nat) (y3 : Option (Nat × Nat)) (y4 : Option (Nat × Nat)) (y5 : Int) (y6 : Int) (y7 : Int) (y8 : Int) (y9 : Int) (y10 : Option (Nat × Nat)) (y11 : Nat) (y12 : Option Nat) (y13 : Option (Nat × Nat)) (y14 : Nat) (y15 : Option Nat) (y16 : Option (Nat × Nat)) (y17 : Nat) (y18 : Option Nat) (y19 : Nat) (y20 : Option (Nat × Nat)) (y21 : Nat) (y22 : Option Nat) (y23 : Option (Nat × Nat)) : Env := Env.sp 1 (AV.int IntKind.i64 y0 :: Env.sp 1 (AV.ptr (some (y1, (0 : Nat))) :: Env.sp 1 (AV.ptr (some (y2, (0 : Nat))) :: Env.sp 1 (AV.ptr y3 :: AV.ptr y4 :: Env.sp 27 (AV.agg [AV.int IntKind.i64 y5, AV.int IntKind.i64 y6, AV.int IntKind.i64 y7] :: AV.int IntKind.i64 y8 :: AV.agg [AV.int IntKind.i64 y9, AV.slice y10 y11 y12 (1 : Nat), AV.slice y13 y14 y15 (1 : Nat), AV.slice y16 y17 y18 (1 : Nat)] :: AV.ptr (some (y19, (3 : Nat))) :: AV.slice y20 y21 y22 (1 : Nat) :: AV.ptr y23 :: Env.sp 43 [])))))
def f4e13 (y0 : Int) (y1 : Option (Nat × Nat)) (y2 : Option (Nat × Nat)) : Env := Env.sp 1 (AV.int IntKind.i64 y0 :: Env.sp 5 (AV.ptr y1 :: AV.ptr y2 :: Env.sp 76 []))
def f4e14 (y0 : Int) (y1 : Option (Nat × Nat)) (y2 : Option (Nat × Nat)) (y3 : Option (Nat × Nat)) (y4 : Bool) (y5 : Bool) (y6 : Bool) : Env := Env.sp 1 (AV.int IntKind.i64 y0 :: Env.sp 5 (AV.ptr y1 :: AV.ptr y2 :: Env.sp 33 (AV.ptr y3 :: AV.bool y4 :: AV.bool y5 :: AV.tuple [] :: AV.tuple [] :: AV.bool y6 :: Env.sp 37 [])))
def f4e15 (y0 : Int) (y1 : Option (Nat × Nat)) (y2 : Option (Nat × Nat)) (y3 : Option (Nat × Nat)) (y4 : Bool) (y5 : Bool) (y6 : Option (Nat × Nat)) (y7 : Bool) (y8 : Bool) : Env := Env.sp 1 (AV.int IntKind.i64 y0 :: Env.sp 5 (AV.ptr y1 :: AV.ptr y2 :: Env.sp 33 (AV.ptr y3 :: AV.bool y4 :: AV.bool y5 :: AV.ptr y6 :: AV.bool y7 :: AV.bool y8 :: Env.sp 37 [])))
def f4e16 (y0 : Int) (y1 : Option (Nat × Nat)) (y2 : Option (Nat × Nat)) (y3 : Bool) : Env := Env.sp 1 (AV.int IntKind.i64 y0 :: Env.sp 5 (AV.ptr y1 :: AV.ptr y2 :: Env.sp 38 (AV.bool y3 :: Env.sp 37 [])))
def f4e17 (y0 : Int) (y1 : Bool) (y2 : Option (Nat × Nat)) (y3 : Option (Nat × Nat)) (y4 : Bool) (y5 : Option (Nat × Nat)) (y6 : Bool) (y7 : Bool) (y8 : Option (Nat × Nat)) (y9 : Bool) (y10 : Bool) (y11 : Bool) (y12 : Bool) (y13 : Bool) : Env := Env.sp 1 (AV.int IntKind.i64 y0 :: Env.sp 4 (AV.bool y1 :: AV.ptr y2 :: AV.ptr y3 :: Env.sp 38 (AV.bool y4 :: AV.ptr y5 :: AV.bool y6 :: AV.bool y7 :: AV.ptr y8 :: AV.bool y9 :: AV.bool y10 :: AV.bool y11 :: AV.bool y12 :: AV.bool y13 :: Env.sp 28 [])))
def f4e18 (y0 : Int) (y1 : Bool) (y2 : Option (Nat × Nat)) (y3 : Option (Nat × Nat)) (y4 : Bool) (y5 : Option (Nat × Nat)) (y6 : Bool) (y7 : Bool) (y8 : Option (Nat × Nat)) (y9 : Bool) (y10 : Bool) (y11 : Bool) (y12 : Bool) : Env := Env.sp 1 (AV.int IntKind.i64 y0 :: Env.sp 4 (AV.bool y1 :: AV.ptr y2 :: AV.ptr y3 :: Env.sp 38 (AV.bool y4 :: AV.ptr y5 :: AV.bool y6 :: AV.bool y7 :: AV.ptr y8 :: AV.bool y9 :: AV.bool y10 :: AV.bool y11 :: AV.tuple [] :: AV.bool y12 :: Env.sp 28 [])))
def f4e19 (y0 : Int) (y1 : Bool) (y2 : Option (Nat × Nat)) (y3 : Option (Nat × Nat)) (y4 : Bool) (y5 : Option (Nat × Nat)) (y6 : Bool) (y7 : Bool) (y8 : Bool) (y9 : Bool) (y10 : Bool) : Env := Env.sp 1 (AV.int IntKind.i64 y0 :: Env.sp 4 (AV.bool y1 :: AV.ptr y2 :: AV.ptr y3 :: Env.sp 38 (AV.bool y4 :: AV.ptr y5 :: AV.bool y6 :: AV.bool y7 :: AV.tuple [] :: AV.tuple [] :: AV.bool y8 :: AV.bool y9 :: AV.tuple [] :: AV.bool y10 :: Env.sp 28 [])))
def f4e20 (y0 : Int) (y1 : Option (Nat × Nat)) (y2 : Option (Nat × Nat)) (y3 : Nat) (y4 : Bool) (y5 : ByteArray) (y6 : Int) (y7 : Option (Nat × Nat)) (y8 : Nat) (y9 : Option Nat) (y10 : Bool) (y11 : Option (Nat × Nat)) (y12 : Int) (y13 : ByteArray) (y14 : Int) (y15 : Option (Nat × Nat)) (y16 : Nat) (y17 : Option Nat) (y18 : Bool) (y19 : ByteArray) (y20 : Int) (y21 : Option (Nat × Nat)) (y22 : Nat) (y23 : Option Nat) (y24 : Bool) : Env := Env.sp 1 (AV.int IntKind.i64 y0 :: Env.sp 5 (AV.ptr y1 :: AV.ptr y2 :: AV.ptr (some (y3, (0 : Nat))) :: AV.bool y4 :: Env.sp 46 (AV.tuple [AV.agg [AV.str y5, AV.int IntKind.i64 y6, AV.slice y7 y8 y9 (2 : Nat)], AV.bool y10] :: AV.ptr y11 :: AV.int IntKind.i64 y12 :: AV.tuple [AV.agg [AV.str y13, AV.int IntKind.i64 y14, AV.slice y15 y16 y17 (2 : Nat)], AV.bool y18] :: AV.agg [AV.str y19, AV.int IntKind.i64 y20, AV.slice y21 y22 y23 (2 : Nat)] :: AV.bool y24 :: Env.sp 22 [])))
def f4e21 (y0 : Int) (y1 : Option (Nat × Nat)) (y2 : Nat) (y3 : Bool) : Env := Env.sp 1 (AV.int IntKind.i64 y0 :: Env.sp 6 (AV.ptr y1 :: AV.ptr (some (y2, (0 : Nat))) :: AV.bool y3 :: Env.sp 74 []))
def f4e22 (y0 : Int) (y1 : Option (Nat × Nat)) (y2 : Nat) (y3 : Bool) (y4 : Nat) (y5 : Bool) (y6 : ByteArray) (y7 : Int) (y8 : Option (Nat × Nat)) (y9 : Nat) (y10 : Option Nat) (y11 : Bool) (y12 : Option (Nat × Nat)) (y13 : Int) (y14 : ByteArray) (y15 : Int) (y16 : Option (Nat × Nat)) (y17 : Nat) (y18 : Option Nat) (y19 : Bool) (y20 : ByteArray) (y21 : Int) (y22 : Option (Nat × Nat)) (y23 : Nat) (y24 : Option Nat) (y25 : Bool) : Env := Env.sp 1 (AV.int IntKind.i64 y0 :: Env.sp 6 (AV.ptr y1 :: AV.ptr (some (y2, (0 : Nat))) :: AV.bool y3 :: AV.ptr (some (y4, (0 : Nat))) :: AV.bool y5 :: Env.sp 50 (AV.tuple [AV.agg [AV.str y6, AV.int IntKind.i64 y7, AV.slice y8 y9 y10 (2 : Nat)], AV.bool y11] :: AV.ptr y12 :: AV.int IntKind.i64 y13 :: AV.tuple [AV.agg [AV.str y14, AV.int IntKind.i64 y15, AV.slice y16 y17 y18 (2 : Nat)], AV.bool y19] :: AV.agg [AV.str y20, AV.int IntKind.i64 y21, AV.slice y22 y23 y24 (2 : Nat)] :: AV.bool y25 :: Env.sp 16 [])))
def f4e23 (y0 : Nat) (y1 : Bool) (y2 : Nat) (y3 : Bool) : Env := Env.sp 9 (AV.ptr (some (y0, (0 : Nat))) :: AV.bool y1 :: AV.ptr (some (y2, (0 : Nat))) :: AV.bool y3 :: Env.sp 72 [])
def f4e24 (y0 : Bool) (y1 : Nat) (y2 : Bool) (y3 : Nat) (y4 : Bool) (y5 : Bool) (y6 : Bool) (y7 : Bool) (y8 : Bool) (y9 : Bool) (y10 : Bool) (y11 : Bool) (y12 : Bool) (y13 : Bool) : Env := Env.sp 6 (AV.bool y0 :: Env.sp 2 (AV.ptr (some (y1, (0 : Nat))) :: AV.bool y2 :: AV.ptr (some (y3, (0 : Nat))) :: AV.bool y4 :: Env.sp 56 (AV.bool y5 :: AV.bool y6 :: AV.bool y7 :: AV.tuple [] :: AV.tuple [] :: AV.bool y8 :: AV.bool y9 :: AV.tuple [] :: AV.tuple [] :: AV.tuple [] :: AV.tuple [] :: AV.tuple [] :: AV.bool y10 :: AV.bool y11 :: AV.bool y12 :: AV.bool y13 :: [])))
def f4e25 (y0 : Bool) (y1 : Nat) (y2 : Bool) (y3 : Nat) (y4 : Bool) (y5 : Bool) (y6 : Bool) (y7 : Bool) (y8 : Bool) (y9 : Bool) (y10 : Bool) (y11 : Bool) (y12 : Bool) (y13 : Bool) (y14 : Bool) (y15 : Bool) : Env := Env.sp 6 (AV.bool y0 :: Env.sp 2 (AV.ptr (some (y1, (0 : Nat))) :: AV.bool y2 :: AV.ptr (some (y3, (0 : Nat))) :: AV.bool y4 :: Env.sp 56 (AV.bool y5 :: AV.bool y6 :: AV.bool y7 :: AV.bool y8 :: AV.bool y9 :: AV.bool y10 :: AV.bool y11 :: AV.tuple [] :: AV.tuple [] :: AV.tuple [] :: AV.tuple [] :: AV.tuple [] :: AV.bool y12 :: AV.bool y13 :: AV.bool y14 :: AV.bool y15 :: [])))
def f4e26 (y0 : Bool) (y1 : Nat) (y2 : Bool) (y3 : Nat) (y4 : Bool) (y5 : Bool) (y6 : Bool) (y7 : Bool) (y8 : Bool) (y9 : Bool) (y10 : Bool) (y11 : Bool) (y12 : Nat) (y13 : ByteArray) (y14 : Nat) (y15 : ByteArray) (y16 : Bool) (y17 : Bool) (y18 : Bool) (y19 : Bool) (y20 : Bool) : Env := Env.sp 6 (AV.bool y0 :: Env.sp 2 (AV.ptr (some (y1, (0 : Nat))) :: AV.bool y2 :: AV.ptr (some (y3, (0 : Nat))) :: AV.bool y4 :: Env.sp 56 (AV.bool y5 :: AV.bool y6 :: AV.bool y7 :: AV.bool y8 :: AV.bool y9 :: AV.bool y10 :: AV.bool y11 :: AV.ptr (some (y12, (0 : Nat))) :: AV.str y13 :: AV.ptr (some (y14, (0 : Nat))) :: AV.str y15 :: AV.bool y16 :: AV.bool y17 :: AV.bool y18 :: AV.bool y19 :: AV.bool y20 :: [])))
def f4e27 (y0 : Bool) (y1 : Nat) (y2 : Bool) (y3 : Nat) (y4 : Bool) (y5 : Bool) (y6 : Bool) (y7 : Bool) (y8 : Bool) (y9 : Bool) (y10 : Bool) (y11 : Bool) (y12 : Nat) (y13 : ByteArray) (y14 : Nat) (y15 : ByteArray) (y16 : Bool) (y17 : Bool) (y18 : Bool) (y19 : Bool) : Env := Env.sp 6 (AV.bool y0 :: Env.sp 2 (AV.ptr (some (y1, (0 : Nat))) :: AV.bool y2 :: AV.ptr (some (y3, (0 : Nat))) :: AV.bool y4 :: Env.sp 56 (AV.bool y5 :: AV.bool y6 :: AV.bool y7 :: AV.bool y8 :: AV.bool y9 :: AV.bool y10 :: AV.bool y11 :: AV.ptr (some (y12, (0 : Nat))) :: AV.str y13 :: AV.ptr (some (y14, (0 : Nat))) :: AV.str y15 :: AV.bool y16 :: AV.bool y17 :: AV.bool y18 :: AV.tuple [] :: AV.bool y19 :: [])))

/- function 4 -/
theorem f4_eq {R : Type} (call : CallF R) (N : Nat) (y0 : Int) (y1 : Int) (y2 : Int) (y3 : Int) (y4 : Int) (y5 : Option (Nat × Nat)) (y6 : Nat) (y7 : Option Nat) (y8 : Option (Nat × Nat)) (y9 : Nat) (y10 : Option Nat) (y11 : Option (Nat × Nat)) (y12 : Nat) (y13 : Option Nat) (σ : St) (K : AV → St → Option R) :
    bodyK Try.prog call N ann 4 [AV.agg [AV.int IntKind.i64 y0, AV.int IntKind.i64 y1, AV.int IntKind.i64 y2], AV.int IntKind.i64 y3,
  AV.agg [AV.int IntKind.i64 y4, AV.slice y5 y6 y7 (1 : Nat), AV.slice y8 y9 y10 (1 : Nat), AV.slice y11 y12 y13 (1 : Nat)]] σ K = runK Try.prog call N f4c0 f4a0 (bodyC Try.prog f4rs K) (f4e0 y0 y1 y2 y3 y4 y5 y6 y7 y8 y9 y10 y11 y12 y13) σ := bodyK_of (fn := ((Try.prog.funcs[4]?).get rfl)) (by kernel_rfl) (by kernel_rfl) (by kernel_rfl) (by kernel_rfl) (by kernel_rfl) (by kernel_rfl)
theorem f4n0 {R : Type} (call : CallF R) (N : Nat) (J : KF R) (e : Env) (σ : St) : runK Try.prog call N f4c0 f4a0 J e σ = runK Try.prog call N f4c1 f4a1 (seqC (fun K e σ => runK Try.prog call N f4c2 f4a2 K e σ) f4a0 J) e σ := runK_seq' (by kernel_rfl) (by kernel_rfl) (by kernel_rfl)
theorem f4r1_f4e0 {R : Type} (call : CallF R) (N : Nat) (y0 : Int) (y1 : Int) (y2 : Int) (y3 : Int) (y4 : Int) (y5 : Option (Nat × Nat)) (y6 : Nat) (y7 : Option Nat) (y8 : Option (Nat × Nat)) (y9 : Nat) (y10 : Option Nat) (y11 : Option (Nat × Nat)) (y12 : Nat) (y13 : Option Nat) (J : KF R) (σ : St) :
    runK Try.prog call N f4c1 f4a1 J (f4e0 y0 y1 y2 y3 y4 y5 y6 y7 y8 y9 y10 y11 y12 y13) σ =
J Ex.normal
  (f4e1 y0 y1 y2 y3 y4 y5 y6 y7 y8 y9 y10 y11 y12 y13 (St.next σ)
    (St.next (St.new σ (Blk.cells [AV.int IntKind.i64 y0, AV.int IntKind.i64 y1, AV.int IntKind.i64 y2] true))) false)
  (St.new (St.new σ (Blk.cells [AV.int IntKind.i64 y0, AV.int IntKind.i64 y1, AV.int IntKind.i64 y2] true))
    (Blk.cells [AV.int IntKind.i64 y4, AV.slice y5 y6 y7 (1 : Nat), AV.slice y8 y9 y10 (1 : Nat), AV.slice y11 y12 y13 (1 : Nat)] true)) := hide (by kernel_rfl)
theorem f4z0_f4e1 (y0 : Int) (y1 : Int) (y2 : Int) (y3 : Int) (y4 : Int) (y5 : Option (Nat × Nat)) (y6 : Nat) (y7 : Option Nat) (y8 : Option (Nat × Nat)) (y9 : Nat) (y10 : Option Nat) (y11 : Option (Nat × Nat)) (y12 : Nat) (y13 : Option Nat) (y14 : Nat) (y15 : Nat) (y16 : Bool) : Ann.clr f4a0 (f4e1 y0 y1 y2 y3 y4 y5 y6 y7 y8 y9 y10 y11 y12 y13 y14 y15 y16) = f4e2 y3 y14 y15 := hide (by kernel_rfl)
theorem f4n2 {R : Type} (call : CallF R) (N : Nat) (J : KF R) (e : Env) (σ : St) : runK Try.prog call N f4c2 f4a2 J e σ = runK Try.prog call N f4c3 f4a3 (seqC (fun K e σ => runK Try.prog call N f4c4 f4a4 K e σ) f4a2 J) e σ := runK_seq' (by kernel_rfl) (by kernel_rfl) (by kernel_rfl)
theorem f4n3 {R : Type} (call : CallF R) (N : Nat) (J : KF R) (e : Env) (σ : St) : runK Try.prog call N f4c3 f4a3 J e σ = runK Try.prog call N f4c5 f4a5 (seqC (fun K e σ => runK Try.prog call N f4c6 f4a6 K e σ) f4a3 J) e σ := runK_seq' (by kernel_rfl) (by kernel_rfl) (by kernel_rfl)
theorem f4r5_f4e2 {R : Type} (call : CallF R) (N : Nat) (y0 : Int) (y1 : Nat) (y2 : Nat) (J : KF R) (σ : St) :
    runK Try.prog call N f4c5 f4a5 J (f4e2 y0 y1 y2) σ =
Option.bind (St.ld σ y1 (1 : Nat)) fun v0 =>
  Option.bind (AV.toInt IntKind.i64 v0) fun v1 =>
    if decide (v1 < (0 : Int)) = true then J Ex.normal (f4e3 y0 y1 y2 y1 v1 (decide (v1 < (0 : Int))) true true true true true true) σ
    else
      Option.bind (St.ld σ y1 (1 : Nat)) fun v2 =>
        Option.bind (AV.toInt IntKind.i64 v2) fun v3 =>
          if decide (v3 > (3 : Int)) = true then
            J Ex.normal
              (f4e4 y0 y1 y2 y1 v1 (decide (v1 < (0 : Int))) false y1 v3 (decide (v3 > (3 : Int))) (decide (v3 > (3 : Int))) true true true true) σ
          else
            if decide (y0 < (1 : Int)) = true then
              J Ex.normal
                (f4e5 y0 y1 y2 y1 v1 (decide (v1 < (0 : Int))) false y1 v3 (decide (v3 > (3 : Int))) (decide (v3 > (3 : Int))) false y0
                  (decide (y0 < (1 : Int))) (decide (y0 < (1 : Int))) true true)
                σ
            else
              J Ex.normal
                (f4e6 y0 y1 y2 y1 v1 (decide (v1 < (0 : Int))) false y1 v3 (decide (v3 > (3 : Int))) (decide (v3 > (3 : Int))) false y0
                  (decide (y0 < (1 : Int))) (decide (y0 < (1 : Int))) false y0 (decide (y0 > (2 : Int))) (decide (y0 > (2 : Int))))
                σ := hide (by kernel_rfl)
theorem f4z3_f4e3 (y0 : Int) (y1 : Nat) (y2 : Nat) (y3 : Nat) (y4 : Int) (y5 : Bool) (y6 : Bool) (y7 : Bool) (y8 : Bool) (y9 : Bool) (y10 : Bool) (y11 : Bool) : Ann.clr f4a3 (f4e3 y0 y1 y2 y3 y4 y5 y6 y7 y8 y9 y10 y11) = f4e7 y0 y1 y2 y11 := hide (by kernel_rfl)
theorem f4x6_f4e7 {R : Type} (call : CallF R) (N : Nat) (y0 : Int) (y1 : Nat) (y2 : Nat) (y3 : Bool) (J : KF R) (σ : St) : runK Try.prog call N f4c6 f4a6 J (f4e7 y0 y1 y2 y3) σ = if y3 = true then runK Try.prog call N f4c7 f4a7 (condC f4a6 J) (f4e7 y0 y1 y2 y3) σ else runK Try.prog call N f4c8 f4a8 (condC f4a6 J) (f4e7 y0 y1 y2 y3) σ := runK_cond' (o := Operand.tmp (28 : Nat)) (by kernel_rfl) (by kernel_rfl) (by kernel_rfl) (by kernel_rfl)
theorem f4n7 {R : Type} (call : CallF R) (N : Nat) (J : KF R) (e : Env) (σ : St) : runK Try.prog call N f4c7 f4a7 J e σ = runK Try.prog call N f4c9 f4a9 (seqC (fun K e σ => runK Try.prog call N f4c10 f4a10 K e σ) f4a7 J) e σ := runK_seq' (by kernel_rfl) (by kernel_rfl) (by kernel_rfl)
theorem f4r9_f4e7 {R : Type} (call : CallF R) (N : Nat) (y0 : Int) (y1 : Nat) (y2 : Nat) (y3 : Bool) (J : KF R) (σ : St) :
    runK Try.prog call N f4c9 f4a9 J (f4e7 y0 y1 y2 y3) σ =
call (19 : Nat) [] σ fun v0 v1 => Option.bind (AV.toBool v0) fun v2 => J Ex.normal (f4e8 y0 y1 y2 v2 y3 v2) v1 := hide (by kernel_rfl)
theorem f4z7_f4e8 (y0 : Int) (y1 : Nat) (y2 : Nat) (y3 : Bool) (y4 : Bool) (y5 : Bool) : Ann.clr f4a7 (f4e8 y0 y1 y2 y3 y4 y5) = f4e9 y3 := hide (by kernel_rfl)
theorem f4y10_f4e9 {R : Type} (call : CallF R) (N : Nat) (y0 : Bool) (J : KF R) (σ : St) : runK Try.prog call N f4c10 f4a10 J (f4e9 y0) σ = J .ret (f4e9 y0) σ := runK_ret' (by kernel_rfl) (by kernel_rfl)
theorem f4n8 {R : Type} (call : CallF R) (N : Nat) (J : KF R) (e : Env) (σ : St) : runK Try.prog call N f4c8 f4a8 J e σ = J .normal e σ := runK_skip' (by kernel_rfl)
theorem f4z6_f4e7 (y0 : Int) (y1 : Nat) (y2 : Nat) (y3 : Bool) : Ann.clr f4a6 (f4e7 y0 y1 y2 y3) = f4e2 y0 y1 y2 := hide (by kernel_rfl)
theorem f4z3_f4e4 (y0 : Int) (y1 : Nat) (y2 : Nat) (y3 : Nat) (y4 : Int) (y5 : Bool) (y6 : Bool) (y7 : Nat) (y8 : Int) (y9 : Bool) (y10 : Bool) (y11 : Bool) (y12 : Bool) (y13 : Bool) (y14 : Bool) : Ann.clr f4a3 (f4e4 y0 y1 y2 y3 y4 y5 y6 y7 y8 y9 y10 y11 y12 y13 y14) = f4e7 y0 y1 y2 y14 := hide (by kernel_rfl)
theorem f4z3_f4e5 (y0 : Int) (y1 : Nat) (y2 : Nat) (y3 : Nat) (y4 : Int) (y5 : Bool) (y6 : Bool) (y7 : Nat) (y8 : Int) (y9 : Bool) (y10 : Bool) (y11 : Bool) (y12 : Int) (y13 : Bool) (y14 : Bool) (y15 : Bool) (y16 : Bool) : Ann.clr f4a3 (f4e5 y0 y1 y2 y3 y4 y5 y6 y7 y8 y9 y10 y11 y12 y13 y14 y15 y16) = f4e7 y0 y1 y2 y16 := hide (by kernel_rfl)
theorem f4z3_f4e6 (y0 : Int) (y1 : Nat) (y2 : Nat) (y3 : Nat) (y4 : Int) (y5 : Bool) (y6 : Bool) (y7 : Nat) (y8 : Int) (y9 : Bool) (y10 : Bool) (y11 : Bool) (y12 : Int) (y13 : Bool) (y14 : Bool) (y15 : Bool) (y16 : Int) (y17 : Bool) (y18 : Bool) : Ann.clr f4a3 (f4e6 y0 y1 y2 y3 y4 y5 y6 y7 y8 y9 y10 y11 y12 y13 y14 y15 y16 y17 y18) = f4e7 y0 y1 y2 y18 := hide (by kernel_rfl)
theorem f4z2_f4e2 (y0 : Int) (y1 : Nat) (y2 : Nat) : Ann.clr f4a2 (f4e2 y0 y1 y2) = f4e2 y0 y1 y2 := hide (by kernel_rfl)
theorem f4n4 {R : Type} (call : CallF R) (N : Nat) (J : KF R) (e : Env) (σ : St) : runK Try.prog call N f4c4 f4a4 J e σ = runK Try.prog call N f4c11 f4a11 (seqC (fun K e σ => runK Try.prog call N f4c12 f4a12 K e σ) f4a4 J) e σ := runK_seq' (by kernel_rfl) (by kernel_rfl) (by kernel_rfl)
theorem f4r11_f4e2 {R : Type} (call : CallF R) (N : Nat) (y0 : Int) (y1 : Nat) (y2 : Nat) (J : KF R) (σ : St) :
    runK Try.prog call N f4c11 f4a11 J (f4e2 y0 y1 y2) σ =
Option.bind (St.ld σ y1 (0 : Nat)) fun v0 =>
  Option.bind (AV.toInt IntKind.i64 v0) fun v1 =>
    Option.bind (St.ld σ y1 (1 : Nat)) fun v2 =>
      Option.bind (AV.toInt IntKind.i64 v2) fun v3 =>
        Option.bind (St.ld σ y1 (2 : Nat)) fun v4 =>
          Option.bind (AV.toInt IntKind.i64 v4) fun v5 =>
            Option.bind (St.ld σ y2 (0 : Nat)) fun v6 =>
              Option.bind (AV.toInt IntKind.i64 v6) fun v7 =>
                Option.bind (St.ld σ y2 (1 : Nat)) fun v8 =>
                  Option.bind (AV.toSl (1 : Nat) v8) fun v9 =>
                    Option.bind (St.ld σ y2 (2 : Nat)) fun v10 =>
                      Option.bind (AV.toSl (1 : Nat) v10) fun v11 =>
                        Option.bind (St.ld σ y2 (3 : Nat)) fun v12 =>
                          Option.bind (AV.toSl (1 : Nat) v12) fun v13 =>
                            Option.bind (St.ld σ y2 (2 : Nat)) fun v14 =>
                              Option.bind (AV.toSl (1 : Nat) v14) fun v15 =>
                                call (20 : Nat)
                                  [AV.agg [AV.int IntKind.i64 v1, AV.int IntKind.i64 v3, AV.int IntKind.i64 v5], AV.int IntKind.i64 y0,
                                    AV.agg
                                      [AV.int IntKind.i64 v7, AV.slice (Sl.o v9) (Sl.len v9) (Sl.cap v9) (1 : Nat),
                                        AV.slice (Sl.o v11) (Sl.len v11) (Sl.cap v11) (1 : Nat),
                                        AV.slice (Sl.o v13) (Sl.len v13) (Sl.cap v13) (1 : Nat)],
                                    AV.slice (Sl.o v15) (Sl.len v15) (Sl.cap v15) (1 : Nat)]
                                  σ fun v16 v17 =>
                                  Option.bind (AV.toPtr v16) fun v18 =>
                                    J Ex.normal
                                      (f4e10 y0 y1 y2 v18 v1 v3 v5 y0 v7 (Sl.o v9) (Sl.len v9) (Sl.cap v9) (Sl.o v11) (Sl.len v11) (Sl.cap v11)
                                        (Sl.o v13) (Sl.len v13) (Sl.cap v13) y2 (Sl.o v15) (Sl.len v15) (Sl.cap v15) v18)
                                      v17 := hide (by kernel_rfl)
theorem f4z4_f4e10 (y0 : Int) (y1 : Nat) (y2 : Nat) (y3 : Option (Nat × Nat)) (y4 : Int) (y5 : Int) (y6 : Int) (y7 : Int) (y8 : Int) (y9 : Option (Nat × Nat)) (y10 : Nat) (y11 : Option Nat) (y12 : Option (Nat × Nat)) (y13 : Nat) (y14 : Option Nat) (y15 : Option (Nat × Nat)) (y16 : Nat) (y17 : Option Nat) (y18 : Nat) (y19 : Option (Nat × Nat)) (y20 : Nat) (y21 : Option Nat) (y22 : Option (Nat × Nat)) : Ann.clr f4a4 (f4e10 y0 y1 y2 y3 y4 y5 y6 y7 y8 y9 y10 y11 y12 y13 y14 y15 y16 y17 y18 y19 y20 y21 y22) = f4e11 y0 y1 y2 y3 := hide (by kernel_rfl)
theorem f4n12 {R : Type} (call : CallF R) (N : Nat) (J : KF R) (e : Env) (σ : St) : runK Try.prog call N f4c12 f4a12 J e σ = runK Try.prog call N f4c13 f4a13 (seqC (fun K e σ => runK Try.prog call N f4c14 f4a14 K e σ) f4a12 J) e σ := runK_seq' (by kernel_rfl) (by kernel_rfl) (by kernel_rfl)
theorem f4r13_f4e11 {R : Type} (call : CallF R) (N : Nat) (y0 : Int) (y1 : Nat) (y2 : Nat) (y3 : Option (Nat × Nat)) (J : KF R) (σ : St) :
    runK Try.prog call N f4c13 f4a13 J (f4e11 y0 y1 y2 y3) σ =
Option.bind (St.ld σ y1 (0 : Nat)) fun v0 =>
  Option.bind (AV.toInt IntKind.i64 v0) fun v1 =>
    Option.bind (St.ld σ y1 (1 : Nat)) fun v2 =>
      Option.bind (AV.toInt IntKind.i64 v2) fun v3 =>
        Option.bind (St.ld σ y1 (2 : Nat)) fun v4 =>
          Option.bind (AV.toInt IntKind.i64 v4) fun v5 =>
            Option.bind (St.ld σ y2 (0 : Nat)) fun v6 =>
              Option.bind (AV.toInt IntKind.i64 v6) fun v7 =>
                Option.bind (St.ld σ y2 (1 : Nat)) fun v8 =>
                  Option.bind (AV.toSl (1 : Nat) v8) fun v9 =>
                    Option.bind (St.ld σ y2 (2 : Nat)) fun v10 =>
                      Option.bind (AV.toSl (1 : Nat) v10) fun v11 =>
                        Option.bind (St.ld σ y2 (3 : Nat)) fun v12 =>
                          Option.bind (AV.toSl (1 : Nat) v12) fun v13 =>
                            Option.bind (St.ld σ y2 (3 : Nat)) fun v14 =>
                              Option.bind (AV.toSl (1 : Nat) v14) fun v15 =>
                                call (20 : Nat)
                                  [AV.agg [AV.int IntKind.i64 v1, AV.int IntKind.i64 v3, AV.int IntKind.i64 v5], AV.int IntKind.i64 y0,
                                    AV.agg
                                      [AV.int IntKind.i64 v7, AV.slice (Sl.o v9) (Sl.len v9) (Sl.cap v9) (1 : Nat),
                                        AV.slice (Sl.o v11) (Sl.len v11) (Sl.cap v11) (1 : Nat),
                                        AV.slice (Sl.o v13) (Sl.len v13) (Sl.cap v13) (1 : Nat)],
                                    AV.slice (Sl.o v15) (Sl.len v15) (Sl.cap v15) (1 : Nat)]
                                  σ fun v16 v17 =>
                                  Option.bind (AV.toPtr v16) fun v18 =>
                                    J Ex.normal
                                      (f4e12 y0 y1 y2 y3 v18 v1 v3 v5 y0 v7 (Sl.o v9) (Sl.len v9) (Sl.cap v9) (Sl.o v11) (Sl.len v11) (Sl.cap v11)
                                        (Sl.o v13) (Sl.len v13) (Sl.cap v13) y2 (Sl.o v15) (Sl.len v15) (Sl.cap v15) v18)
                                      v17 := hide (by kernel_rfl)
theorem f4z12_f4e12 (y0 : Int) (y1 : Nat) (y2 : Nat) (y3 : Option (Nat × Nat)) (y4 : Option (Nat × Nat)) (y5 : Int) (y6 : Int) (y7 : Int) (y8 : Int) (y9 : Int) (y10 : Option (Nat × Nat)) (y11 : Nat) (y12 : Option Nat) (y13 : Option (Nat × Nat)) (y14 : Nat) (y15 : Option Nat) (y16 : Option (Nat × Nat)) (y17 : Nat) (y18 : Option Nat) (y19 : Nat) (y20 : Option (Nat × Nat)) (y21 : Nat) (y22 : Option Nat) (y23 : Option (Nat × Nat)) : Ann.clr f4a12 (f4e12 y0 y1 y2 y3 y4 y5 y6 y7 y8 y9 y10 y11 y12 y13 y14 y15 y16 y17 y18 y19 y20 y21 y22 y23) = f4e13 y0 y3 y4 := hide (by kernel_rfl)
theorem f4n14 {R : Type} (call : CallF R) (N : Nat) (J : KF R) (e : Env) (σ : St) : runK Try.prog call N f4c14 f4a14 J e σ = runK Try.prog call N f4c15 f4a15 (seqC (fun K e σ => runK Try.prog call N f4c16 f4a16 K e σ) f4a14 J) e σ := runK_seq' (by kernel_rfl) (by kernel_rfl) (by kernel_rfl)
theorem f4n15 {R : Type} (call : CallF R) (N : Nat) (J : KF R) (e : Env) (σ : St) : runK Try.prog call N f4c15 f4a15 J e σ = runK Try.prog call N f4c17 f4a17 (seqC (fun K e σ => runK Try.prog call N f4c18 f4a18 K e σ) f4a15 J) e σ := runK_seq' (by kernel_rfl) (by kernel_rfl) (by kernel_rfl)
theorem f4r17_f4e13 {R : Type} (call : CallF R) (N : Nat) (y0 : Int) (y1 : Option (Nat × Nat)) (y2 : Option (Nat × Nat)) (J : KF R) (σ : St) :
    runK Try.prog call N f4c17 f4a17 J (f4e13 y0 y1 y2) σ =
if Option.isNone y1 = true then J Ex.normal (f4e14 y0 y1 y2 y1 (Option.isNone y1) true true) σ
else J Ex.normal (f4e15 y0 y1 y2 y1 (Option.isNone y1) false y2 (Option.isNone y2) (Option.isNone y2)) σ := hide (by kernel_rfl)
theorem f4z15_f4e14 (y0 : Int) (y1 : Option (Nat × Nat)) (y2 : Option (Nat × Nat)) (y3 : Option (Nat × Nat)) (y4 : Bool) (y5 : Bool) (y6 : Bool) : Ann.clr f4a15 (f4e14 y0 y1 y2 y3 y4 y5 y6) = f4e16 y0 y1 y2 y6 := hide (by kernel_rfl)
theorem f4x18_f4e16 {R : Type} (call : CallF R) (N : Nat) (y0 : Int) (y1 : Option (Nat × Nat)) (y2 : Option (Nat × Nat)) (y3 : Bool) (J : KF R) (σ : St) : runK Try.prog call N f4c18 f4a18 J (f4e16 y0 y1 y2 y3) σ = if y3 = true then runK Try.prog call N f4c19 f4a19 (condC f4a18 J) (f4e16 y0 y1 y2 y3) σ else runK Try.prog call N f4c20 f4a20 (condC f4a18 J) (f4e16 y0 y1 y2 y3) σ := runK_cond' (o := Operand.tmp (47 : Nat)) (by kernel_rfl) (by kernel_rfl) (by kernel_rfl) (by kernel_rfl)
theorem f4n19 {R : Type} (call : CallF R) (N : Nat) (J : KF R) (e : Env) (σ : St) : runK Try.prog call N f4c19 f4a19 J e σ = runK Try.prog call N f4c21 f4a21 (seqC (fun K e σ => runK Try.prog call N f4c22 f4a22 K e σ) f4a19 J) e σ := runK_seq' (by kernel_rfl) (by kernel_rfl) (by kernel_rfl)
theorem f4r21_f4e16 {R : Type} (call : CallF R) (N : Nat) (y0 : Int) (y1 : Option (Nat × Nat)) (y2 : Option (Nat × Nat)) (y3 : Bool) (J : KF R) (σ : St) :
    runK Try.prog call N f4c21 f4a21 J (f4e16 y0 y1 y2 y3) σ =
if Option.isNone y1 = true then
  if Option.isNone y2 = true then
    call (19 : Nat) [] σ fun v0 v1 =>
      Option.bind (AV.toBool v0) fun v2 =>
        J Ex.normal (f4e17 y0 v2 y1 y2 y3 y1 (Option.isNone y1) true y2 (Option.isNone y2) (Option.isNone y2) true v2 v2) v1
  else J Ex.normal (f4e18 y0 false y1 y2 y3 y1 (Option.isNone y1) true y2 (Option.isNone y2) (Option.isNone y2) false false) σ
else J Ex.normal (f4e19 y0 false y1 y2 y3 y1 (Option.isNone y1) false false false false) σ := hide (by kernel_rfl)
theorem f4z19_f4e17 (y0 : Int) (y1 : Bool) (y2 : Option (Nat × Nat)) (y3 : Option (Nat × Nat)) (y4 : Bool) (y5 : Option (Nat × Nat)) (y6 : Bool) (y7 : Bool) (y8 : Option (Nat × Nat)) (y9 : Bool) (y10 : Bool) (y11 : Bool) (y12 : Bool) (y13 : Bool) : Ann.clr f4a19 (f4e17 y0 y1 y2 y3 y4 y5 y6 y7 y8 y9 y10 y11 y12 y13) = f4e9 y1 := hide (by kernel_rfl)
theorem f4y22_f4e9 {R : Type} (call : CallF R) (N : Nat) (y0 : Bool) (J : KF R) (σ : St) : runK Try.prog call N f4c22 f4a22 J (f4e9 y0) σ = J .ret (f4e9 y0) σ := runK_ret' (by kernel_rfl) (by kernel_rfl)
theorem f4z19_f4e18 (y0 : Int) (y1 : Bool) (y2 : Option (Nat × Nat)) (y3 : Option (Nat × Nat)) (y4 : Bool) (y5 : Option (Nat × Nat)) (y6 : Bool) (y7 : Bool) (y8 : Option (Nat × Nat)) (y9 : Bool) (y10 : Bool) (y11 : Bool) (y12 : Bool) : Ann.clr f4a19 (f4e18 y0 y1 y2 y3 y4 y5 y6 y7 y8 y9 y10 y11 y12) = f4e9 y1 := hide (by kernel_rfl)
theorem f4z19_f4e19 (y0 : Int) (y1 : Bool) (y2 : Option (Nat × Nat)) (y3 : Option (Nat × Nat)) (y4 : Bool) (y5 : Option (Nat × Nat)) (y6 : Bool) (y7 : Bool) (y8 : Bool) (y9 : Bool) (y10 : Bool) : Ann.clr f4a19 (f4e19 y0 y1 y2 y3 y4 y5 y6 y7 y8 y9 y10) = f4e9 y1 := hide (by kernel_rfl)
theorem f4n20 {R : Type} (call : CallF R) (N : Nat) (J : KF R) (e : Env) (σ : St) : runK Try.prog call N f4c20 f4a20 J e σ = J .normal e σ := runK_skip' (by kernel_rfl)
theorem f4z18_f4e16 (y0 : Int) (y1 : Option (Nat × Nat)) (y2 : Option (Nat × Nat)) (y3 : Bool) : Ann.clr f4a18 (f4e16 y0 y1 y2 y3) = f4e13 y0 y1 y2 := hide (by kernel_rfl)
theorem f4z15_f4e15 (y0 : Int) (y1 : Option (Nat × Nat)) (y2 : Option (Nat × Nat)) (y3 : Option (Nat × Nat)) (y4 : Bool) (y5 : Bool) (y6 : Option (Nat × Nat)) (y7 : Bool) (y8 : Bool) : Ann.clr f4a15 (f4e15 y0 y1 y2 y3 y4 y5 y6 y7 y8) = f4e16 y0 y1 y2 y8 := hide (by kernel_rfl)
theorem f4z14_f4e13 (y0 : Int) (y1 : Option (Nat × Nat)) (y2 : Option (Nat × Nat)) : Ann.clr f4a14 (f4e13 y0 y1 y2) = f4e13 y0 y1 y2 := hide (by kernel_rfl)
theorem f4n16 {R : Type} (call : CallF R) (N : Nat) (J : KF R) (e : Env) (σ : St) : runK Try.prog call N f4c16 f4a16 J e σ = runK Try.prog call N f4c23 f4a23 (seqC (fun K e σ => runK Try.prog call N f4c24 f4a24 K e σ) f4a16 J) e σ := runK_seq' (by kernel_rfl) (by kernel_rfl) (by kernel_rfl)
theorem f4r23_f4e13 {R : Type} (call : CallF R) (N : Nat) (y0 : Int) (y1 : Option (Nat × Nat)) (y2 : Option (Nat × Nat)) (J : KF R) (σ : St) :
    runK Try.prog call N f4c23 f4a23 J (f4e13 y0 y1 y2) σ =
call (21 : Nat) [AV.ptr y1, AV.int IntKind.i64 y0] σ fun v0 v1 =>
  Option.bind (AV.toTuple v0) fun v2 =>
    if List.length v2 = (2 : Nat) then
      Option.bind (List.head? v2) fun v3 =>
        Option.bind (AV.toAgg v3) fun v4 =>
          if List.length v4 = (3 : Nat) then
            Option.bind (List.head? v4) fun v5 =>
              Option.bind (AV.toStr v5) fun v6 =>
                Option.bind (List.head? (List.tail v4)) fun v7 =>
                  Option.bind (AV.toInt IntKind.i64 v7) fun v8 =>
                    Option.bind (List.head? (List.tail (List.tail v4))) fun v9 =>
                      Option.bind (AV.toSl (2 : Nat) v9) fun v10 =>
                        Option.bind (List.head? (List.tail v2)) fun v11 =>
                          Option.bind (AV.toBool v11) fun v12 =>
                            Option.bind
                              (St.st
                                (St.new v1
                                  (Blk.cells
                                    [AV.str (ByteArray.mk #[]), AV.int IntKind.i64 (0 : Int), AV.slice none (0 : Nat) (some (0 : Nat)) (2 : Nat)]
                                    true))
                                (St.next v1) (0 : Nat) [AV.str v6, AV.int IntKind.i64 v8, AV.slice (Sl.o v10) (Sl.len v10) (Sl.cap v10) (2 : Nat)])
                              fun v13 =>
                              J Ex.normal
                                (f4e20 y0 y1 y2 (St.next v1) v12 v6 v8 (Sl.o v10) (Sl.len v10) (Sl.cap v10) v12 y1 y0 v6 v8 (Sl.o v10) (Sl.len v10)
                                  (Sl.cap v10) v12 v6 v8 (Sl.o v10) (Sl.len v10) (Sl.cap v10) v12)
                                v13
          else none
    else none := hide (by kernel_rfl)
theorem f4z16_f4e20 (y0 : Int) (y1 : Option (Nat × Nat)) (y2 : Option (Nat × Nat)) (y3 : Nat) (y4 : Bool) (y5 : ByteArray) (y6 : Int) (y7 : Option (Nat × Nat)) (y8 : Nat) (y9 : Option Nat) (y10 : Bool) (y11 : Option (Nat × Nat)) (y12 : Int) (y13 : ByteArray) (y14 : Int) (y15 : Option (Nat × Nat)) (y16 : Nat) (y17 : Option Nat) (y18 : Bool) (y19 : ByteArray) (y20 : Int) (y21 : Option (Nat × Nat)) (y22 : Nat) (y23 : Option Nat) (y24 : Bool) : Ann.clr f4a16 (f4e20 y0 y1 y2 y3 y4 y5 y6 y7 y8 y9 y10 y11 y12 y13 y14 y15 y16 y17 y18 y19 y20 y21 y22 y23 y24) = f4e21 y0 y2 y3 y4 := hide (by kernel_rfl)
theorem f4n24 {R : Type} (call : CallF R) (N : Nat) (J : KF R) (e : Env) (σ : St) : runK Try.prog call N f4c24 f4a24 J e σ = runK Try.prog call N f4c25 f4a25 (seqC (fun K e σ => runK Try.prog call N f4c26 f4a26 K e σ) f4a24 J) e σ := runK_seq' (by kernel_rfl) (by kernel_rfl) (by kernel_rfl)
theorem f4r25_f4e21 {R : Type} (call : CallF R) (N : Nat) (y0 : Int) (y1 : Option (Nat × Nat)) (y2 : Nat) (y3 : Bool) (J : KF R) (σ : St) :
    runK Try.prog call N f4c25 f4a25 J (f4e21 y0 y1 y2 y3) σ =
call (21 : Nat) [AV.ptr y1, AV.int IntKind.i64 y0] σ fun v0 v1 =>
  Option.bind (AV.toTuple v0) fun v2 =>
    if List.length v2 = (2 : Nat) then
      Option.bind (List.head? v2) fun v3 =>
        Option.bind (AV.toAgg v3) fun v4 =>
          if List.length v4 = (3 : Nat) then
            Option.bind (List.head? v4) fun v5 =>
              Option.bind (AV.toStr v5) fun v6 =>
                Option.bind (List.head? (List.tail v4)) fun v7 =>
                  Option.bind (AV.toInt IntKind.i64 v7) fun v8 =>
                    Option.bind (List.head? (List.tail (List.tail v4))) fun v9 =>
                      Option.bind (AV.toSl (2 : Nat) v9) fun v10 =>
                        Option.bind (List.head? (List.tail v2)) fun v11 =>
                          Option.bind (AV.toBool v11) fun v12 =>
                            Option.bind
                              (St.st
                                (St.new v1
                                  (Blk.cells
                                    [AV.str (ByteArray.mk #[]), AV.int IntKind.i64 (0 : Int), AV.slice none (0 : Nat) (some (0 : Nat)) (2 : Nat)]
                                    true))
                                (St.next v1) (0 : Nat) [AV.str v6, AV.int IntKind.i64 v8, AV.slice (Sl.o v10) (Sl.len v10) (Sl.cap v10) (2 : Nat)])
                              fun v13 =>
                              J Ex.normal
                                (f4e22 y0 y1 y2 y3 (St.next v1) v12 v6 v8 (Sl.o v10) (Sl.len v10) (Sl.cap v10) v12 y1 y0 v6 v8 (Sl.o v10) (Sl.len v10)
                                  (Sl.cap v10) v12 v6 v8 (Sl.o v10) (Sl.len v10) (Sl.cap v10) v12)
                                v13
          else none
    else none := hide (by kernel_rfl)
theorem f4z24_f4e22 (y0 : Int) (y1 : Option (Nat × Nat)) (y2 : Nat) (y3 : Bool) (y4 : Nat) (y5 : Bool) (y6 : ByteArray) (y7 : Int) (y8 : Option (Nat × Nat)) (y9 : Nat) (y10 : Option Nat) (y11 : Bool) (y12 : Option (Nat × Nat)) (y13 : Int) (y14 : ByteArray) (y15 : Int) (y16 : Option (Nat × Nat)) (y17 : Nat) (y18 : Option Nat) (y19 : Bool) (y20 : ByteArray) (y21 : Int) (y22 : Option (Nat × Nat)) (y23 : Nat) (y24 : Option Nat) (y25 : Bool) : Ann.clr f4a24 (f4e22 y0 y1 y2 y3 y4 y5 y6 y7 y8 y9 y10 y11 y12 y13 y14 y15 y16 y17 y18 y19 y20 y21 y22 y23 y24 y25) = f4e23 y2 y3 y4 y5 := hide (by kernel_rfl)
theorem f4n26 {R : Type} (call : CallF R) (N : Nat) (J : KF R) (e : Env) (σ : St) : runK Try.prog call N f4c26 f4a26 J e σ = runK Try.prog call N f4c27 f4a27 (seqC (fun K e σ => runK Try.prog call N f4c28 f4a28 K e σ) f4a26 J) e σ := runK_seq' (by kernel_rfl) (by kernel_rfl) (by kernel_rfl)
theorem f4r27_f4e23 {R : Type} (call : CallF R) (N : Nat) (y0 : Nat) (y1 : Bool) (y2 : Nat) (y3 : Bool) (J : KF R) (σ : St) :
    runK Try.prog call N f4c27 f4a27 J (f4e23 y0 y1 y2 y3) σ =
if (!y1) = true then
  call (19 : Nat) [] σ fun v0 v1 => Option.bind (AV.toBool v0) fun v2 => J Ex.normal (f4e24 v2 y0 y1 y2 y3 y1 (!y1) true true true true true v2 v2) v1
else
  if (!y3) = true then
    call (19 : Nat) [] σ fun v0 v1 =>
      Option.bind (AV.toBool v0) fun v2 => J Ex.normal (f4e25 v2 y0 y1 y2 y3 y1 (!y1) false y3 (!y3) (!y3) true true true v2 v2) v1
  else
    Option.bind (St.ld σ y0 (0 : Nat)) fun v0 =>
      Option.bind (AV.toStr v0) fun v1 =>
        Option.bind (St.ld σ y2 (0 : Nat)) fun v2 =>
          Option.bind (AV.toStr v2) fun v3 =>
            if decide (v1 = v3) = true then
              call (19 : Nat) [] σ fun v4 v5 =>
                Option.bind (AV.toBool v4) fun v6 =>
                  J Ex.normal (f4e26 v6 y0 y1 y2 y3 y1 (!y1) false y3 (!y3) (!y3) false y0 v1 y2 v3 (decide (v1 = v3)) (decide (v1 = v3)) true v6 v6)
                    v5
            else
              J Ex.normal (f4e27 false y0 y1 y2 y3 y1 (!y1) false y3 (!y3) (!y3) false y0 v1 y2 v3 (decide (v1 = v3)) (decide (v1 = v3)) false false)
                σ := hide (by kernel_rfl)
theorem f4z26_f4e24 (y0 : Bool) (y1 : Nat) (y2 : Bool) (y3 : Nat) (y4 : Bool) (y5 : Bool) (y6 : Bool) (y7 : Bool) (y8 : Bool) (y9 : Bool) (y10 : Bool) (y11 : Bool) (y12 : Bool) (y13 : Bool) : Ann.clr f4a26 (f4e24 y0 y1 y2 y3 y4 y5 y6 y7 y8 y9 y10 y11 y12 y13) = f4e9 y0 := hide (by kernel_rfl)
theorem f4y28_f4e9 {R : Type} (call : CallF R) (N : Nat) (y0 : Bool) (J : KF R) (σ : St) : runK Try.prog call N f4c28 f4a28 J (f4e9 y0) σ = J .ret (f4e9 y0) σ := runK_ret' (by kernel_rfl) (by kernel_rfl)
theorem f4z26_f4e25 (y0 : Bool) (y1 : Nat) (y2 : Bool) (y3 : Nat) (y4 : Bool) (y5 : Bool) (y6 : Bool) (y7 : Bool) (y8 : Bool) (y9 : Bool) (y10 : Bool) (y11 : Bool) (y12 : Bool) (y13 : Bool) (y14 : Bool) (y15 : Bool) : Ann.clr f4a26 (f4e25 y0 y1 y2 y3 y4 y5 y6 y7 y8 y9 y10 y11 y12 y13 y14 y15) = f4e9 y0 := hide (by kernel_rfl)
theorem f4z26_f4e26 (y0 : Bool) (y1 : Nat) (y2 : Bool) (y3 : Nat) (y4 : Bool) (y5 : Bool) (y6 : Bool) (y7 : Bool) (y8 : Bool) (y9 : Bool) (y10 : Bool) (y11 : Bool) (y12 : Nat) (y13 : ByteArray) (y14 : Nat) (y15 : ByteArray) (y16 : Bool) (y17 : Bool) (y18 : Bool) (y19 : Bool) (y20 : Bool) : Ann.clr f4a26 (f4e26 y0 y1 y2 y3 y4 y5 y6 y7 y8 y9 y10 y11 y12 y13 y14 y15 y16 y17 y18 y19 y20) = f4e9 y0 := hide (by kernel_rfl)
theorem f4z26_f4e27 (y0 : Bool) (y1 : Nat) (y2 : Bool) (y3 : Nat) (y4 : Bool) (y5 : Bool) (y6 : Bool) (y7 : Bool) (y8 : Bool) (y9 : Bool) (y10 : Bool) (y11 : Bool) (y12 : Nat) (y13 : ByteArray) (y14 : Nat) (y15 : ByteArray) (y16 : Bool) (y17 : Bool) (y18 : Bool) (y19 : Bool) : Ann.clr f4a26 (f4e27 y0 y1 y2 y3 y4 y5 y6 y7 y8 y9 y10 y11 y12 y13 y14 y15 y16 y17 y18 y19) = f4e9 y0 := hide (by kernel_rfl)
theorem f4b_f4e9_r {R : Type} (y0 : Bool) (σ : St) (K : AV → St → Option R) : bodyC Try.prog f4rs K (Ex.ret) (f4e9 y0) σ =
K (AV.bool y0) σ := hide (by kernel_rfl)
attribute [go_sem] f4_eq f4n0 f4r1_f4e0 f4z0_f4e1 f4n2 f4n3 f4r5_f4e2 f4z3_f4e3 f4x6_f4e7 f4n7 f4r9_f4e7 f4z7_f4e8 f4y10_f4e9 f4n8 f4z6_f4e7 f4z3_f4e4 f4z3_f4e5 f4z3_f4e6 f4z2_f4e2 f4n4 f4r11_f4e2 f4z4_f4e10 f4n12 f4r13_f4e11 f4z12_f4e12 f4n14 f4n15 f4r17_f4e13 f4z15_f4e14 f4x18_f4e16 f4n19 f4r21_f4e16 f4z19_f4e17 f4y22_f4e9 f4z19_f4e18 f4z19_f4e19 f4n20 f4z18_f4e16 f4z15_f4e15 f4z14_f4e13 f4n16 f4r23_f4e13 f4z16_f4e20 f4n24 f4r25_f4e21 f4z24_f4e22 f4n26 f4r27_f4e23 f4z26_f4e24 f4y28_f4e9 f4z26_f4e25 f4z26_f4e26 f4z26_f4e27 f4b_f4e9_r

noncomputable def f20rs : List ResultVar := [ResultVar.tmp (8 : Nat)]
noncomputable def f20c0 : Code := subCode [] (bodyOf Try.prog 20)
def f20a0 : Ann := subAnn [] ann20
noncomputable def f20c1 : Code := subCode [0] (bodyOf Try.prog 20)
def f20a1 : Ann := subAnn [0] ann20
noncomputable def f20c2 : Code := subCode [1] (bodyOf Try.prog 20)
def f20a2 : Ann := subAnn [1] ann20
noncomputable def f20c3 : Code := subCode [1, 0] (bodyOf Try.prog 20)
def f20a3 : Ann := subAnn [1, 0] ann20
noncomputable def f20c4 : Code := subCode [1, 1] (bodyOf Try.prog 20)
def f20a4 : Ann := subAnn [1, 1] ann20
noncomputable def f20c5 : Code := subCode [1, 1, 0] (bodyOf Try.prog 20)
def f20a5 : Ann := subAnn [1, 1, 0] ann20
noncomputable def f20c6 : Code := subCode [1, 1, 1] (bodyOf Try.prog 20)
def f20a6 : Ann := subAnn [1, 1, 1] ann20
noncomputable def f20c7 : Code := subCode [1, 1, 0, 0] (bodyOf Try.prog 20)
def f20a7 : Ann := subAnn [1, 1, 0, 0] ann20
noncomputable def f20c8 : Code := subCode [1, 1, 0, 1] (bodyOf Try.prog 20)
def f20a8 : Ann := subAnn [1, 1, 0, 1] ann20
noncomputable def f20c9 : Code := subCode [1, 1, 0, 1, 0] (bodyOf Try.prog 20)
def f20a9 : Ann := subAnn [1, 1, 0, 1, 0] ann20
noncomputable def f20c10 : Code := subCode [1, 1, 0, 1, 1] (bodyOf Try.prog 20)
def f20a10 : Ann := subAnn [1, 1, 0, 1, 1] ann20
noncomputable def f20c11 : Code := subCode [1, 1, 0, 1, 0, 0] (bodyOf Try.prog 20)
def f20a11 : Ann := subAnn [1, 1, 0, 1, 0, 0] ann20
noncomputable def f20c12 : Code := subCode [1, 1, 0, 1, 0, 1] (bodyOf Try.prog 20)
def f20a12 : Ann := subAnn [1, 1, 0, 1, 0, 1] ann20
noncomputable def f20c13 : Code := subCode [1, 1, 1, 0] (bodyOf Try.prog 20)
def f20a13 : Ann := subAnn [1, 1, 1, 0] ann20
noncomputable def f20c14 : Code := subCode [1, 1, 1, 1] (bodyOf Try.prog 20)
def f20a14 : Ann := subAnn [1, 1, 1, 1] ann20
noncomputable def f20c15 : Code := subCode [1, 1, 1, 0, 0] (bodyOf Try.prog 20)
def f20a15 : Ann := subAnn [1, 1, 1, 0, 0] ann20
noncomputable def f20c16 : Code := subCode [1, 1, 1, 0, 1] (bodyOf Try.prog 20)
def f20a16 : Ann := subAnn [1, 1, 1, 0, 1] ann20
noncomputable def f20c17 : Code := subCode [1, 1, 1, 0, 1, 0] (bodyOf Try.prog 20)
def f20a17 : Ann := subAnn [1, 1, 1, 0, 1, 0] ann20
noncomputable def f20c18 : Code := subCode [1, 1, 1, 0, 1, 0, 0] (bodyOf Try.prog 20)
def f20a18 : Ann := subAnn [1, 1, 1, 0, 1, 0, 0] ann20
noncomputable def f20c19 : Code := subCode [1, 1, 1, 0, 1, 0, 0, 0] (bodyOf Try.prog 20)
def f20a19 : Ann := subAnn [1, 1, 1, 0, 1, 0, 0, 0] ann20
noncomputable def f20c20 : Code := subCode [1, 1, 1, 0, 1, 0, 0, 1] (bodyOf Try.prog 20)
def f20a20 : Ann := subAnn [1, 1, 1, 0, 1, 0, 0, 1] ann20
noncomputable def f20c21 : Code := subCode [1, 1, 1, 0, 1, 0, 0, 0, 0] (bodyOf Try.prog 20)
def f20a21 : Ann := subAnn [1, 1, 1, 0, 1, 0, 0, 0, 0] ann20
noncomputable def f20c22 : Code := subCode [1, 1, 1, 0, 1, 0, 0, 0, 1] (bodyOf Try.prog 20)
def f20a22 : Ann := subAnn [1, 1, 1, 0, 1, 0, 0, 0, 1] ann20
noncomputable def f20c23 : Code := subCode [1, 1, 1, 0, 1, 0, 0, 0, 1, 0] (bodyOf Try.prog 20)
def f20a23 : Ann := subAnn [1, 1, 1, 0, 1, 0, 0, 0, 1, 0] ann20
noncomputable def f20c24 : Code := subCode [1, 1, 1, 0, 1, 0, 0, 0, 1, 1] (bodyOf Try.prog 20)
def f20a24 : Ann := subAnn [1, 1, 1, 0, 1, 0, 0, 0, 1, 1] ann20
noncomputable def f20c25 : Code := subCode [1, 1, 1, 0, 1, 0, 0, 1, 0] (bodyOf Try.prog 20)
def f20a25 : Ann := subAnn [1, 1, 1, 0, 1, 0, 0, 1, 0] ann20
noncomputable def f20c26 : Code := subCode [1, 1, 1, 0, 1, 0, 0, 1, 1] (bodyOf Try.prog 20)
def f20a26 : Ann := subAnn [1, 1, 1, 0, 1, 0, 0, 1, 1] ann20
noncomputable def f20c27 : Code := subCode [1, 1, 1, 0, 1, 0, 0, 1, 0, 0] (bodyOf Try.prog 20)
def f20a27 : Ann := subAnn [1, 1, 1, 0, 1, 0, 0, 1, 0, 0] ann20
noncomputable def f20c28 : Code := subCode [1, 1, 1, 0, 1, 0, 0, 1, 0, 0, 0] (bodyOf Try.prog 20)
def f20a28 : Ann := subAnn [1, 1, 1, 0, 1, 0, 0, 1, 0, 0, 0] ann20
noncomputable def f20c29 : Code := subCode [1, 1, 1, 0, 1, 0, 0, 1, 0, 0, 1] (bodyOf Try.prog 20)
def f20a29 : Ann := subAnn [1, 1, 1, 0, 1, 0, 0, 1, 0, 0, 1] ann20
noncomputable def f20c30 : Code := subCode [1, 1, 1, 0, 1, 0, 0, 1, 0, 0, 1, 0] (bodyOf Try.prog 20)
def f20a30 : Ann := subAnn [1, 1, 1, 0, 1, 0, 0, 1, 0, 0, 1, 0] ann20
noncomputable def f20c31 : Code := subCode [1, 1, 1, 0, 1, 0, 0, 1, 0, 0, 1, 1] (bodyOf Try.prog 20)
def f20a31 : Ann := subAnn [1, 1, 1, 0, 1, 0, 0, 1, 0, 0, 1, 1] ann20
noncomputable def f20c32 : Code := subCode [1, 1, 1, 0, 1, 0, 0, 1, 0, 0, 1, 0, 0] (bodyOf Try.prog 20)
def f20a32 : Ann := subAnn [1, 1, 1, 0, 1, 0, 0, 1, 0, 0, 1, 0, 0] ann20
noncomputable def f20c33 : Code := subCode [1, 1, 1, 0, 1, 0, 0, 1, 0, 0, 1, 0, 1] (bodyOf Try.prog 20)
def f20a33 : Ann := subAnn [1, 1, 1, 0, 1, 0, 0, 1, 0, 0, 1, 0, 1] ann20
noncomputable def f20c34 : Code := subCode [1, 1, 1, 0, 1, 0, 0, 1, 0, 0, 1, 0, 1, 0] (bodyOf Try.prog 20)
def f20a34 : Ann := subAnn [1, 1, 1, 0, 1, 0, 0, 1, 0, 0, 1, 0, 1, 0] ann20
noncomputable def f20c35 : Code := subCode [1, 1, 1, 0, 1, 0, 0, 1, 0, 0, 1, 0, 1, 1] (bodyOf Try.prog 20)
def f20a35 : Ann := subAnn [1, 1, 1, 0, 1, 0, 0, 1, 0, 0, 1, 0, 1, 1] ann20
noncomputable def f20c36 : Code := subCode [1, 1, 1, 0, 1, 0, 0, 1, 0, 0, 1, 1, 0] (bodyOf Try.prog 20)
def f20a36 : Ann := subAnn [1, 1, 1, 0, 1, 0, 0, 1, 0, 0, 1, 1, 0] ann20
noncomputable def f20c37 : Code := subCode [1, 1, 1, 0, 1, 0, 0, 1, 0, 0, 1, 1, 1] (bodyOf Try.prog 20)
def f20a37 : Ann := subAnn [1, 1, 1, 0, 1, 0, 0, 1, 0, 0, 1, 1, 1] ann20
noncomputable def f20c38 : Code := subCode [1, 1, 1, 0, 1, 0, 0, 1, 0, 0, 1, 1, 1, 0] (bodyOf Try.prog 20)
def f20a38 : Ann := subAnn [1, 1, 1, 0, 1, 0, 0, 1, 0, 0, 1, 1, 1, 0] ann20
noncomputable def f20c39 : Code := subCode [1, 1, 1, 0, 1, 0, 0, 1, 0, 0, 1, 1, 1, 1] (bodyOf Try.prog 20)
def f20a39 : Ann := subAnn [1, 1, 1, 0, 1, 0, 0, 1, 0, 0, 1, 1, 1, 1] ann20
noncomputable def f20c40 : Code := subCode [1, 1, 1, 1, 0] (bodyOf Try.prog 20)
def f20a40 : Ann := subAnn [1, 1, 1, 1, 0] ann20
noncomputable def f20c41 : Code := subCode [1, 1, 1, 1, 1] (bodyOf Try.prog 20)
def f20a41 : Ann := subAnn [1, 1, 1, 1, 1] ann20
noncomputable def f20L17 {R : Type} (call : CallF R) (N : Nat) : KF R → Env → St → Option R := fun K e σ => runK Try.prog call N f20c18 f20a18 K e σ
def f20e0 (y0 : Int) (y1 : Int) (y2 : Int) (y3 : Int) (y4 : Int) (y5 : Option (Nat × Nat)) (y6 : Nat) (y7 : Option Nat) (y8 : Option (Nat × Nat)) (y9 : Nat) (y10 : Option Nat) (y11 : Option (Nat × Nat)) (y12 : Nat) (y13 : Option Nat) (y14 : Option (Nat × Nat)) (y15 : Nat) (y16 : Option Nat) : Env := AV.agg [AV.int IntKind.i64 y0, AV.int IntKind.i64 y1, AV.int IntKind.i64 y2] :: AV.int IntKind.i64 y3 :: AV.agg [AV.int IntKind.i64 y4, AV.slice y5 y6 y7 (1 : Nat), AV.slice y8 y9 y10 (1 : Nat), AV.slice y11 y12 y13 (1 : Nat)] :: AV.slice y14 y15 y16 (1 : Nat) :: Env.sp 51 []
def f20e1 (y0 : Int) (y1 : Int) (y2 : Int) (y3 : Int) (y4 : Int) (y5 : Option (Nat × Nat)) (y6 : Nat) (y7 : Option Nat) (y8 : Option (Nat × Nat)) (y9 : Nat) (y10 : Option Nat) (y11 : Option (Nat × Nat)) (y12 : Nat) (y13 : Option Nat) (y14 : Option (Nat × Nat)) (y15 : Nat) (y16 : Option Nat) (y17 : Nat) (y18 : Nat) (y19 : Option (Nat × Nat)) : Env := AV.agg [AV.int IntKind.i64 y0, AV.int IntKind.i64 y1, AV.int IntKind.i64 y2] :: AV.int IntKind.i64 y3 :: AV.agg [AV.int IntKind.i64 y4, AV.slice y5 y6 y7 (1 : Nat), AV.slice y8 y9 y10 (1 : Nat), AV.slice y11 y12 y13 (1 : Nat)] :: AV.slice y14 y15 y16 (1 : Nat) :: AV.ptr (some (y17, (0 : Nat))) :: Env.sp 1 (AV.ptr (some (y18, (0 : Nat))) :: Env.sp 1 (AV.ptr y19 :: Env.sp 46 []))
def f20e2 (y0 : Int) (y1 : Option (Nat × Nat)) (y2 : Nat) (y3 : Option Nat) (y4 : Nat) (y5 : Nat) : Env := Env.sp 1 (AV.int IntKind.i64 y0 :: Env.sp 1 (AV.slice y1 y2 y3 (1 : Nat) :: AV.ptr (some (y4, (0 : Nat))) :: Env.sp 1 (AV.ptr (some (y5, (0 : Nat))) :: Env.sp 48 [])))
def f20e3 (y0 : Int) (y1 : Option (Nat × Nat)) (y2 : Nat) (y3 : Option Nat) (y4 : Nat) (y5 : Nat) (y6 : Option (Nat × Nat)) (y7 : Int) (y8 : Option (Nat × Nat)) (y9 : Int) (y10 : Nat) (y11 : Int) (y12 : Nat) (y13 : Int) (y14 : Nat) (y15 : Int) (y16 : Option (Nat × Nat)) (y17 : Int) (y18 : Option (Nat × Nat)) (y19 : Int) : Env := Env.sp 1 (AV.int IntKind.i64 y0 :: Env.sp 1 (AV.slice y1 y2 y3 (1 : Nat) :: AV.ptr (some (y4, (0 : Nat))) :: Env.sp 1 (AV.ptr (some (y5, (0 : Nat))) :: Env.sp 2 (AV.ptr y6 :: AV.int IntKind.i64 y7 :: Env.sp 2 (AV.tuple [AV.ptr y8, AV.int IntKind.i64 y9] :: AV.ptr (some (y10, (0 : Nat))) :: AV.int IntKind.i64 y11 :: AV.ptr (some (y12, (1 : Nat))) :: AV.int IntKind.i64 y13 :: AV.ptr (some (y14, (2 : Nat))) :: AV.int IntKind.i64 y15 :: AV.tuple [AV.ptr y16, AV.int IntKind.i64 y17] :: AV.ptr y18 :: AV.int IntKind.i64 y19 :: Env.sp 32 [])))))
def f20e4 (y0 : Int) (y1 : Option (Nat × Nat)) (y2 : Nat) (y3 : Option Nat) (y4 : Nat) (y5 : Nat) (y6 : Option (Nat × Nat)) (y7 : Int) : Env := Env.sp 1 (AV.int IntKind.i64 y0 :: Env.sp 1 (AV.slice y1 y2 y3 (1 : Nat) :: AV.ptr (some (y4, (0 : Nat))) :: Env.sp 1 (AV.ptr (some (y5, (0 : Nat))) :: Env.sp 2 (AV.ptr y6 :: AV.int IntKind.i64 y7 :: Env.sp 44 []))))
def f20e5 (y0 : Int) (y1 : Option (Nat × Nat)) (y2 : Nat) (y3 : Option Nat) (y4 : Nat) (y5 : Nat) (y6 : Option (Nat × Nat)) (y7 : Int) (y8 : Int) (y9 : Bool) : Env := Env.sp 1 (AV.int IntKind.i64 y0 :: Env.sp 1 (AV.slice y1 y2 y3 (1 : Nat) :: AV.ptr (some (y4, (0 : Nat))) :: Env.sp 1 (AV.ptr (some (y5, (0 : Nat))) :: Env.sp 2 (AV.ptr y6 :: AV.int IntKind.i64 y7 :: Env.sp 12 (AV.int IntKind.i64 y8 :: AV.bool y9 :: Env.sp 30 [])))))
def f20e6 (y0 : Int) (y1 : Option (Nat × Nat)) (y2 : Nat) (y3 : Option Nat) (y4 : Nat) (y5 : Nat) (y6 : Option (Nat × Nat)) (y7 : Bool) : Env := Env.sp 1 (AV.int IntKind.i64 y0 :: Env.sp 1 (AV.slice y1 y2 y3 (1 : Nat) :: AV.ptr (some (y4, (0 : Nat))) :: Env.sp 1 (AV.ptr (some (y5, (0 : Nat))) :: Env.sp 2 (AV.ptr y6 :: Env.sp 14 (AV.bool y7 :: Env.sp 30 [])))))
def f20e7 (y0 : Int) (y1 : Option (Nat × Nat)) (y2 : Nat) (y3 : Option Nat) (y4 : Nat) (y5 : Nat) (y6 : Option (Nat × Nat)) (y7 : Option (Nat × Nat)) (y8 : Bool) : Env := Env.sp 1 (AV.int IntKind.i64 y0 :: Env.sp 1 (AV.slice y1 y2 y3 (1 : Nat) :: AV.ptr (some (y4, (0 : Nat))) :: Env.sp 1 (AV.ptr (some (y5, (0 : Nat))) :: Env.sp 1 (AV.ptr y6 :: AV.ptr y7 :: Env.sp 14 (AV.bool y8 :: Env.sp 30 [])))))
def f20e8 (y0 : Option (Nat × Nat)) : Env := Env.sp 8 (AV.ptr y0 :: Env.sp 46 [])
def f20e9 (y0 : Int) (y1 : Option (Nat × Nat)) (y2 : Nat) (y3 : Option Nat) (y4 : Nat) (y5 : Nat) (y6 : Option (Nat × Nat)) : Env := Env.sp 1 (AV.int IntKind.i64 y0 :: Env.sp 1 (AV.slice y1 y2 y3 (1 : Nat) :: AV.ptr (some (y4, (0 : Nat))) :: Env.sp 1 (AV.ptr (some (y5, (0 : Nat))) :: Env.sp 2 (AV.ptr y6 :: Env.sp 45 []))))
def f20e10 (y0 : Int) (y1 : Option (Nat × Nat)) (y2 : Nat) (y3 : Option Nat) (y4 : Nat) (y5 : Nat) (y6 : Option (Nat × Nat)) (y7 : Int) : Env := Env.sp 1 (AV.int IntKind.i64 y0 :: Env.sp 1 (AV.slice y1 y2 y3 (1 : Nat) :: AV.ptr (some (y4, (0 : Nat))) :: Env.sp 1 (AV.ptr (some (y5, (0 : Nat))) :: Env.sp 2 (AV.ptr y6 :: Env.sp 1 (AV.int IntKind.i64 y7 :: Env.sp 43 [])))))
def f20e11 (y0 : Int) (y1 : Option (Nat × Nat)) (y2 : Nat) (y3 : Option Nat) (y4 : Nat) (y5 : Nat) (y6 : Option (Nat × Nat)) (y7 : Int) (y8 : Int) (y9 : Nat) (y10 : Int) (y11 : Int) (y12 : Bool) : Env := Env.sp 1 (AV.int IntKind.i64 y0 :: Env.sp 1 (AV.slice y1 y2 y3 (1 : Nat) :: AV.ptr (some (y4, (0 : Nat))) :: Env.sp 1 (AV.ptr (some (y5, (0 : Nat))) :: Env.sp 2 (AV.ptr y6 :: Env.sp 1 (AV.int IntKind.i64 y7 :: Env.sp 13 (AV.int IntKind.i64 y8 :: AV.ptr (some (y9, (1 : Nat))) :: AV.int IntKind.i64 y10 :: AV.int IntKind.i64 y11 :: AV.bool y12 :: Env.sp 25 []))))))
def f20e12 (y0 : Int) (y1 : Option (Nat × Nat)) (y2 : Nat) (y3 : Option Nat) (y4 : Nat) (y5 : Nat) (y6 : Option (Nat × Nat)) (y7 : Int) (y8 : Bool) : Env := Env.sp 1 (AV.int IntKind.i64 y0 :: Env.sp 1 (AV.slice y1 y2 y3 (1 : Nat) :: AV.ptr (some (y4, (0 : Nat))) :: Env.sp 1 (AV.ptr (some (y5, (0 : Nat))) :: Env.sp 2 (AV.ptr y6 :: Env.sp 1 (AV.int IntKind.i64 y7 :: Env.sp 17 (AV.bool y8 :: Env.sp 25 []))))))
def f20e13 (y0 : Option (Nat × Nat)) : Env := Env.sp 9 (AV.ptr y0 :: Env.sp 45 [])
def f20e14 (y0 : Int) (y1 : Option (Nat × Nat)) (y2 : Nat) (y3 : Option Nat) (y4 : Nat) (y5 : Nat) (y6 : Option (Nat × Nat)) (y7 : Int) (y8 : Option (Nat × Nat)) (y9 : Nat) (y10 : Option Nat) (y11 : Nat) (y12 : Option (Nat × Nat)) (y13 : Nat) (y14 : Option Nat) : Env := Env.sp 1 (AV.int IntKind.i64 y0 :: Env.sp 1 (AV.slice y1 y2 y3 (1 : Nat) :: AV.ptr (some (y4, (0 : Nat))) :: Env.sp 1 (AV.ptr (some (y5, (0 : Nat))) :: Env.sp 2 (AV.ptr y6 :: Env.sp 1 (AV.int IntKind.i64 y7 :: AV.slice y8 y9 y10 (1 : Nat) :: Env.sp 19 (AV.ptr (some (y11, (1 : Nat))) :: AV.slice y12 y13 y14 (1 : Nat) :: Env.sp 21 []))))))
def f20e15 (y0 : Int) (y1 : Option (Nat × Nat)) (y2 : Nat) (y3 : Option Nat) (y4 : Nat) (y5 : Nat) (y6 : Option (Nat × Nat)) (y7 : Int) (y8 : Option (Nat × Nat)) (y9 : Nat) (y10 : Option Nat) : Env := Env.sp 1 (AV.int IntKind.i64 y0 :: Env.sp 1 (AV.slice y1 y2 y3 (1 : Nat) :: AV.ptr (some (y4, (0 : Nat))) :: Env.sp 1 (AV.ptr (some (y5, (0 : Nat))) :: Env.sp 2 (AV.ptr y6 :: Env.sp 1 (AV.int IntKind.i64 y7 :: AV.slice y8 y9 y10 (1 : Nat) :: Env.sp 42 [])))))
def f20e16 (y0 : Int) (y1 : Option (Nat × Nat)) (y2 : Nat) (y3 : Option Nat) (y4 : Nat) (y5 : Nat) (y6 : Option (Nat × Nat)) (y7 : Int) (y8 : Option (Nat × Nat)) (y9 : Nat) (y10 : Option Nat) (y11 : Nat) (y12 : Int) (y13 : Nat) (y14 : Int) (y15 : Int) (y16 : Bool) : Env := Env.sp 1 (AV.int IntKind.i64 y0 :: Env.sp 1 (AV.slice y1 y2 y3 (1 : Nat) :: AV.ptr (some (y4, (0 : Nat))) :: Env.sp 1 (AV.ptr (some (y5, (0 : Nat))) :: Env.sp 2 (AV.ptr y6 :: Env.sp 1 (AV.int IntKind.i64 y7 :: AV.slice y8 y9 y10 (1 : Nat) :: Env.sp 21 (AV.ptr (some (y11, (0 : Nat))) :: AV.int IntKind.i64 y12 :: AV.ptr (some (y13, (1 : Nat))) :: AV.int IntKind.i64 y14 :: AV.int IntKind.i64 y15 :: AV.bool y16 :: Env.sp 15 []))))))
def f20e17 (y0 : Int) (y1 : Option (Nat × Nat)) (y2 : Nat) (y3 : Option Nat) (y4 : Nat) (y5 : Nat) (y6 : Option (Nat × Nat)) (y7 : Int) (y8 : Option (Nat × Nat)) (y9 : Nat) (y10 : Option Nat) (y11 : Bool) : Env := Env.sp 1 (AV.int IntKind.i64 y0 :: Env.sp 1 (AV.slice y1 y2 y3 (1 : Nat) :: AV.ptr (some (y4, (0 : Nat))) :: Env.sp 1 (AV.ptr (some (y5, (0 : Nat))) :: Env.sp 2 (AV.ptr y6 :: Env.sp 1 (AV.int IntKind.i64 y7 :: AV.slice y8 y9 y10 (1 : Nat) :: Env.sp 26 (AV.bool y11 :: Env.sp 15 []))))))
def f20e18 (y0 : Int) (y1 : Option (Nat × Nat)) (y2 : Nat) (y3 : Option Nat) (y4 : Nat) (y5 : Nat) (y6 : Option (Nat × Nat)) (y7 : Int) (y8 : Option (Nat × Nat)) (y9 : Nat) (y10 : Option Nat) (y11 : Bool) (y12 : Option (Nat × Nat)) (y13 : Nat) (y14 : Option Nat) : Env := Env.sp 1 (AV.int IntKind.i64 y0 :: Env.sp 1 (AV.slice y1 y2 y3 (1 : Nat) :: AV.ptr (some (y4, (0 : Nat))) :: Env.sp 1 (AV.ptr (some (y5, (0 : Nat))) :: Env.sp 2 (AV.ptr y6 :: Env.sp 1 (AV.int IntKind.i64 y7 :: AV.slice y8 y9 y10 (1 : Nat) :: Env.sp 26 (AV.bool y11 :: AV.slice y12 y13 y14 (1 : Nat) :: Env.sp 14 []))))))
def f20e19 (y0 : Int) (y1 : Option (Nat × Nat)) (y2 : Nat) (y3 : Option Nat) (y4 : Nat) (y5 : Nat) (y6 : Option (Nat × Nat)) (y7 : Int) (y8 : Option (Nat × Nat)) (y9 : Nat) (y10 : Option Nat) (y11 : Int) (y12 : Option (Nat × Nat)) (y13 : Nat) (y14 : Option Nat) (y15 : Int) (y16 : Bool) : Env := Env.sp 1 (AV.int IntKind.i64 y0 :: Env.sp 1 (AV.slice y1 y2 y3 (1 : Nat) :: AV.ptr (some (y4, (0 : Nat))) :: Env.sp 1 (AV.ptr (some (y5, (0 : Nat))) :: Env.sp 2 (AV.ptr y6 :: Env.sp 1 (AV.int IntKind.i64 y7 :: AV.slice y8 y9 y10 (1 : Nat) :: Env.sp 28 (AV.int IntKind.i64 y11 :: AV.slice y12 y13 y14 (1 : Nat) :: AV.int IntKind.i64 y15 :: AV.bool y16 :: Env.sp 10 []))))))
def f20e20 (y0 : Int) (y1 : Option (Nat × Nat)) (y2 : Nat) (y3 : Option Nat) (y4 : Nat) (y5 : Nat) (y6 : Option (Nat × Nat)) (y7 : Int) (y8 : Option (Nat × Nat)) (y9 : Nat) (y10 : Option Nat) (y11 : Bool) : Env := Env.sp 1 (AV.int IntKind.i64 y0 :: Env.sp 1 (AV.slice y1 y2 y3 (1 : Nat) :: AV.ptr (some (y4, (0 : Nat))) :: Env.sp 1 (AV.ptr (some (y5, (0 : Nat))) :: Env.sp 2 (AV.ptr y6 :: Env.sp 1 (AV.int IntKind.i64 y7 :: AV.slice y8 y9 y10 (1 : Nat) :: Env.sp 31 (AV.bool y11 :: Env.sp 10 []))))))
def f20e21 (y0 : Int) (y1 : Option (Nat × Nat)) (y2 : Nat) (y3 : Option Nat) (y4 : Nat) (y5 : Nat) (y6 : Option (Nat × Nat)) (y7 : Int) (y8 : Option (Nat × Nat)) (y9 : Nat) (y10 : Option Nat) (y11 : Bool) (y12 : Option (Nat × Nat)) (y13 : Int) (y14 : Int) (y15 : Option (Nat × Nat)) (y16 : Nat) (y17 : Option Nat) (y18 : Int) (y19 : Option (Nat × Nat)) (y20 : ByteArray) (y21 : ByteArray) (y22 : Bool) (y23 : Int) : Env := Env.sp 1 (AV.int IntKind.i64 y0 :: Env.sp 1 (AV.slice y1 y2 y3 (1 : Nat) :: AV.ptr (some (y4, (0 : Nat))) :: Env.sp 1 (AV.ptr (some (y5, (0 : Nat))) :: Env.sp 2 (AV.ptr y6 :: Env.sp 1 (AV.int IntKind.i64 y7 :: AV.slice y8 y9 y10 (1 : Nat) :: Env.sp 31 (AV.bool y11 :: AV.ptr y12 :: AV.int IntKind.i64 y13 :: AV.int IntKind.i64 y14 :: AV.slice y15 y16 y17 (1 : Nat) :: AV.int IntKind.i64 y18 :: AV.ptr y19 :: AV.str y20 :: AV.str y21 :: AV.tuple [AV.bool y22, AV.int IntKind.i64 y23] :: Env.sp 1 []))))))
def f20e22 (y0 : Int) (y1 : Option (Nat × Nat)) (y2 : Nat) (y3 : Option Nat) (y4 : Nat) (y5 : Nat) (y6 : Option (Nat × Nat)) (y7 : Int) (y8 : Int) (y9 : Int) : Env := Env.sp 1 (AV.int IntKind.i64 y0 :: Env.sp 1 (AV.slice y1 y2 y3 (1 : Nat) :: AV.ptr (some (y4, (0 : Nat))) :: Env.sp 1 (AV.ptr (some (y5, (0 : Nat))) :: Env.sp 2 (AV.ptr y6 :: Env.sp 1 (AV.int IntKind.i64 y7 :: Env.sp 18 (AV.int IntKind.i64 y8 :: AV.int IntKind.i64 y9 :: Env.sp 23 []))))))
def f20e23 (y0 : Option (Nat × Nat)) (y1 : Option (Nat × Nat)) (y2 : Option (Nat × Nat)) : Env := Env.sp 8 (AV.ptr y0 :: AV.ptr y1 :: Env.sp 44 (AV.ptr y2 :: []))

/- function 20 -/
theorem f20_eq {R : Type} (call : CallF R) (N : Nat) (y0 : Int) (y1 : Int) (y2 : Int) (y3 : Int) (y4 : Int) (y5 : Option (Nat × Nat)) (y6 : Nat) (y7 : Option Nat) (y8 : Option (Nat × Nat)) (y9 : Nat) (y10 : Option Nat) (y11 : Option (Nat × Nat)) (y12 : Nat) (y13 : Option Nat) (y14 : Option (Nat × Nat)) (y15 : Nat) (y16 : Option Nat) (σ : St) (K : AV → St → Option R) :
    bodyK Try.prog call N ann 20 [AV.agg [AV.int IntKind.i64 y0, AV.int IntKind.i64 y1, AV.int IntKind.i64 y2], AV.int IntKind.i64 y3,
  AV.agg [AV.int IntKind.i64 y4, AV.slice y5 y6 y7 (1 : Nat), AV.slice y8 y9 y10 (1 : Nat), AV.slice y11 y12 y13 (1 : Nat)],
  AV.slice y14 y15 y16 (1 : Nat)] σ K = runK Try.prog call N f20c0 f20a0 (bodyC Try.prog f20rs K) (f20e0 y0 y1 y2 y3 y4 y5 y6 y7 y8 y9 y10 y11 y12 y13 y14 y15 y16) σ := bodyK_of (fn := ((Try.prog.funcs[20]?).get rfl)) (by kernel_rfl) (by kernel_rfl) (by kernel_rfl) (by kernel_rfl) (by kernel_rfl) (by kernel_rfl)
theorem f20n0 {R : Type} (call : CallF R) (N : Nat) (J : KF R) (e : Env) (σ : St) : runK Try.prog call N f20c0 f20a0 J e σ = runK Try.prog call N f20c1 f20a1 (seqC (fun K e σ => runK Try.prog call N f20c2 f20a2 K e σ) f20a0 J) e σ := runK_seq' (by kernel_rfl) (by kernel_rfl) (by kernel_rfl)
theorem f20r1_f20e0 {R : Type} (call : CallF R) (N : Nat) (y0 : Int) (y1 : Int) (y2 : Int) (y3 : Int) (y4 : Int) (y5 : Option (Nat × Nat)) (y6 : Nat) (y7 : Option Nat) (y8 : Option (Nat × Nat)) (y9 : Nat) (y10 : Option Nat) (y11 : Option (Nat × Nat)) (y12 : Nat) (y13 : Option Nat) (y14 : Option (Nat × Nat)) (y15 : Nat) (y16 : Option Nat) (J : KF R) (σ : St) :
    runK Try.prog call N f20c1 f20a1 J (f20e0 y0 y1 y2 y3 y4 y5 y6 y7 y8 y9 y10 y11 y12 y13 y14 y15 y16) σ =
J Ex.normal
  (f20e1 y0 y1 y2 y3 y4 y5 y6 y7 y8 y9 y10 y11 y12 y13 y14 y15 y16 (St.next σ)
    (St.next (St.new σ (Blk.cells [AV.int IntKind.i64 y0, AV.int IntKind.i64 y1, AV.int IntKind.i64 y2] true))) none)
  (St.new (St.new σ (Blk.cells [AV.int IntKind.i64 y0, AV.int IntKind.i64 y1, AV.int IntKind.i64 y2] true))
    (Blk.cells [AV.int IntKind.i64 y4, AV.slice y5 y6 y7 (1 : Nat), AV.slice y8 y9 y10 (1 : Nat), AV.slice y11 y12 y13 (1 : Nat)] true)) := hide (by kernel_rfl)
theorem f20z0_f20e1 (y0 : Int) (y1 : Int) (y2 : Int) (y3 : Int) (y4 : Int) (y5 : Option (Nat × Nat)) (y6 : Nat) (y7 : Option Nat) (y8 : Option (Nat × Nat)) (y9 : Nat) (y10 : Option Nat) (y11 : Option (Nat × Nat)) (y12 : Nat) (y13 : Option Nat) (y14 : Option (Nat × Nat)) (y15 : Nat) (y16 : Option Nat) (y17 : Nat) (y18 : Nat) (y19 : Option (Nat × Nat)) : Ann.clr f20a0 (f20e1 y0 y1 y2 y3 y4 y5 y6 y7 y8 y9 y10 y11 y12 y13 y14 y15 y16 y17 y18 y19) = f20e2 y3 y14 y15 y16 y17 y18 := hide (by kernel_rfl)
theorem f20n2 {R : Type} (call : CallF R) (N : Nat) (J : KF R) (e : Env) (σ : St) : runK Try.prog call N f20c2 f20a2 J e σ = runK Try.prog call N f20c3 f20a3 (seqC (fun K e σ => runK Try.prog call N f20c4 f20a4 K e σ) f20a2 J) e σ := runK_seq' (by kernel_rfl) (by kernel_rfl) (by kernel_rfl)
theorem f20r3_f20e2 {R : Type} (call : CallF R) (N : Nat) (y0 : Int) (y1 : Option (Nat × Nat)) (y2 : Nat) (y3 : Option Nat) (y4 : Nat) (y5 : Nat) (J : KF R) (σ : St) :
    runK Try.prog call N f20c3 f20a3 J (f20e2 y0 y1 y2 y3 y4 y5) σ =
Option.bind (St.ld σ y4 (0 : Nat)) fun v0 =>
  Option.bind (AV.toInt IntKind.i64 v0) fun v1 =>
    Option.bind (St.ld σ y4 (1 : Nat)) fun v2 =>
      Option.bind (AV.toInt IntKind.i64 v2) fun v3 =>
        Option.bind (St.ld σ y4 (2 : Nat)) fun v4 =>
          Option.bind (AV.toInt IntKind.i64 v4) fun v5 =>
            call (22 : Nat) [AV.int IntKind.i64 v1, AV.int IntKind.i64 v3, AV.int IntKind.i64 v5] σ fun v6 v7 =>
              Option.bind (AV.toTuple v6) fun v8 =>
                if List.length v8 = (2 : Nat) then
                  Option.bind (List.head? v8) fun v9 =>
                    Option.bind (AV.toPtr v9) fun v10 =>
                      Option.bind (List.head? (List.tail v8)) fun v11 =>
                        Option.bind (AV.toInt IntKind.i64 v11) fun v12 =>
                          J Ex.normal (f20e3 y0 y1 y2 y3 y4 y5 v10 v12 v10 v12 y4 v1 y4 v3 y4 v5 v10 v12 v10 v12) v7
                else none := hide (by kernel_rfl)
theorem f20z2_f20e3 (y0 : Int) (y1 : Option (Nat × Nat)) (y2 : Nat) (y3 : Option Nat) (y4 : Nat) (y5 : Nat) (y6 : Option (Nat × Nat)) (y7 : Int) (y8 : Option (Nat × Nat)) (y9 : Int) (y10 : Nat) (y11 : Int) (y12 : Nat) (y13 : Int) (y14 : Nat) (y15 : Int) (y16 : Option (Nat × Nat)) (y17 : Int) (y18 : Option (Nat × Nat)) (y19 : Int) : Ann.clr f20a2 (f20e3 y0 y1 y2 y3 y4 y5 y6 y7 y8 y9 y10 y11 y12 y13 y14 y15 y16 y17 y18 y19) = f20e4 y0 y1 y2 y3 y4 y5 y6 y7 := hide (by kernel_rfl)
theorem f20n4 {R : Type} (call : CallF R) (N : Nat) (J : KF R) (e : Env) (σ : St) : runK Try.prog call N f20c4 f20a4 J e σ = runK Try.prog call N f20c5 f20a5 (seqC (fun K e σ => runK Try.prog call N f20c6 f20a6 K e σ) f20a4 J) e σ := runK_seq' (by kernel_rfl) (by kernel_rfl) (by kernel_rfl)
theorem f20n5 {R : Type} (call : CallF R) (N : Nat) (J : KF R) (e : Env) (σ : St) : runK Try.prog call N f20c5 f20a5 J e σ = runK Try.prog call N f20c7 f20a7 (seqC (fun K e σ => runK Try.prog call N f20c8 f20a8 K e σ) f20a5 J) e σ := runK_seq' (by kernel_rfl) (by kernel_rfl) (by kernel_rfl)
theorem f20r7_f20e4 {R : Type} (call : CallF R) (N : Nat) (y0 : Int) (y1 : Option (Nat × Nat)) (y2 : Nat) (y3 : Option Nat) (y4 : Nat) (y5 : Nat) (y6 : Option (Nat × Nat)) (y7 : Int) (J : KF R) (σ : St) :
    runK Try.prog call N f20c7 f20a7 J (f20e4 y0 y1 y2 y3 y4 y5 y6 y7) σ =
J Ex.normal (f20e5 y0 y1 y2 y3 y4 y5 y6 y7 y7 (y7 != (0 : Int))) σ := hide (by kernel_rfl)
theorem f20z5_f20e5 (y0 : Int) (y1 : Option (Nat × Nat)) (y2 : Nat) (y3 : Option Nat) (y4 : Nat) (y5 : Nat) (y6 : Option (Nat × Nat)) (y7 : Int) (y8 : Int) (y9 : Bool) : Ann.clr f20a5 (f20e5 y0 y1 y2 y3 y4 y5 y6 y7 y8 y9) = f20e6 y0 y1 y2 y3 y4 y5 y6 y9 := hide (by kernel_rfl)
theorem f20x8_f20e6 {R : Type} (call : CallF R) (N : Nat) (y0 : Int) (y1 : Option (Nat × Nat)) (y2 : Nat) (y3 : Option Nat) (y4 : Nat) (y5 : Nat) (y6 : Option (Nat × Nat)) (y7 : Bool) (J : KF R) (σ : St) : runK Try.prog call N f20c8 f20a8 J (f20e6 y0 y1 y2 y3 y4 y5 y6 y7) σ = if y7 = true then runK Try.prog call N f20c9 f20a9 (condC f20a8 J) (f20e6 y0 y1 y2 y3 y4 y5 y6 y7) σ else runK Try.prog call N f20c10 f20a10 (condC f20a8 J) (f20e6 y0 y1 y2 y3 y4 y5 y6 y7) σ := runK_cond' (o := Operand.tmp (24 : Nat)) (by kernel_rfl) (by kernel_rfl) (by kernel_rfl) (by kernel_rfl)
theorem f20n9 {R : Type} (call : CallF R) (N : Nat) (J : KF R) (e : Env) (σ : St) : runK Try.prog call N f20c9 f20a9 J e σ = runK Try.prog call N f20c11 f20a11 (seqC (fun K e σ => runK Try.prog call N f20c12 f20a12 K e σ) f20a9 J) e σ := runK_seq' (by kernel_rfl) (by kernel_rfl) (by kernel_rfl)
theorem f20r11_f20e6 {R : Type} (call : CallF R) (N : Nat) (y0 : Int) (y1 : Option (Nat × Nat)) (y2 : Nat) (y3 : Option Nat) (y4 : Nat) (y5 : Nat) (y6 : Option (Nat × Nat)) (y7 : Bool) (J : KF R) (σ : St) :
    runK Try.prog call N f20c11 f20a11 J (f20e6 y0 y1 y2 y3 y4 y5 y6 y7) σ =
J Ex.normal (f20e7 y0 y1 y2 y3 y4 y5 none y6 y7) σ := hide (by kernel_rfl)
theorem f20z9_f20e7 (y0 : Int) (y1 : Option (Nat × Nat)) (y2 : Nat) (y3 : Option Nat) (y4 : Nat) (y5 : Nat) (y6 : Option (Nat × Nat)) (y7 : Option (Nat × Nat)) (y8 : Bool) : Ann.clr f20a9 (f20e7 y0 y1 y2 y3 y4 y5 y6 y7 y8) = f20e8 y6 := hide (by kernel_rfl)
theorem f20y12_f20e8 {R : Type} (call : CallF R) (N : Nat) (y0 : Option (Nat × Nat)) (J : KF R) (σ : St) : runK Try.prog call N f20c12 f20a12 J (f20e8 y0) σ = J .ret (f20e8 y0) σ := runK_ret' (by kernel_rfl) (by kernel_rfl)
theorem f20n10 {R : Type} (call : CallF R) (N : Nat) (J : KF R) (e : Env) (σ : St) : runK Try.prog call N f20c10 f20a10 J e σ = J .normal e σ := runK_skip' (by kernel_rfl)
theorem f20z8_f20e6 (y0 : Int) (y1 : Option (Nat × Nat)) (y2 : Nat) (y3 : Option Nat) (y4 : Nat) (y5 : Nat) (y6 : Option (Nat × Nat)) (y7 : Bool) : Ann.clr f20a8 (f20e6 y0 y1 y2 y3 y4 y5 y6 y7) = f20e9 y0 y1 y2 y3 y4 y5 y6 := hide (by kernel_rfl)
theorem f20z4_f20e9 (y0 : Int) (y1 : Option (Nat × Nat)) (y2 : Nat) (y3 : Option Nat) (y4 : Nat) (y5 : Nat) (y6 : Option (Nat × Nat)) : Ann.clr f20a4 (f20e9 y0 y1 y2 y3 y4 y5 y6) = f20e9 y0 y1 y2 y3 y4 y5 y6 := hide (by kernel_rfl)
theorem f20n6 {R : Type} (call : CallF R) (N : Nat) (J : KF R) (e : Env) (σ : St) : runK Try.prog call N f20c6 f20a6 J e σ = runK Try.prog call N f20c13 f20a13 (seqC (fun K e σ => runK Try.prog call N f20c14 f20a14 K e σ) f20a6 J) e σ := runK_seq' (by kernel_rfl) (by kernel_rfl) (by kernel_rfl)
theorem f20n13 {R : Type} (call : CallF R) (N : Nat) (J : KF R) (e : Env) (σ : St) : runK Try.prog call N f20c13 f20a13 J e σ = runK Try.prog call N f20c15 f20a15 (seqC (fun K e σ => runK Try.prog call N f20c16 f20a16 K e σ) f20a13 J) e σ := runK_seq' (by kernel_rfl) (by kernel_rfl) (by kernel_rfl)
theorem f20r15_f20e9 {R : Type} (call : CallF R) (N : Nat) (y0 : Int) (y1 : Option (Nat × Nat)) (y2 : Nat) (y3 : Option Nat) (y4 : Nat) (y5 : Nat) (y6 : Option (Nat × Nat)) (J : KF R) (σ : St) :
    runK Try.prog call N f20c15 f20a15 J (f20e9 y0 y1 y2 y3 y4 y5 y6) σ =
J Ex.normal (f20e10 y0 y1 y2 y3 y4 y5 y6 (0 : Int)) σ := hide (by kernel_rfl)
theorem f20z13_f20e10 (y0 : Int) (y1 : Option (Nat × Nat)) (y2 : Nat) (y3 : Option Nat) (y4 : Nat) (y5 : Nat) (y6 : Option (Nat × Nat)) (y7 : Int) : Ann.clr f20a13 (f20e10 y0 y1 y2 y3 y4 y5 y6 y7) = f20e10 y0 y1 y2 y3 y4 y5 y6 y7 := hide (by kernel_rfl)
theorem f20n16 {R : Type} (call : CallF R) (N : Nat) (J : KF R) (e : Env) (σ : St) : runK Try.prog call N f20c16 f20a16 J e σ = runK Try.prog call N f20c17 f20a17 (blockC 0 f20a16 J) e σ := runK_block' (by kernel_rfl) (by kernel_rfl)
theorem f20L17_eq {R : Type} (call : CallF R) (N : Nat) (J : KF R) (e : Env) (σ : St) : f20L17 call N J e σ = runK Try.prog call N f20c18 f20a18 J e σ := hide rfl
theorem f20z17_f20e10 (y0 : Int) (y1 : Option (Nat × Nat)) (y2 : Nat) (y3 : Option Nat) (y4 : Nat) (y5 : Nat) (y6 : Option (Nat × Nat)) (y7 : Int) : Ann.clr f20a17 (f20e10 y0 y1 y2 y3 y4 y5 y6 y7) = f20e10 y0 y1 y2 y3 y4 y5 y6 y7 := hide (by kernel_rfl)
theorem f20l17_f20e10 {R : Type} (call : CallF R) (N : Nat) (y0 : Int) (y1 : Option (Nat × Nat)) (y2 : Nat) (y3 : Option Nat) (y4 : Nat) (y5 : Nat) (y6 : Option (Nat × Nat)) (y7 : Int) (J : KF R) (σ : St) : runK Try.prog call N f20c17 f20a17 J (f20e10 y0 y1 y2 y3 y4 y5 y6 y7) σ = loopK (f20L17 call N) f20a17 N J (f20e10 y0 y1 y2 y3 y4 y5 y6 y7) σ := runK_loop' (by kernel_rfl) (by kernel_rfl) (by kernel_rfl)
theorem f20n18 {R : Type} (call : CallF R) (N : Nat) (J : KF R) (e : Env) (σ : St) : runK Try.prog call N f20c18 f20a18 J e σ = runK Try.prog call N f20c19 f20a19 (seqC (fun K e σ => runK Try.prog call N f20c20 f20a20 K e σ) f20a18 J) e σ := runK_seq' (by kernel_rfl) (by kernel_rfl) (by kernel_rfl)
theorem f20n19 {R : Type} (call : CallF R) (N : Nat) (J : KF R) (e : Env) (σ : St) : runK Try.prog call N f20c19 f20a19 J e σ = runK Try.prog call N f20c21 f20a21 (seqC (fun K e σ => runK Try.prog call N f20c22 f20a22 K e σ) f20a19 J) e σ := runK_seq' (by kernel_rfl) (by kernel_rfl) (by kernel_rfl)
theorem f20r21_f20e10 {R : Type} (call : CallF R) (N : Nat) (y0 : Int) (y1 : Option (Nat × Nat)) (y2 : Nat) (y3 : Option Nat) (y4 : Nat) (y5 : Nat) (y6 : Option (Nat × Nat)) (y7 : Int) (J : KF R) (σ : St) :
    runK Try.prog call N f20c21 f20a21 J (f20e10 y0 y1 y2 y3 y4 y5 y6 y7) σ =
Option.bind (St.ld σ y4 (1 : Nat)) fun v0 =>
  Option.bind (AV.toInt IntKind.i64 v0) fun v1 =>
    J Ex.normal
      (f20e11 y0 y1 y2 y3 y4 y5 y6 y7 y7 y4 v1 (IntKind.wrap IntKind.i64 ((3 : Int) * v1)) (decide (y7 ≤ IntKind.wrap IntKind.i64 ((3 : Int) * v1))))
      σ := hide (by kernel_rfl)
theorem f20z19_f20e11 (y0 : Int) (y1 : Option (Nat × Nat)) (y2 : Nat) (y3 : Option Nat) (y4 : Nat) (y5 : Nat) (y6 : Option (Nat × Nat)) (y7 : Int) (y8 : Int) (y9 : Nat) (y10 : Int) (y11 : Int) (y12 : Bool) : Ann.clr f20a19 (f20e11 y0 y1 y2 y3 y4 y5 y6 y7 y8 y9 y10 y11 y12) = f20e12 y0 y1 y2 y3 y4 y5 y6 y7 y12 := hide (by kernel_rfl)
theorem f20x22_f20e12 {R : Type} (call : CallF R) (N : Nat) (y0 : Int) (y1 : Option (Nat × Nat)) (y2 : Nat) (y3 : Option Nat) (y4 : Nat) (y5 : Nat) (y6 : Option (Nat × Nat)) (y7 : Int) (y8 : Bool) (J : KF R) (σ : St) : runK Try.prog call N f20c22 f20a22 J (f20e12 y0 y1 y2 y3 y4 y5 y6 y7 y8) σ = if y8 = true then runK Try.prog call N f20c23 f20a23 (condC f20a22 J) (f20e12 y0 y1 y2 y3 y4 y5 y6 y7 y8) σ else runK Try.prog call N f20c24 f20a24 (condC f20a22 J) (f20e12 y0 y1 y2 y3 y4 y5 y6 y7 y8) σ := runK_cond' (o := Operand.tmp (29 : Nat)) (by kernel_rfl) (by kernel_rfl) (by kernel_rfl) (by kernel_rfl)
theorem f20n23 {R : Type} (call : CallF R) (N : Nat) (J : KF R) (e : Env) (σ : St) : runK Try.prog call N f20c23 f20a23 J e σ = J .normal e σ := runK_skip' (by kernel_rfl)
theorem f20z22_f20e12 (y0 : Int) (y1 : Option (Nat × Nat)) (y2 : Nat) (y3 : Option Nat) (y4 : Nat) (y5 : Nat) (y6 : Option (Nat × Nat)) (y7 : Int) (y8 : Bool) : Ann.clr f20a22 (f20e12 y0 y1 y2 y3 y4 y5 y6 y7 y8) = f20e10 y0 y1 y2 y3 y4 y5 y6 y7 := hide (by kernel_rfl)
theorem f20y24_f20e12 {R : Type} (call : CallF R) (N : Nat) (y0 : Int) (y1 : Option (Nat × Nat)) (y2 : Nat) (y3 : Option Nat) (y4 : Nat) (y5 : Nat) (y6 : Option (Nat × Nat)) (y7 : Int) (y8 : Bool) (J : KF R) (σ : St) : runK Try.prog call N f20c24 f20a24 J (f20e12 y0 y1 y2 y3 y4 y5 y6 y7 y8) σ = J (.exit 0) (f20e13 y6) σ := runK_exit' (by kernel_rfl) (by kernel_rfl)
theorem f20z18_f20e10 (y0 : Int) (y1 : Option (Nat × Nat)) (y2 : Nat) (y3 : Option Nat) (y4 : Nat) (y5 : Nat) (y6 : Option (Nat × Nat)) (y7 : Int) : Ann.clr f20a18 (f20e10 y0 y1 y2 y3 y4 y5 y6 y7) = f20e10 y0 y1 y2 y3 y4 y5 y6 y7 := hide (by kernel_rfl)
theorem f20n20 {R : Type} (call : CallF R) (N : Nat) (J : KF R) (e : Env) (σ : St) : runK Try.prog call N f20c20 f20a20 J e σ = runK Try.prog call N f20c25 f20a25 (seqC (fun K e σ => runK Try.prog call N f20c26 f20a26 K e σ) f20a20 J) e σ := runK_seq' (by kernel_rfl) (by kernel_rfl) (by kernel_rfl)
theorem f20n25 {R : Type} (call : CallF R) (N : Nat) (J : KF R) (e : Env) (σ : St) : runK Try.prog call N f20c25 f20a25 J e σ = runK Try.prog call N f20c27 f20a27 (blockC 1 f20a25 J) e σ := runK_block' (by kernel_rfl) (by kernel_rfl)
theorem f20n27 {R : Type} (call : CallF R) (N : Nat) (J : KF R) (e : Env) (σ : St) : runK Try.prog call N f20c27 f20a27 J e σ = runK Try.prog call N f20c28 f20a28 (seqC (fun K e σ => runK Try.prog call N f20c29 f20a29 K e σ) f20a27 J) e σ := runK_seq' (by kernel_rfl) (by kernel_rfl) (by kernel_rfl)
theorem f20r28_f20e10 {R : Type} (call : CallF R) (N : Nat) (y0 : Int) (y1 : Option (Nat × Nat)) (y2 : Nat) (y3 : Option Nat) (y4 : Nat) (y5 : Nat) (y6 : Option (Nat × Nat)) (y7 : Int) (J : KF R) (σ : St) :
    runK Try.prog call N f20c28 f20a28 J (f20e10 y0 y1 y2 y3 y4 y5 y6 y7) σ =
Option.bind (St.ld σ y5 (1 : Nat)) fun v0 =>
  Option.bind (AV.toSl (1 : Nat) v0) fun v1 =>
    J Ex.normal (f20e14 y0 y1 y2 y3 y4 y5 y6 y7 (Sl.o v1) (Sl.len v1) (Sl.cap v1) y5 (Sl.o v1) (Sl.len v1) (Sl.cap v1)) σ := hide (by kernel_rfl)
theorem f20z27_f20e14 (y0 : Int) (y1 : Option (Nat × Nat)) (y2 : Nat) (y3 : Option Nat) (y4 : Nat) (y5 : Nat) (y6 : Option (Nat × Nat)) (y7 : Int) (y8 : Option (Nat × Nat)) (y9 : Nat) (y10 : Option Nat) (y11 : Nat) (y12 : Option (Nat × Nat)) (y13 : Nat) (y14 : Option Nat) : Ann.clr f20a27 (f20e14 y0 y1 y2 y3 y4 y5 y6 y7 y8 y9 y10 y11 y12 y13 y14) = f20e15 y0 y1 y2 y3 y4 y5 y6 y7 y8 y9 y10 := hide (by kernel_rfl)
theorem f20n29 {R : Type} (call : CallF R) (N : Nat) (J : KF R) (e : Env) (σ : St) : runK Try.prog call N f20c29 f20a29 J e σ = runK Try.prog call N f20c30 f20a30 (seqC (fun K e σ => runK Try.prog call N f20c31 f20a31 K e σ) f20a29 J) e σ := runK_seq' (by kernel_rfl) (by kernel_rfl) (by kernel_rfl)
theorem f20n30 {R : Type} (call : CallF R) (N : Nat) (J : KF R) (e : Env) (σ : St) : runK Try.prog call N f20c30 f20a30 J e σ = runK Try.prog call N f20c32 f20a32 (seqC (fun K e σ => runK Try.prog call N f20c33 f20a33 K e σ) f20a30 J) e σ := runK_seq' (by kernel_rfl) (by kernel_rfl) (by kernel_rfl)
theorem f20r32_f20e15 {R : Type} (call : CallF R) (N : Nat) (y0 : Int) (y1 : Option (Nat × Nat)) (y2 : Nat) (y3 : Option Nat) (y4 : Nat) (y5 : Nat) (y6 : Option (Nat × Nat)) (y7 : Int) (y8 : Option (Nat × Nat)) (y9 : Nat) (y10 : Option Nat) (J : KF R) (σ : St) :
    runK Try.prog call N f20c32 f20a32 J (f20e15 y0 y1 y2 y3 y4 y5 y6 y7 y8 y9 y10) σ =
Option.bind (St.ld σ y5 (0 : Nat)) fun v0 =>
  Option.bind (AV.toInt IntKind.i64 v0) fun v1 =>
    Option.bind (St.ld σ y4 (1 : Nat)) fun v2 =>
      Option.bind (AV.toInt IntKind.i64 v2) fun v3 =>
        call (45 : Nat) [AV.int IntKind.i64 v1, AV.int IntKind.i64 v3, AV.int IntKind.i64 y7] σ fun v4 v5 =>
          Option.bind (AV.toBool v4) fun v6 => J Ex.normal (f20e16 y0 y1 y2 y3 y4 y5 y6 y7 y8 y9 y10 y5 v1 y4 v3 y7 v6) v5 := hide (by kernel_rfl)
theorem f20z30_f20e16 (y0 : Int) (y1 : Option (Nat × Nat)) (y2 : Nat) (y3 : Option Nat) (y4 : Nat) (y5 : Nat) (y6 : Option (Nat × Nat)) (y7 : Int) (y8 : Option (Nat × Nat)) (y9 : Nat) (y10 : Option Nat) (y11 : Nat) (y12 : Int) (y13 : Nat) (y14 : Int) (y15 : Int) (y16 : Bool) : Ann.clr f20a30 (f20e16 y0 y1 y2 y3 y4 y5 y6 y7 y8 y9 y10 y11 y12 y13 y14 y15 y16) = f20e17 y0 y1 y2 y3 y4 y5 y6 y7 y8 y9 y10 y16 := hide (by kernel_rfl)
theorem f20x33_f20e17 {R : Type} (call : CallF R) (N : Nat) (y0 : Int) (y1 : Option (Nat × Nat)) (y2 : Nat) (y3 : Option Nat) (y4 : Nat) (y5 : Nat) (y6 : Option (Nat × Nat)) (y7 : Int) (y8 : Option (Nat × Nat)) (y9 : Nat) (y10 : Option Nat) (y11 : Bool) (J : KF R) (σ : St) : runK Try.prog call N f20c33 f20a33 J (f20e17 y0 y1 y2 y3 y4 y5 y6 y7 y8 y9 y10 y11) σ = if y11 = true then runK Try.prog call N f20c34 f20a34 (condC f20a33 J) (f20e17 y0 y1 y2 y3 y4 y5 y6 y7 y8 y9 y10 y11) σ else runK Try.prog call N f20c35 f20a35 (condC f20a33 J) (f20e17 y0 y1 y2 y3 y4 y5 y6 y7 y8 y9 y10 y11) σ := runK_cond' (o := Operand.tmp (39 : Nat)) (by kernel_rfl) (by kernel_rfl) (by kernel_rfl) (by kernel_rfl)
theorem f20r34_f20e17 {R : Type} (call : CallF R) (N : Nat) (y0 : Int) (y1 : Option (Nat × Nat)) (y2 : Nat) (y3 : Option Nat) (y4 : Nat) (y5 : Nat) (y6 : Option (Nat × Nat)) (y7 : Int) (y8 : Option (Nat × Nat)) (y9 : Nat) (y10 : Option Nat) (y11 : Bool) (J : KF R) (σ : St) :
    runK Try.prog call N f20c34 f20a34 J (f20e17 y0 y1 y2 y3 y4 y5 y6 y7 y8 y9 y10 y11) σ =
J Ex.normal (f20e18 y0 y1 y2 y3 y4 y5 y6 y7 y1 y2 y3 y11 y1 y2 y3) σ := hide (by kernel_rfl)
theorem f20z33_f20e18 (y0 : Int) (y1 : Option (Nat × Nat)) (y2 : Nat) (y3 : Option Nat) (y4 : Nat) (y5 : Nat) (y6 : Option (Nat × Nat)) (y7 : Int) (y8 : Option (Nat × Nat)) (y9 : Nat) (y10 : Option Nat) (y11 : Bool) (y12 : Option (Nat × Nat)) (y13 : Nat) (y14 : Option Nat) : Ann.clr f20a33 (f20e18 y0 y1 y2 y3 y4 y5 y6 y7 y8 y9 y10 y11 y12 y13 y14) = f20e15 y0 y1 y2 y3 y4 y5 y6 y7 y8 y9 y10 := hide (by kernel_rfl)
theorem f20n35 {R : Type} (call : CallF R) (N : Nat) (J : KF R) (e : Env) (σ : St) : runK Try.prog call N f20c35 f20a35 J e σ = J .normal e σ := runK_skip' (by kernel_rfl)
theorem f20z33_f20e17 (y0 : Int) (y1 : Option (Nat × Nat)) (y2 : Nat) (y3 : Option Nat) (y4 : Nat) (y5 : Nat) (y6 : Option (Nat × Nat)) (y7 : Int) (y8 : Option (Nat × Nat)) (y9 : Nat) (y10 : Option Nat) (y11 : Bool) : Ann.clr f20a33 (f20e17 y0 y1 y2 y3 y4 y5 y6 y7 y8 y9 y10 y11) = f20e15 y0 y1 y2 y3 y4 y5 y6 y7 y8 y9 y10 := hide (by kernel_rfl)
theorem f20z29_f20e15 (y0 : Int) (y1 : Option (Nat × Nat)) (y2 : Nat) (y3 : Option Nat) (y4 : Nat) (y5 : Nat) (y6 : Option (Nat × Nat)) (y7 : Int) (y8 : Option (Nat × Nat)) (y9 : Nat) (y10 : Option Nat) : Ann.clr f20a29 (f20e15 y0 y1 y2 y3 y4 y5 y6 y7 y8 y9 y10) = f20e15 y0 y1 y2 y3 y4 y5 y6 y7 y8 y9 y10 := hide (by kernel_rfl)
theorem f20n31 {R : Type} (call : CallF R) (N : Nat) (J : KF R) (e : Env) (σ : St) : runK Try.prog call N f20c31 f20a31 J e σ = runK Try.prog call N f20c36 f20a36 (seqC (fun K e σ => runK Try.prog call N f20c37 f20a37 K e σ) f20a31 J) e σ := runK_seq' (by kernel_rfl) (by kernel_rfl) (by kernel_rfl)
theorem f20r36_f20e15 {R : Type} (call : CallF R) (N : Nat) (y0 : Int) (y1 : Option (Nat × Nat)) (y2 : Nat) (y3 : Option Nat) (y4 : Nat) (y5 : Nat) (y6 : Option (Nat × Nat)) (y7 : Int) (y8 : Option (Nat × Nat)) (y9 : Nat) (y10 : Option Nat) (J : KF R) (σ : St) :
    runK Try.prog call N f20c36 f20a36 J (f20e15 y0 y1 y2 y3 y4 y5 y6 y7 y8 y9 y10) σ =
J Ex.normal (f20e19 y0 y1 y2 y3 y4 y5 y6 y7 y8 y9 y10 y7 y8 y9 y10 (↑y9 : Int) (decide (y7 < (↑y9 : Int)))) σ := hide (by kernel_rfl)
theorem f20z31_f20e19 (y0 : Int) (y1 : Option (Nat × Nat)) (y2 : Nat) (y3 : Option Nat) (y4 : Nat) (y5 : Nat) (y6 : Option (Nat × Nat)) (y7 : Int) (y8 : Option (Nat × Nat)) (y9 : Nat) (y10 : Option Nat) (y11 : Int) (y12 : Option (Nat × Nat)) (y13 : Nat) (y14 : Option Nat) (y15 : Int) (y16 : Bool) : Ann.clr f20a31 (f20e19 y0 y1 y2 y3 y4 y5 y6 y7 y8 y9 y10 y11 y12 y13 y14 y15 y16) = f20e20 y0 y1 y2 y3 y4 y5 y6 y7 y8 y9 y10 y16 := hide (by kernel_rfl)
theorem f20x37_f20e20 {R : Type} (call : CallF R) (N : Nat) (y0 : Int) (y1 : Option (Nat × Nat)) (y2 : Nat) (y3 : Option Nat) (y4 : Nat) (y5 : Nat) (y6 : Option (Nat × Nat)) (y7 : Int) (y8 : Option (Nat × Nat)) (y9 : Nat) (y10 : Option Nat) (y11 : Bool) (J : KF R) (σ : St) : runK Try.prog call N f20c37 f20a37 J (f20e20 y0 y1 y2 y3 y4 y5 y6 y7 y8 y9 y10 y11) σ = if y11 = true then runK Try.prog call N f20c38 f20a38 (condC f20a37 J) (f20e20 y0 y1 y2 y3 y4 y5 y6 y7 y8 y9 y10 y11) σ else runK Try.prog call N f20c39 f20a39 (condC f20a37 J) (f20e20 y0 y1 y2 y3 y4 y5 y6 y7 y8 y9 y10 y11) σ := runK_cond' (o := Operand.tmp (44 : Nat)) (by kernel_rfl) (by kernel_rfl) (by kernel_rfl) (by kernel_rfl)
theorem f20r38_f20e20 {R : Type} (call : CallF R) (N : Nat) (y0 : Int) (y1 : Option (Nat × Nat)) (y2 : Nat) (y3 : Option Nat) (y4 : Nat) (y5 : Nat) (y6 : Option (Nat × Nat)) (y7 : Int) (y8 : Option (Nat × Nat)) (y9 : Nat) (y10 : Option Nat) (y11 : Bool) (J : KF R) (σ : St) :
    runK Try.prog call N f20c38 f20a38 J (f20e20 y0 y1 y2 y3 y4 y5 y6 y7 y8 y9 y10 y11) σ =
if (0 : Int) ≤ y7 ∧ y7 < (↑y9 : Int) then
  Option.bind y8 fun v0 =>
    Option.bind (St.ld σ (Prod.fst v0) (Prod.snd v0 + Int.toNat y7 * (1 : Nat))) fun v1 =>
      Option.bind (AV.toStr v1) fun v2 =>
        call (44 : Nat) [] σ fun v3 v4 =>
          Option.bind (AV.toStr v3) fun v5 =>
            if St.same v4 (Prod.fst v0) (Prod.snd v0 + Int.toNat y7 * (1 : Nat)) [AV.str v2] = true then
              call (24 : Nat) [AV.ptr y6, AV.int IntKind.i64 y0, AV.int IntKind.i64 y7, AV.str v2, AV.str v5] v4 fun v6 v7 =>
                Option.bind (AV.toTuple v6) fun v8 =>
                  if List.length v8 = (2 : Nat) then
                    Option.bind (List.head? v8) fun v9 =>
                      Option.bind (AV.toBool v9) fun v10 =>
                        Option.bind (List.head? (List.tail v8)) fun v11 =>
                          Option.bind (AV.toInt IntKind.i64 v11) fun v12 =>
                            J Ex.normal
                              (f20e21 y0 y1 y2 y3 y4 y5 y6 y7 y8 y9 y10 y11 y6 y0 y7 y8 y9 y10 y7
                                (some (Prod.fst v0, Prod.snd v0 + Int.toNat y7 * (1 : Nat))) v2 v5 v10 v12)
                              v7
                  else none
            else none
else none := hide (by kernel_rfl)
theorem f20z37_f20e21 (y0 : Int) (y1 : Option (Nat × Nat)) (y2 : Nat) (y3 : Option Nat) (y4 : Nat) (y5 : Nat) (y6 : Option (Nat × Nat)) (y7 : Int) (y8 : Option (Nat × Nat)) (y9 : Nat) (y10 : Option Nat) (y11 : Bool) (y12 : Option (Nat × Nat)) (y13 : Int) (y14 : Int) (y15 : Option (Nat × Nat)) (y16 : Nat) (y17 : Option Nat) (y18 : Int) (y19 : Option (Nat × Nat)) (y20 : ByteArray) (y21 : ByteArray) (y22 : Bool) (y23 : Int) : Ann.clr f20a37 (f20e21 y0 y1 y2 y3 y4 y5 y6 y7 y8 y9 y10 y11 y12 y13 y14 y15 y16 y17 y18 y19 y20 y21 y22 y23) = f20e10 y0 y1 y2 y3 y4 y5 y6 y7 := hide (by kernel_rfl)
theorem f20n39 {R : Type} (call : CallF R) (N : Nat) (J : KF R) (e : Env) (σ : St) : runK Try.prog call N f20c39 f20a39 J e σ = J .normal e σ := runK_skip' (by kernel_rfl)
theorem f20z37_f20e20 (y0 : Int) (y1 : Option (Nat × Nat)) (y2 : Nat) (y3 : Option Nat) (y4 : Nat) (y5 : Nat) (y6 : Option (Nat × Nat)) (y7 : Int) (y8 : Option (Nat × Nat)) (y9 : Nat) (y10 : Option Nat) (y11 : Bool) : Ann.clr f20a37 (f20e20 y0 y1 y2 y3 y4 y5 y6 y7 y8 y9 y10 y11) = f20e10 y0 y1 y2 y3 y4 y5 y6 y7 := hide (by kernel_rfl)
theorem f20z25_f20e10 (y0 : Int) (y1 : Option (Nat × Nat)) (y2 : Nat) (y3 : Option Nat) (y4 : Nat) (y5 : Nat) (y6 : Option (Nat × Nat)) (y7 : Int) : Ann.clr f20a25 (f20e10 y0 y1 y2 y3 y4 y5 y6 y7) = f20e10 y0 y1 y2 y3 y4 y5 y6 y7 := hide (by kernel_rfl)
theorem f20z20_f20e10 (y0 : Int) (y1 : Option (Nat × Nat)) (y2 : Nat) (y3 : Option Nat) (y4 : Nat) (y5 : Nat) (y6 : Option (Nat × Nat)) (y7 : Int) : Ann.clr f20a20 (f20e10 y0 y1 y2 y3 y4 y5 y6 y7) = f20e10 y0 y1 y2 y3 y4 y5 y6 y7 := hide (by kernel_rfl)
theorem f20r26_f20e10 {R : Type} (call : CallF R) (N : Nat) (y0 : Int) (y1 : Option (Nat × Nat)) (y2 : Nat) (y3 : Option Nat) (y4 : Nat) (y5 : Nat) (y6 : Option (Nat × Nat)) (y7 : Int) (J : KF R) (σ : St) :
    runK Try.prog call N f20c26 f20a26 J (f20e10 y0 y1 y2 y3 y4 y5 y6 y7) σ =
J Ex.normal (f20e22 y0 y1 y2 y3 y4 y5 y6 (IntKind.wrap IntKind.i64 (y7 + (1 : Int))) y7 (IntKind.wrap IntKind.i64 (y7 + (1 : Int)))) σ := hide (by kernel_rfl)
theorem f20z17_f20e22 (y0 : Int) (y1 : Option (Nat × Nat)) (y2 : Nat) (y3 : Option Nat) (y4 : Nat) (y5 : Nat) (y6 : Option (Nat × Nat)) (y7 : Int) (y8 : Int) (y9 : Int) : Ann.clr f20a17 (f20e22 y0 y1 y2 y3 y4 y5 y6 y7 y8 y9) = f20e10 y0 y1 y2 y3 y4 y5 y6 y7 := hide (by kernel_rfl)
theorem f20z16_f20e13 (y0 : Option (Nat × Nat)) : Ann.clr f20a16 (f20e13 y0) = f20e13 y0 := hide (by kernel_rfl)
theorem f20z6_f20e13 (y0 : Option (Nat × Nat)) : Ann.clr f20a6 (f20e13 y0) = f20e13 y0 := hide (by kernel_rfl)
theorem f20n14 {R : Type} (call : CallF R) (N : Nat) (J : KF R) (e : Env) (σ : St) : runK Try.prog call N f20c14 f20a14 J e σ = runK Try.prog call N f20c40 f20a40 (seqC (fun K e σ => runK Try.prog call N f20c41 f20a41 K e σ) f20a14 J) e σ := runK_seq' (by kernel_rfl) (by kernel_rfl) (by kernel_rfl)
theorem f20r40_f20e13 {R : Type} (call : CallF R) (N : Nat) (y0 : Option (Nat × Nat)) (J : KF R) (σ : St) :
    runK Try.prog call N f20c40 f20a40 J (f20e13 y0) σ =
J Ex.normal (f20e23 y0 y0 y0) σ := hide (by kernel_rfl)
theorem f20z14_f20e23 (y0 : Option (Nat × Nat)) (y1 : Option (Nat × Nat)) (y2 : Option (Nat × Nat)) : Ann.clr f20a14 (f20e23 y0 y1 y2) = f20e8 y0 := hide (by kernel_rfl)
theorem f20y41_f20e8 {R : Type} (call : CallF R) (N : Nat) (y0 : Option (Nat × Nat)) (J : KF R) (σ : St) : runK Try.prog call N f20c41 f20a41 J (f20e8 y0) σ = J .ret (f20e8 y0) σ := runK_ret' (by kernel_rfl) (by kernel_rfl)
theorem f20b_f20e8_r {R : Type} (y0 : Option (Nat × Nat)) (σ : St) (K : AV → St → Option R) : bodyC Try.prog f20rs K (Ex.ret) (f20e8 y0) σ =
K (AV.ptr y0) σ := hide (by kernel_rfl)
attribute [go_sem] f20_eq f20n0 f20r1_f20e0 f20z0_f20e1 f20n2 f20r3_f20e2 f20z2_f20e3 f20n4 f20n5 f20r7_f20e4 f20z5_f20e5 f20x8_f20e6 f20n9 f20r11_f20e6 f20z9_f20e7 f20y12_f20e8 f20n10 f20z8_f20e6 f20z4_f20e9 f20n6 f20n13 f20r15_f20e9 f20z13_f20e10 f20n16 f20L17_eq f20z17_f20e10 f20l17_f20e10 f20n18 f20n19 f20r21_f20e10 f20z19_f20e11 f20x22_f20e12 f20n23 f20z22_f20e12 f20y24_f20e12 f20z18_f20e10 f20n20 f20n25 f20n27 f20r28_f20e10 f20z27_f20e14 f20n29 f20n30 f20r32_f20e15 f20z30_f20e16 f20x33_f20e17 f20r34_f20e17 f20z33_f20e18 f20n35 f20z33_f20e17 f20z29_f20e15 f20n31 f20r36_f20e15 f20z31_f20e19 f20x37_f20e20 f20r38_f20e20 f20z37_f20e21 f20n39 f20z37_f20e20 f20z25_f20e10 f20z20_f20e10 f20r26_f20e10 f20z17_f20e22 f20z16_f20e13 f20z6_f20e13 f20n14 f20r40_f20e13 f20z14_f20e23 f20y41_f20e8 f20b_f20e8_r

noncomputable def f45rs : List ResultVar := [ResultVar.tmp (6 : Nat)]
noncomputable def f45c0 : Code := subCode [] (bodyOf Try.prog 45)
def f45a0 : Ann := subAnn [] ann45
noncomputable def f45c1 : Code := subCode [0] (bodyOf Try.prog 45)
def f45a1 : Ann := subAnn [0] ann45
noncomputable def f45c2 : Code := subCode [1] (bodyOf Try.prog 45)
def f45a2 : Ann := subAnn [1] ann45
noncomputable def f45c3 : Code := subCode [1, 0] (bodyOf Try.prog 45)
def f45a3 : Ann := subAnn [1, 0] ann45
noncomputable def f45c4 : Code := subCode [1, 1] (bodyOf Try.prog 45)
def f45a4 : Ann := subAnn [1, 1] ann45
noncomputable def f45c5 : Code := subCode [1, 1, 0] (bodyOf Try.prog 45)
def f45a5 : Ann := subAnn [1, 1, 0] ann45
noncomputable def f45c6 : Code := subCode [1, 1, 1] (bodyOf Try.prog 45)
def f45a6 : Ann := subAnn [1, 1, 1] ann45
noncomputable def f45c7 : Code := subCode [1, 1, 0, 0] (bodyOf Try.prog 45)
def f45a7 : Ann := subAnn [1, 1, 0, 0] ann45
noncomputable def f45c8 : Code := subCode [1, 1, 0, 1] (bodyOf Try.prog 45)
def f45a8 : Ann := subAnn [1, 1, 0, 1] ann45
noncomputable def f45c9 : Code := subCode [1, 1, 0, 1, 0] (bodyOf Try.prog 45)
def f45a9 : Ann := subAnn [1, 1, 0, 1, 0] ann45
noncomputable def f45c10 : Code := subCode [1, 1, 0, 1, 0, 0] (bodyOf Try.prog 45)
def f45a10 : Ann := subAnn [1, 1, 0, 1, 0, 0] ann45
noncomputable def f45c11 : Code := subCode [1, 1, 0, 1, 0, 0, 0] (bodyOf Try.prog 45)
def f45a11 : Ann := subAnn [1, 1, 0, 1, 0, 0, 0] ann45
noncomputable def f45c12 : Code := subCode [1, 1, 0, 1, 0, 0, 1] (bodyOf Try.prog 45)
def f45a12 : Ann := subAnn [1, 1, 0, 1, 0, 0, 1] ann45
noncomputable def f45c13 : Code := subCode [1, 1, 0, 1, 0, 0, 0, 0] (bodyOf Try.prog 45)
def f45a13 : Ann := subAnn [1, 1, 0, 1, 0, 0, 0, 0] ann45
noncomputable def f45c14 : Code := subCode [1, 1, 0, 1, 0, 0, 0, 1] (bodyOf Try.prog 45)
def f45a14 : Ann := subAnn [1, 1, 0, 1, 0, 0, 0, 1] ann45
noncomputable def f45c15 : Code := subCode [1, 1, 0, 1, 0, 0, 0, 1, 0] (bodyOf Try.prog 45)
def f45a15 : Ann := subAnn [1, 1, 0, 1, 0, 0, 0, 1, 0] ann45
noncomputable def f45c16 : Code := subCode [1, 1, 0, 1, 0, 0, 0, 1, 1] (bodyOf Try.prog 45)
def f45a16 : Ann := subAnn [1, 1, 0, 1, 0, 0, 0, 1, 1] ann45
noncomputable def f45c17 : Code := subCode [1, 1, 0, 1, 0, 0, 1, 0] (bodyOf Try.prog 45)
def f45a17 : Ann := subAnn [1, 1, 0, 1, 0, 0, 1, 0] ann45
noncomputable def f45c18 : Code := subCode [1, 1, 0, 1, 0, 0, 1, 1] (bodyOf Try.prog 45)
def f45a18 : Ann := subAnn [1, 1, 0, 1, 0, 0, 1, 1] ann45
noncomputable def f45c19 : Code := subCode [1, 1, 0, 1, 0, 0, 1, 0, 0] (bodyOf Try.prog 45)
def f45a19 : Ann := subAnn [1, 1, 0, 1, 0, 0, 1, 0, 0] ann45
noncomputable def f45c20 : Code := subCode [1, 1, 1, 0] (bodyOf Try.prog 45)
def f45a20 : Ann := subAnn [1, 1, 1, 0] ann45
noncomputable def f45c21 : Code := subCode [1, 1, 1, 1] (bodyOf Try.prog 45)
def f45a21 : Ann := subAnn [1, 1, 1, 1] ann45
noncomputable def f45L9 {R : Type} (call : CallF R) (N : Nat) : KF R → Env → St → Option R := fun K e σ => runK Try.prog call N f45c10 f45a10 K e σ
def f45e0 (y0 : Int) (y1 : Int) (y2 : Int) : Env := AV.int IntKind.i64 y0 :: AV.int IntKind.i64 y1 :: AV.int IntKind.i64 y2 :: Env.sp 29 []
def f45e1 (y0 : Int) (y1 : Int) (y2 : Int) (y3 : Bool) : Env := AV.int IntKind.i64 y0 :: AV.int IntKind.i64 y1 :: AV.int IntKind.i64 y2 :: Env.sp 3 (AV.bool y3 :: Env.sp 25 [])
def f45e2 (y0 : Int) (y1 : Int) (y2 : Int) (y3 : Int) : Env := AV.int IntKind.i64 y0 :: AV.int IntKind.i64 y1 :: AV.int IntKind.i64 y2 :: Env.sp 4 (AV.int IntKind.i64 y3 :: Env.sp 24 [])
def f45e3 (y0 : Int) (y1 : Int) (y2 : Int) (y3 : Int) (y4 : Int) : Env := AV.int IntKind.i64 y0 :: AV.int IntKind.i64 y1 :: AV.int IntKind.i64 y2 :: Env.sp 4 (AV.int IntKind.i64 y3 :: AV.int IntKind.i64 y4 :: Env.sp 23 [])
def f45e4 (y0 : Int) (y1 : Int) (y2 : Int) (y3 : Int) (y4 : Int) (y5 : Int) (y6 : Int) (y7 : Bool) : Env := AV.int IntKind.i64 y0 :: AV.int IntKind.i64 y1 :: AV.int IntKind.i64 y2 :: Env.sp 4 (AV.int IntKind.i64 y3 :: AV.int IntKind.i64 y4 :: AV.int IntKind.i64 y5 :: AV.int IntKind.i64 y6 :: AV.bool y7 :: Env.sp 20 [])
def f45e5 (y0 : Int) (y1 : Int) (y2 : Int) (y3 : Int) (y4 : Int) (y5 : Bool) : Env := AV.int IntKind.i64 y0 :: AV.int IntKind.i64 y1 :: AV.int IntKind.i64 y2 :: Env.sp 4 (AV.int IntKind.i64 y3 :: AV.int IntKind.i64 y4 :: Env.sp 2 (AV.bool y5 :: Env.sp 20 []))
def f45e6 (y0 : Int) (y1 : Int) (y2 : Int) (y3 : Int) (y4 : Int) (y5 : Int) (y6 : Int) (y7 : Int) (y8 : Int) (y9 : Int) (y10 : Int) (y11 : Int) : Env := AV.int IntKind.i64 y0 :: AV.int IntKind.i64 y1 :: AV.int IntKind.i64 y2 :: Env.sp 4 (AV.int IntKind.i64 y3 :: AV.int IntKind.i64 y4 :: Env.sp 5 (AV.int IntKind.i64 y5 :: AV.int IntKind.i64 y6 :: AV.int IntKind.i64 y7 :: AV.int IntKind.u64 y8 :: AV.int IntKind.i64 y9 :: AV.int IntKind.i64 y10 :: AV.int IntKind.i64 y11 :: Env.sp 11 []))
def f45e7 (y0 : Int) (y1 : Int) (y2 : Int) (y3 : Int) (y4 : Int) (y5 : Int) (y6 : Int) : Env := AV.int IntKind.i64 y0 :: AV.int IntKind.i64 y1 :: AV.int IntKind.i64 y2 :: Env.sp 4 (AV.int IntKind.i64 y3 :: AV.int IntKind.i64 y4 :: Env.sp 3 (AV.int IntKind.i64 y5 :: AV.int IntKind.i64 y6 :: Env.sp 18 []))
def f45e8 (y0 : Int) (y1 : Int) (y2 : Int) (y3 : Bool) (y4 : Int) (y5 : Int) (y6 : Int) (y7 : Int) (y8 : Int) (y9 : Int) (y10 : Bool) (y11 : Bool) (y12 : Int) (y13 : Int) (y14 : Bool) (y15 : Bool) : Env := AV.int IntKind.i64 y0 :: AV.int IntKind.i64 y1 :: AV.int IntKind.i64 y2 :: Env.sp 3 (AV.bool y3 :: AV.int IntKind.i64 y4 :: Env.sp 13 (AV.int IntKind.i64 y5 :: AV.int IntKind.i64 y6 :: AV.int IntKind.u64 y7 :: AV.int IntKind.i64 y8 :: AV.int IntKind.i64 y9 :: AV.bool y10 :: AV.bool y11 :: AV.int IntKind.i64 y12 :: AV.int IntKind.i64 y13 :: AV.bool y14 :: AV.bool y15 :: []))
def f45e9 (y0 : Int) (y1 : Int) (y2 : Int) (y3 : Bool) (y4 : Int) (y5 : Int) (y6 : Int) (y7 : Int) (y8 : Int) (y9 : Int) (y10 : Bool) (y11 : Bool) (y12 : Bool) : Env := AV.int IntKind.i64 y0 :: AV.int IntKind.i64 y1 :: AV.int IntKind.i64 y2 :: Env.sp 3 (AV.bool y3 :: AV.int IntKind.i64 y4 :: Env.sp 13 (AV.int IntKind.i64 y5 :: AV.int IntKind.i64 y6 :: AV.int IntKind.u64 y7 :: AV.int IntKind.i64 y8 :: AV.int IntKind.i64 y9 :: AV.bool y10 :: AV.bool y11 :: AV.tuple [] :: AV.tuple [] :: AV.tuple [] :: AV.bool y12 :: []))
def f45e10 (y0 : Bool) : Env := Env.sp 6 (AV.bool y0 :: Env.sp 25 [])

/- function 45 -/
theorem f45_eq {R : Type} (call : CallF R) (N : Nat) (y0 : Int) (y1 : Int) (y2 : Int) (σ : St) (K : AV → St → Option R) :
    bodyK Try.prog call N ann 45 [AV.int IntKind.i64 y0, AV.int IntKind.i64 y1, AV.int IntKind.i64 y2] σ K = runK Try.prog call N f45c0 f45a0 (bodyC Try.prog f45rs K) (f45e0 y0 y1 y2) σ := bodyK_of (fn := ((Try.prog.funcs[45]?).get rfl)) (by kernel_rfl) (by kernel_rfl) (by kernel_rfl) (by kernel_rfl) (by kernel_rfl) (by kernel_rfl)
theorem f45n0 {R : Type} (call : CallF R) (N : Nat) (J : KF R) (e : Env) (σ : St) : runK Try.prog call N f45c0 f45a0 J e σ = runK Try.prog call N f45c1 f45a1 (seqC (fun K e σ => runK Try.prog call N f45c2 f45a2 K e σ) f45a0 J) e σ := runK_seq' (by kernel_rfl) (by kernel_rfl) (by kernel_rfl)
theorem f45r1_f45e0 {R : Type} (call : CallF R) (N : Nat) (y0 : Int) (y1 : Int) (y2 : Int) (J : KF R) (σ : St) :
    runK Try.prog call N f45c1 f45a1 J (f45e0 y0 y1 y2) σ =
J Ex.normal (f45e1 y0 y1 y2 false) σ := hide (by kernel_rfl)
theorem f45z0_f45e1 (y0 : Int) (y1 : Int) (y2 : Int) (y3 : Bool) : Ann.clr f45a0 (f45e1 y0 y1 y2 y3) = f45e0 y0 y1 y2 := hide (by kernel_rfl)
theorem f45n2 {R : Type} (call : CallF R) (N : Nat) (J : KF R) (e : Env) (σ : St) : runK Try.prog call N f45c2 f45a2 J e σ = runK Try.prog call N f45c3 f45a3 (seqC (fun K e σ => runK Try.prog call N f45c4 f45a4 K e σ) f45a2 J) e σ := runK_seq' (by kernel_rfl) (by kernel_rfl) (by kernel_rfl)
theorem f45r3_f45e0 {R : Type} (call : CallF R) (N : Nat) (y0 : Int) (y1 : Int) (y2 : Int) (J : KF R) (σ : St) :
    runK Try.prog call N f45c3 f45a3 J (f45e0 y0 y1 y2) σ =
J Ex.normal (f45e2 y0 y1 y2 (0 : Int)) σ := hide (by kernel_rfl)
theorem f45z2_f45e2 (y0 : Int) (y1 : Int) (y2 : Int) (y3 : Int) : Ann.clr f45a2 (f45e2 y0 y1 y2 y3) = f45e2 y0 y1 y2 y3 := hide (by kernel_rfl)
theorem f45n4 {R : Type} (call : CallF R) (N : Nat) (J : KF R) (e : Env) (σ : St) : runK Try.prog call N f45c4 f45a4 J e σ = runK Try.prog call N f45c5 f45a5 (seqC (fun K e σ => runK Try.prog call N f45c6 f45a6 K e σ) f45a4 J) e σ := runK_seq' (by kernel_rfl) (by kernel_rfl) (by kernel_rfl)
theorem f45n5 {R : Type} (call : CallF R) (N : Nat) (J : KF R) (e : Env) (σ : St) : runK Try.prog call N f45c5 f45a5 J e σ = runK Try.prog call N f45c7 f45a7 (seqC (fun K e σ => runK Try.prog call N f45c8 f45a8 K e σ) f45a5 J) e σ := runK_seq' (by kernel_rfl) (by kernel_rfl) (by kernel_rfl)
theorem f45r7_f45e2 {R : Type} (call : CallF R) (N : Nat) (y0 : Int) (y1 : Int) (y2 : Int) (y3 : Int) (J : KF R) (σ : St) :
    runK Try.prog call N f45c7 f45a7 J (f45e2 y0 y1 y2 y3) σ =
J Ex.normal (f45e3 y0 y1 y2 y3 (0 : Int)) σ := hide (by kernel_rfl)
theorem f45z5_f45e3 (y0 : Int) (y1 : Int) (y2 : Int) (y3 : Int) (y4 : Int) : Ann.clr f45a5 (f45e3 y0 y1 y2 y3 y4) = f45e3 y0 y1 y2 y3 y4 := hide (by kernel_rfl)
theorem f45n8 {R : Type} (call : CallF R) (N : Nat) (J : KF R) (e : Env) (σ : St) : runK Try.prog call N f45c8 f45a8 J e σ = runK Try.prog call N f45c9 f45a9 (blockC 0 f45a8 J) e σ := runK_block' (by kernel_rfl) (by kernel_rfl)
theorem f45L9_eq {R : Type} (call : CallF R) (N : Nat) (J : KF R) (e : Env) (σ : St) : f45L9 call N J e σ = runK Try.prog call N f45c10 f45a10 J e σ := hide rfl
theorem f45z9_f45e3 (y0 : Int) (y1 : Int) (y2 : Int) (y3 : Int) (y4 : Int) : Ann.clr f45a9 (f45e3 y0 y1 y2 y3 y4) = f45e3 y0 y1 y2 y3 y4 := hide (by kernel_rfl)
theorem f45l9_f45e3 {R : Type} (call : CallF R) (N : Nat) (y0 : Int) (y1 : Int) (y2 : Int) (y3 : Int) (y4 : Int) (J : KF R) (σ : St) : runK Try.prog call N f45c9 f45a9 J (f45e3 y0 y1 y2 y3 y4) σ = loopK (f45L9 call N) f45a9 N J (f45e3 y0 y1 y2 y3 y4) σ := runK_loop' (by kernel_rfl) (by kernel_rfl) (by kernel_rfl)
theorem f45n10 {R : Type} (call : CallF R) (N : Nat) (J : KF R) (e : Env) (σ : St) : runK Try.prog call N f45c10 f45a10 J e σ = runK Try.prog call N f45c11 f45a11 (seqC (fun K e σ => runK Try.prog call N f45c12 f45a12 K e σ) f45a10 J) e σ := runK_seq' (by kernel_rfl) (by kernel_rfl) (by kernel_rfl)
theorem f45n11 {R : Type} (call : CallF R) (N : Nat) (J : KF R) (e : Env) (σ : St) : runK Try.prog call N f45c11 f45a11 J e σ = runK Try.prog call N f45c13 f45a13 (seqC (fun K e σ => runK Try.prog call N f45c14 f45a14 K e σ) f45a11 J) e σ := runK_seq' (by kernel_rfl) (by kernel_rfl) (by kernel_rfl)
theorem f45r13_f45e3 {R : Type} (call : CallF R) (N : Nat) (y0 : Int) (y1 : Int) (y2 : Int) (y3 : Int) (y4 : Int) (J : KF R) (σ : St) :
    runK Try.prog call N f45c13 f45a13 J (f45e3 y0 y1 y2 y3 y4) σ =
J Ex.normal (f45e4 y0 y1 y2 y3 y4 y4 y2 (decide (y4 ≤ y2))) σ := hide (by kernel_rfl)
theorem f45z11_f45e4 (y0 : Int) (y1 : Int) (y2 : Int) (y3 : Int) (y4 : Int) (y5 : Int) (y6 : Int) (y7 : Bool) : Ann.clr f45a11 (f45e4 y0 y1 y2 y3 y4 y5 y6 y7) = f45e5 y0 y1 y2 y3 y4 y7 := hide (by kernel_rfl)
theorem f45x14_f45e5 {R : Type} (call : CallF R) (N : Nat) (y0 : Int) (y1 : Int) (y2 : Int) (y3 : Int) (y4 : Int) (y5 : Bool) (J : KF R) (σ : St) : runK Try.prog call N f45c14 f45a14 J (f45e5 y0 y1 y2 y3 y4 y5) σ = if y5 = true then runK Try.prog call N f45c15 f45a15 (condC f45a14 J) (f45e5 y0 y1 y2 y3 y4 y5) σ else runK Try.prog call N f45c16 f45a16 (condC f45a14 J) (f45e5 y0 y1 y2 y3 y4 y5) σ := runK_cond' (o := Operand.tmp (11 : Nat)) (by kernel_rfl) (by kernel_rfl) (by kernel_rfl) (by kernel_rfl)
theorem f45n15 {R : Type} (call : CallF R) (N : Nat) (J : KF R) (e : Env) (σ : St) : runK Try.prog call N f45c15 f45a15 J e σ = J .normal e σ := runK_skip' (by kernel_rfl)
theorem f45z14_f45e5 (y0 : Int) (y1 : Int) (y2 : Int) (y3 : Int) (y4 : Int) (y5 : Bool) : Ann.clr f45a14 (f45e5 y0 y1 y2 y3 y4 y5) = f45e3 y0 y1 y2 y3 y4 := hide (by kernel_rfl)
theorem f45y16_f45e5 {R : Type} (call : CallF R) (N : Nat) (y0 : Int) (y1 : Int) (y2 : Int) (y3 : Int) (y4 : Int) (y5 : Bool) (J : KF R) (σ : St) : runK Try.prog call N f45c16 f45a16 J (f45e5 y0 y1 y2 y3 y4 y5) σ = J (.exit 0) (f45e2 y0 y1 y2 y3) σ := runK_exit' (by kernel_rfl) (by kernel_rfl)
theorem f45z10_f45e3 (y0 : Int) (y1 : Int) (y2 : Int) (y3 : Int) (y4 : Int) : Ann.clr f45a10 (f45e3 y0 y1 y2 y3 y4) = f45e3 y0 y1 y2 y3 y4 := hide (by kernel_rfl)
theorem f45n12 {R : Type} (call : CallF R) (N : Nat) (J : KF R) (e : Env) (σ : St) : runK Try.prog call N f45c12 f45a12 J e σ = runK Try.prog call N f45c17 f45a17 (seqC (fun K e σ => runK Try.prog call N f45c18 f45a18 K e σ) f45a12 J) e σ := runK_seq' (by kernel_rfl) (by kernel_rfl) (by kernel_rfl)
theorem f45n17 {R : Type} (call : CallF R) (N : Nat) (J : KF R) (e : Env) (σ : St) : runK Try.prog call N f45c17 f45a17 J e σ = runK Try.prog call N f45c19 f45a19 (blockC 1 f45a17 J) e σ := runK_block' (by kernel_rfl) (by kernel_rfl)
theorem f45r19_f45e3 {R : Type} (call : CallF R) (N : Nat) (y0 : Int) (y1 : Int) (y2 : Int) (y3 : Int) (y4 : Int) (J : KF R) (σ : St) :
    runK Try.prog call N f45c19 f45a19 J (f45e3 y0 y1 y2 y3 y4) σ =
if IntKind.wrap IntKind.u64 y4 < (0 : Int) then none
else
  J Ex.normal
    (f45e6 y0 y1 y2
      (IntKind.wrap IntKind.i64
        (y3 +
          IntKind.wrap IntKind.i64
            (↑(BitVec.toNat
                  (BitVec.ofFin
                    (Fin.mk
                      (BitVec.toNat
                          (BitVec.ofFin
                            (Fin.mk
                              (Int.toNat
                                (Int.fdiv y0 ((2 : Int) ^ min (Int.toNat (IntKind.wrap IntKind.u64 y4)) (64 : Nat)) % (18446744073709551616 : Int)))
                              (BitVec.ofInt._proof_1 (IntKind.bits IntKind.i64)
                                (Int.fdiv y0 ((2 : Int) ^ min (Int.toNat (IntKind.wrap IntKind.u64 y4)) (64 : Nat)))))) &&&
                        (1 : Nat))
                      (BitVec.and._proof_1
                        (BitVec.ofInt (IntKind.bits IntKind.i64) (Int.fdiv y0 ((2 : Int) ^ min (Int.toNat (IntKind.wrap IntKind.u64 y4)) (64 : Nat))))
                        (BitVec.ofInt (IntKind.bits IntKind.i64) (1 : Int)))))) :
              Int)))
      y4 y3 y0 y4 (IntKind.wrap IntKind.u64 y4) (Int.fdiv y0 ((2 : Int) ^ min (Int.toNat (IntKind.wrap IntKind.u64 y4)) (64 : Nat)))
      (IntKind.wrap IntKind.i64
        (↑(BitVec.toNat
              (BitVec.ofFin
                (Fin.mk
                  (BitVec.toNat
                      (BitVec.ofFin
                        (Fin.mk
                          (Int.toNat
                            (Int.fdiv y0 ((2 : Int) ^ min (Int.toNat (IntKind.wrap IntKind.u64 y4)) (64 : Nat)) % (18446744073709551616 : Int)))
                          (BitVec.ofInt._proof_1 (IntKind.bits IntKind.i64)
                            (Int.fdiv y0 ((2 : Int) ^ min (Int.toNat (IntKind.wrap IntKind.u64 y4)) (64 : Nat)))))) &&&
                    (1 : Nat))
                  (BitVec.and._proof_1
                    (BitVec.ofInt (IntKind.bits IntKind.i64) (Int.fdiv y0 ((2 : Int) ^ min (Int.toNat (IntKind.wrap IntKind.u64 y4)) (64 : Nat))))
                    (BitVec.ofInt (IntKind.bits IntKind.i64) (1 : Int)))))) :
          Int))
      (IntKind.wrap IntKind.i64
        (y3 +
          IntKind.wrap IntKind.i64
            (↑(BitVec.toNat
                  (BitVec.ofFin
                    (Fin.mk
                      (BitVec.toNat
                          (BitVec.ofFin
                            (Fin.mk
                              (Int.toNat
                                (Int.fdiv y0 ((2 : Int) ^ min (Int.toNat (IntKind.wrap IntKind.u64 y4)) (64 : Nat)) % (18446744073709551616 : Int)))
                              (BitVec.ofInt._proof_1 (IntKind.bits IntKind.i64)
                                (Int.fdiv y0 ((2 : Int) ^ min (Int.toNat (IntKind.wrap IntKind.u64 y4)) (64 : Nat)))))) &&&
                        (1 : Nat))
                      (BitVec.and._proof_1
                        (BitVec.ofInt (IntKind.bits IntKind.i64) (Int.fdiv y0 ((2 : Int) ^ min (Int.toNat (IntKind.wrap IntKind.u64 y4)) (64 : Nat))))
                        (BitVec.ofInt (IntKind.bits IntKind.i64) (1 : Int)))))) :
              Int))))
    σ := hide (by kernel_rfl)
theorem f45z17_f45e6 (y0 : Int) (y1 : Int) (y2 : Int) (y3 : Int) (y4 : Int) (y5 : Int) (y6 : Int) (y7 : Int) (y8 : Int) (y9 : Int) (y10 : Int) (y11 : Int) : Ann.clr f45a17 (f45e6 y0 y1 y2 y3 y4 y5 y6 y7 y8 y9 y10 y11) = f45e3 y0 y1 y2 y3 y4 := hide (by kernel_rfl)
theorem f45z12_f45e3 (y0 : Int) (y1 : Int) (y2 : Int) (y3 : Int) (y4 : Int) : Ann.clr f45a12 (f45e3 y0 y1 y2 y3 y4) = f45e3 y0 y1 y2 y3 y4 := hide (by kernel_rfl)
theorem f45r18_f45e3 {R : Type} (call : CallF R) (N : Nat) (y0 : Int) (y1 : Int) (y2 : Int) (y3 : Int) (y4 : Int) (J : KF R) (σ : St) :
    runK Try.prog call N f45c18 f45a18 J (f45e3 y0 y1 y2 y3 y4) σ =
J Ex.normal (f45e7 y0 y1 y2 y3 (IntKind.wrap IntKind.i64 (y4 + (1 : Int))) y4 (IntKind.wrap IntKind.i64 (y4 + (1 : Int)))) σ := hide (by kernel_rfl)
theorem f45z9_f45e7 (y0 : Int) (y1 : Int) (y2 : Int) (y3 : Int) (y4 : Int) (y5 : Int) (y6 : Int) : Ann.clr f45a9 (f45e7 y0 y1 y2 y3 y4 y5 y6) = f45e3 y0 y1 y2 y3 y4 := hide (by kernel_rfl)
theorem f45z8_f45e2 (y0 : Int) (y1 : Int) (y2 : Int) (y3 : Int) : Ann.clr f45a8 (f45e2 y0 y1 y2 y3) = f45e2 y0 y1 y2 y3 := hide (by kernel_rfl)
theorem f45z4_f45e2 (y0 : Int) (y1 : Int) (y2 : Int) (y3 : Int) : Ann.clr f45a4 (f45e2 y0 y1 y2 y3) = f45e2 y0 y1 y2 y3 := hide (by kernel_rfl)
theorem f45n6 {R : Type} (call : CallF R) (N : Nat) (J : KF R) (e : Env) (σ : St) : runK Try.prog call N f45c6 f45a6 J e σ = runK Try.prog call N f45c20 f45a20 (seqC (fun K e σ => runK Try.prog call N f45c21 f45a21 K e σ) f45a6 J) e σ := runK_seq' (by kernel_rfl) (by kernel_rfl) (by kernel_rfl)
theorem f45r20_f45e2 {R : Type} (call : CallF R) (N : Nat) (y0 : Int) (y1 : Int) (y2 : Int) (y3 : Int) (J : KF R) (σ : St) :
    runK Try.prog call N f45c20 f45a20 J (f45e2 y0 y1 y2 y3) σ =
if IntKind.wrap IntKind.u64 y2 < (0 : Int) then none
else
  if
      (IntKind.wrap IntKind.i64
            (↑(BitVec.toNat
                  (BitVec.ofFin
                    (Fin.mk
                      (BitVec.toNat
                          (BitVec.ofFin
                            (Fin.mk
                              (Int.toNat
                                (Int.fdiv y0 ((2 : Int) ^ min (Int.toNat (IntKind.wrap IntKind.u64 y2)) (64 : Nat)) % (18446744073709551616 : Int)))
                              (BitVec.ofInt._proof_1 (IntKind.bits IntKind.i64)
                                (Int.fdiv y0 ((2 : Int) ^ min (Int.toNat (IntKind.wrap IntKind.u64 y2)) (64 : Nat)))))) &&&
                        (1 : Nat))
                      (BitVec.and._proof_1
                        (BitVec.ofInt (IntKind.bits IntKind.i64) (Int.fdiv y0 ((2 : Int) ^ min (Int.toNat (IntKind.wrap IntKind.u64 y2)) (64 : Nat))))
                        (BitVec.ofInt (IntKind.bits IntKind.i64) (1 : Int)))))) :
              Int) ==
          (1 : Int)) =
        true then
    J Ex.normal
      (f45e8 y0 y1 y2 (decide (y3 ≤ y1)) y3 y0 y2 (IntKind.wrap IntKind.u64 y2)
        (Int.fdiv y0 ((2 : Int) ^ min (Int.toNat (IntKind.wrap IntKind.u64 y2)) (64 : Nat)))
        (IntKind.wrap IntKind.i64
          (↑(BitVec.toNat
                (BitVec.ofFin
                  (Fin.mk
                    (BitVec.toNat
                        (BitVec.ofFin
                          (Fin.mk
                            (Int.toNat
                              (Int.fdiv y0 ((2 : Int) ^ min (Int.toNat (IntKind.wrap IntKind.u64 y2)) (64 : Nat)) % (18446744073709551616 : Int)))
                            (BitVec.ofInt._proof_1 (IntKind.bits IntKind.i64)
                              (Int.fdiv y0 ((2 : Int) ^ min (Int.toNat (IntKind.wrap IntKind.u64 y2)) (64 : Nat)))))) &&&
                      (1 : Nat))
                    (BitVec.and._proof_1
                      (BitVec.ofInt (IntKind.bits IntKind.i64) (Int.fdiv y0 ((2 : Int) ^ min (Int.toNat (IntKind.wrap IntKind.u64 y2)) (64 : Nat))))
                      (BitVec.ofInt (IntKind.bits IntKind.i64) (1 : Int)))))) :
            Int))
        (IntKind.wrap IntKind.i64
            (↑(BitVec.toNat
                  (BitVec.ofFin
                    (Fin.mk
                      (BitVec.toNat
                          (BitVec.ofFin
                            (Fin.mk
                              (Int.toNat
                                (Int.fdiv y0 ((2 : Int) ^ min (Int.toNat (IntKind.wrap IntKind.u64 y2)) (64 : Nat)) % (18446744073709551616 : Int)))
                              (BitVec.ofInt._proof_1 (IntKind.bits IntKind.i64)
                                (Int.fdiv y0 ((2 : Int) ^ min (Int.toNat (IntKind.wrap IntKind.u64 y2)) (64 : Nat)))))) &&&
                        (1 : Nat))
                      (BitVec.and._proof_1
                        (BitVec.ofInt (IntKind.bits IntKind.i64) (Int.fdiv y0 ((2 : Int) ^ min (Int.toNat (IntKind.wrap IntKind.u64 y2)) (64 : Nat))))
                        (BitVec.ofInt (IntKind.bits IntKind.i64) (1 : Int)))))) :
              Int) ==
          (1 : Int))
        true y3 y1 (decide (y3 ≤ y1)) (decide (y3 ≤ y1)))
      σ
  else
    J Ex.normal
      (f45e9 y0 y1 y2 false y3 y0 y2 (IntKind.wrap IntKind.u64 y2)
        (Int.fdiv y0 ((2 : Int) ^ min (Int.toNat (IntKind.wrap IntKind.u64 y2)) (64 : Nat)))
        (IntKind.wrap IntKind.i64
          (↑(BitVec.toNat
                (BitVec.ofFin
                  (Fin.mk
                    (BitVec.toNat
                        (BitVec.ofFin
                          (Fin.mk
                            (Int.toNat
                              (Int.fdiv y0 ((2 : Int) ^ min (Int.toNat (IntKind.wrap IntKind.u64 y2)) (64 : Nat)) % (18446744073709551616 : Int)))
                            (BitVec.ofInt._proof_1 (IntKind.bits IntKind.i64)
                              (Int.fdiv y0 ((2 : Int) ^ min (Int.toNat (IntKind.wrap IntKind.u64 y2)) (64 : Nat)))))) &&&
                      (1 : Nat))
                    (BitVec.and._proof_1
                      (BitVec.ofInt (IntKind.bits IntKind.i64) (Int.fdiv y0 ((2 : Int) ^ min (Int.toNat (IntKind.wrap IntKind.u64 y2)) (64 : Nat))))
                      (BitVec.ofInt (IntKind.bits IntKind.i64) (1 : Int)))))) :
            Int))
        (IntKind.wrap IntKind.i64
            (↑(BitVec.toNat
                  (BitVec.ofFin
                    (Fin.mk
                      (BitVec.toNat
                          (BitVec.ofFin
                            (Fin.mk
                              (Int.toNat
                                (Int.fdiv y0 ((2 : Int) ^ min (Int.toNat (IntKind.wrap IntKind.u64 y2)) (64 : Nat)) % (18446744073709551616 : Int)))
                              (BitVec.ofInt._proof_1 (IntKind.bits IntKind.i64)
                                (Int.fdiv y0 ((2 : Int) ^ min (Int.toNat (IntKind.wrap IntKind.u64 y2)) (64 : Nat)))))) &&&
                        (1 : Nat))
                      (BitVec.and._proof_1
                        (BitVec.ofInt (IntKind.bits IntKind.i64) (Int.fdiv y0 ((2 : Int) ^ min (Int.toNat (IntKind.wrap IntKind.u64 y2)) (64 : Nat))))
                        (BitVec.ofInt (IntKind.bits IntKind.i64) (1 : Int)))))) :
              Int) ==
          (1 : Int))
        false false)
      σ := hide (by kernel_rfl)
theorem f45z6_f45e8 (y0 : Int) (y1 : Int) (y2 : Int) (y3 : Bool) (y4 : Int) (y5 : Int) (y6 : Int) (y7 : Int) (y8 : Int) (y9 : Int) (y10 : Bool) (y11 : Bool) (y12 : Int) (y13 : Int) (y14 : Bool) (y15 : Bool) : Ann.clr f45a6 (f45e8 y0 y1 y2 y3 y4 y5 y6 y7 y8 y9 y10 y11 y12 y13 y14 y15) = f45e10 y3 := hide (by kernel_rfl)
theorem f45y21_f45e10 {R : Type} (call : CallF R) (N : Nat) (y0 : Bool) (J : KF R) (σ : St) : runK Try.prog call N f45c21 f45a21 J (f45e10 y0) σ = J .ret (f45e10 y0) σ := runK_ret' (by kernel_rfl) (by kernel_rfl)
theorem f45z6_f45e9 (y0 : Int) (y1 : Int) (y2 : Int) (y3 : Bool) (y4 : Int) (y5 : Int) (y6 : Int) (y7 : Int) (y8 : Int) (y9 : Int) (y10 : Bool) (y11 : Bool) (y12 : Bool) : Ann.clr f45a6 (f45e9 y0 y1 y2 y3 y4 y5 y6 y7 y8 y9 y10 y11 y12) = f45e10 y3 := hide (by kernel_rfl)
theorem f45b_f45e10_r {R : Type} (y0 : Bool) (σ : St) (K : AV → St → Option R) : bodyC Try.prog f45rs K (Ex.ret) (f45e10 y0) σ =
K (AV.bool y0) σ := hide (by kernel_rfl)
attribute [go_sem] f45_eq f45n0 f45r1_f45e0 f45z0_f45e1 f45n2 f45r3_f45e0 f45z2_f45e2 f45n4 f45n5 f45r7_f45e2 f45z5_f45e3 f45n8 f45L9_eq f45z9_f45e3 f45l9_f45e3 f45n10 f45n11 f45r13_f45e3 f45z11_f45e4 f45x14_f45e5 f45n15 f45z14_f45e5 f45y16_f45e5 f45z10_f45e3 f45n12 f45n17 f45r19_f45e3 f45z17_f45e6 f45z12_f45e3 f45r18_f45e3 f45z9_f45e7 f45z8_f45e2 f45z4_f45e2 f45n6 f45r20_f45e2 f45z6_f45e8 f45y21_f45e10 f45z6_f45e9 f45b_f45e10_r

end Go.Proofs.Ytmgacgonoodkfaa
