/- What the machine does with each piece of code, in plain text. PRINTED by a program of this workplace; Lean checks it. -/
import Derived.Test.YtmgacgonoodkfaaWiAnn
import Derived.Test.YtmgacgonoodkfaaProg
import Derived.KernelRfl
import Derived.Attr
namespace Go.Proofs.Ytmgacgonoodkfaa
open Go.AM
set_option maxRecDepth 100000
set_option linter.unusedVariables false
noncomputable def f15rs : List ResultVar := [ResultVar.tmp (0 : Nat)]
noncomputable def f15c0 : Code := subCode [] (bodyOf Try.prog 15)
def f15a0 : Ann := subAnn [] ann15
noncomputable def f15c1 : Code := subCode [0] (bodyOf Try.prog 15)
def f15a1 : Ann := subAnn [0] ann15
noncomputable def f15c2 : Code := subCode [1] (bodyOf Try.prog 15)
def f15a2 : Ann := subAnn [1] ann15
noncomputable def f15c3 : Code := subCode [1, 0] (bodyOf Try.prog 15)
def f15a3 : Ann := subAnn [1, 0] ann15
noncomputable def f15c4 : Code := subCode [1, 1] (bodyOf Try.prog 15)
def f15a4 : Ann := subAnn [1, 1] ann15
noncomputable def f15c5 : Code := subCode [1, 1, 0] (bodyOf Try.prog 15)
def f15a5 : Ann := subAnn [1, 1, 0] ann15
noncomputable def f15c6 : Code := subCode [1, 1, 1] (bodyOf Try.prog 15)
def f15a6 : Ann := subAnn [1, 1, 1] ann15
noncomputable def f15c7 : Code := subCode [1, 1, 0, 0] (bodyOf Try.prog 15)
def f15a7 : Ann := subAnn [1, 1, 0, 0] ann15
noncomputable def f15c8 : Code := subCode [1, 1, 0, 1] (bodyOf Try.prog 15)
def f15a8 : Ann := subAnn [1, 1, 0, 1] ann15
noncomputable def f15c9 : Code := subCode [1, 1, 0, 1, 0] (bodyOf Try.prog 15)
def f15a9 : Ann := subAnn [1, 1, 0, 1, 0] ann15
noncomputable def f15c10 : Code := subCode [1, 1, 0, 1, 1] (bodyOf Try.prog 15)
def f15a10 : Ann := subAnn [1, 1, 0, 1, 1] ann15
noncomputable def f15c11 : Code := subCode [1, 1, 0, 1, 0, 0] (bodyOf Try.prog 15)
def f15a11 : Ann := subAnn [1, 1, 0, 1, 0, 0] ann15
noncomputable def f15c12 : Code := subCode [1, 1, 0, 1, 0, 1] (bodyOf Try.prog 15)
def f15a12 : Ann := subAnn [1, 1, 0, 1, 0, 1] ann15
noncomputable def f15c13 : Code := subCode [1, 1, 1, 0] (bodyOf Try.prog 15)
def f15a13 : Ann := subAnn [1, 1, 1, 0] ann15
noncomputable def f15c14 : Code := subCode [1, 1, 1, 1] (bodyOf Try.prog 15)
def f15a14 : Ann := subAnn [1, 1, 1, 1] ann15
noncomputable def f15c15 : Code := subCode [1, 1, 1, 1, 0] (bodyOf Try.prog 15)
def f15a15 : Ann := subAnn [1, 1, 1, 1, 0] ann15
noncomputable def f15c16 : Code := subCode [1, 1, 1, 1, 1] (bodyOf Try.prog 15)
def f15a16 : Ann := subAnn [1, 1, 1, 1, 1] ann15
noncomputable def f15c17 : Code := subCode [1, 1, 1, 1, 1, 0] (bodyOf Try.prog 15)
def f15a17 : Ann := subAnn [1, 1, 1, 1, 1, 0] ann15
noncomputable def f15c18 : Code := subCode [1, 1, 1, 1, 1, 1] (bodyOf Try.prog 15)
def f15a18 : Ann := subAnn [1, 1, 1, 1, 1, 1] ann15
noncomputable def f15c19 : Code := subCode [1, 1, 1, 1, 1, 1, 0] (bodyOf Try.prog 15)
def f15a19 : Ann := subAnn [1, 1, 1, 1, 1, 1, 0] ann15
noncomputable def f15c20 : Code := subCode [1, 1, 1, 1, 1, 1, 1] (bodyOf Try.prog 15)
def f15a20 : Ann := subAnn [1, 1, 1, 1, 1, 1, 1] ann15
noncomputable def f15c21 : Code := subCode [1, 1, 1, 1, 1, 1, 1, 0] (bodyOf Try.prog 15)
def f15a21 : Ann := subAnn [1, 1, 1, 1, 1, 1, 1, 0] ann15
noncomputable def f15c22 : Code := subCode [1, 1, 1, 1, 1, 1, 1, 1] (bodyOf Try.prog 15)
def f15a22 : Ann := subAnn [1, 1, 1, 1, 1, 1, 1, 1] ann15
noncomputable def f15c23 : Code := subCode [1, 1, 1, 1, 1, 1, 1, 1, 0] (bodyOf Try.prog 15)
def f15a23 : Ann := subAnn [1, 1, 1, 1, 1, 1, 1, 1, 0] ann15
noncomputable def f15c24 : Code := subCode [1, 1, 1, 1, 1, 1, 1, 1, 1] (bodyOf Try.prog 15)
def f15a24 : Ann := subAnn [1, 1, 1, 1, 1, 1, 1, 1, 1] ann15
def f15e0 : Env := Env.sp 82 []
def f15e1 (y0 : Bool) : Env := AV.bool y0 :: Env.sp 81 []
def f15e2 (y0 : Option (Nat × Nat)) (y1 : Int) (y2 : Option (Nat × Nat)) (y3 : Int) (y4 : Option (Nat × Nat)) (y5 : Int) (y6 : Option (Nat × Nat)) (y7 : Int) : Env := Env.sp 1 (AV.ptr y0 :: AV.int IntKind.i64 y1 :: Env.sp 10 (AV.tuple [AV.ptr y2, AV.int IntKind.i64 y3] :: AV.tuple [AV.ptr y4, AV.int IntKind.i64 y5] :: AV.ptr y6 :: AV.int IntKind.i64 y7 :: Env.sp 65 []))
def f15e3 (y0 : Option (Nat × Nat)) (y1 : Int) : Env := Env.sp 1 (AV.ptr y0 :: AV.int IntKind.i64 y1 :: Env.sp 79 [])
def f15e4 (y0 : Option (Nat × Nat)) (y1 : Int) (y2 : Int) (y3 : Bool) (y4 : Bool) (y5 : Bool) : Env := Env.sp 1 (AV.ptr y0 :: AV.int IntKind.i64 y1 :: Env.sp 14 (AV.int IntKind.i64 y2 :: AV.bool y3 :: AV.bool y4 :: AV.tuple [] :: AV.tuple [] :: AV.bool y5 :: Env.sp 59 []))
def f15e5 (y0 : Option (Nat × Nat)) (y1 : Int) (y2 : Int) (y3 : Bool) (y4 : Bool) (y5 : Option (Nat × Nat)) (y6 : Bool) (y7 : Bool) : Env := Env.sp 1 (AV.ptr y0 :: AV.int IntKind.i64 y1 :: Env.sp 14 (AV.int IntKind.i64 y2 :: AV.bool y3 :: AV.bool y4 :: AV.ptr y5 :: AV.bool y6 :: AV.bool y7 :: Env.sp 59 []))
def f15e6 (y0 : Option (Nat × Nat)) (y1 : Bool) : Env := Env.sp 1 (AV.ptr y0 :: Env.sp 20 (AV.bool y1 :: Env.sp 59 []))
def f15e7 (y0 : Bool) (y1 : Option (Nat × Nat)) (y2 : Bool) : Env := AV.bool y0 :: AV.ptr y1 :: Env.sp 20 (AV.bool y2 :: Env.sp 59 [])
def f15e8 (y0 : Option (Nat × Nat)) : Env := Env.sp 1 (AV.ptr y0 :: Env.sp 80 [])
def f15e9 (y0 : Option (Nat × Nat)) (y1 : Option (Nat × Nat)) (y2 : Int) (y3 : Option (Nat × Nat)) (y4 : Int) (y5 : Option (Nat × Nat)) (y6 : Option (Nat × Nat)) (y7 : Int) (y8 : Option (Nat × Nat)) (y9 : Int) : Env := Env.sp 1 (AV.ptr y0 :: Env.sp 1 (AV.ptr y1 :: AV.int IntKind.i64 y2 :: Env.sp 18 (AV.tuple [AV.ptr y3, AV.int IntKind.i64 y4] :: AV.ptr y5 :: AV.tuple [AV.ptr y6, AV.int IntKind.i64 y7] :: AV.ptr y8 :: AV.int IntKind.i64 y9 :: Env.sp 54 [])))
def f15e10 (y0 : Option (Nat × Nat)) (y1 : Option (Nat × Nat)) (y2 : Int) : Env := Env.sp 1 (AV.ptr y0 :: Env.sp 1 (AV.ptr y1 :: AV.int IntKind.i64 y2 :: Env.sp 77 []))
def f15e11 (y0 : Option (Nat × Nat)) (y1 : Option (Nat × Nat)) (y2 : Int) (y3 : Option (Nat × Nat)) (y4 : Int) (y5 : Option (Nat × Nat)) (y6 : Int) (y7 : Option (Nat × Nat)) (y8 : Option (Nat × Nat)) (y9 : Int) (y10 : Option (Nat × Nat)) (y11 : Int) : Env := Env.sp 1 (AV.ptr y0 :: Env.sp 1 (AV.ptr y1 :: AV.int IntKind.i64 y2 :: AV.ptr y3 :: AV.int IntKind.i64 y4 :: Env.sp 21 (AV.tuple [AV.ptr y5, AV.int IntKind.i64 y6] :: AV.ptr y7 :: AV.tuple [AV.ptr y8, AV.int IntKind.i64 y9] :: AV.ptr y10 :: AV.int IntKind.i64 y11 :: Env.sp 49 [])))
def f15e12 (y0 : Option (Nat × Nat)) (y1 : Option (Nat × Nat)) (y2 : Int) (y3 : Int) : Env := Env.sp 1 (AV.ptr y0 :: Env.sp 1 (AV.ptr y1 :: AV.int IntKind.i64 y2 :: Env.sp 1 (AV.int IntKind.i64 y3 :: Env.sp 75 [])))
def f15e13 (y0 : Option (Nat × Nat)) (y1 : Option (Nat × Nat)) (y2 : Int) (y3 : Int) (y4 : Bool) (y5 : Int) (y6 : Bool) (y7 : Int) (y8 : Option (Nat × Nat)) (y9 : Bool) (y10 : Int) (y11 : Bool) (y12 : Int) : Env := Env.sp 1 (AV.ptr y0 :: Env.sp 1 (AV.ptr y1 :: AV.int IntKind.i64 y2 :: Env.sp 1 (AV.int IntKind.i64 y3 :: AV.bool y4 :: AV.int IntKind.i64 y5 :: Env.sp 24 (AV.tuple [AV.bool y6, AV.int IntKind.i64 y7] :: AV.ptr y8 :: AV.tuple [AV.bool y9, AV.int IntKind.i64 y10] :: AV.bool y11 :: AV.int IntKind.i64 y12 :: Env.sp 44 []))))
def f15e14 (y0 : Option (Nat × Nat)) (y1 : Option (Nat × Nat)) (y2 : Int) (y3 : Int) (y4 : Bool) (y5 : Int) : Env := Env.sp 1 (AV.ptr y0 :: Env.sp 1 (AV.ptr y1 :: AV.int IntKind.i64 y2 :: Env.sp 1 (AV.int IntKind.i64 y3 :: AV.bool y4 :: AV.int IntKind.i64 y5 :: Env.sp 73 [])))
def f15e15 (y0 : Option (Nat × Nat)) (y1 : Option (Nat × Nat)) (y2 : Int) (y3 : Int) (y4 : Bool) (y5 : Int) (y6 : Option (Nat × Nat)) (y7 : Int) (y8 : Option (Nat × Nat)) (y9 : Int) (y10 : Option (Nat × Nat)) (y11 : Option (Nat × Nat)) (y12 : Int) (y13 : Option (Nat × Nat)) (y14 : Int) : Env := Env.sp 1 (AV.ptr y0 :: Env.sp 1 (AV.ptr y1 :: AV.int IntKind.i64 y2 :: Env.sp 1 (AV.int IntKind.i64 y3 :: AV.bool y4 :: AV.int IntKind.i64 y5 :: AV.ptr y6 :: AV.int IntKind.i64 y7 :: Env.sp 27 (AV.tuple [AV.ptr y8, AV.int IntKind.i64 y9] :: AV.ptr y10 :: AV.tuple [AV.ptr y11, AV.int IntKind.i64 y12] :: AV.ptr y13 :: AV.int IntKind.i64 y14 :: Env.sp 39 []))))
def f15e16 (y0 : Option (Nat × Nat)) (y1 : Option (Nat × Nat)) (y2 : Int) (y3 : Int) (y4 : Bool) (y5 : Int) (y6 : Int) : Env := Env.sp 1 (AV.ptr y0 :: Env.sp 1 (AV.ptr y1 :: AV.int IntKind.i64 y2 :: Env.sp 1 (AV.int IntKind.i64 y3 :: AV.bool y4 :: AV.int IntKind.i64 y5 :: Env.sp 1 (AV.int IntKind.i64 y6 :: Env.sp 71 []))))
def f15e17 (y0 : Option (Nat × Nat)) (y1 : Option (Nat × Nat)) (y2 : Int) (y3 : Int) (y4 : Bool) (y5 : Int) (y6 : Int) (y7 : Option (Nat × Nat)) (y8 : Int) (y9 : Option (Nat × Nat)) (y10 : Int) (y11 : Option (Nat × Nat)) (y12 : Option (Nat × Nat)) (y13 : Int) (y14 : Option (Nat × Nat)) (y15 : Int) : Env := Env.sp 1 (AV.ptr y0 :: Env.sp 1 (AV.ptr y1 :: AV.int IntKind.i64 y2 :: Env.sp 1 (AV.int IntKind.i64 y3 :: AV.bool y4 :: AV.int IntKind.i64 y5 :: Env.sp 1 (AV.int IntKind.i64 y6 :: AV.ptr y7 :: AV.int IntKind.i64 y8 :: Env.sp 30 (AV.tuple [AV.ptr y9, AV.int IntKind.i64 y10] :: AV.ptr y11 :: AV.tuple [AV.ptr y12, AV.int IntKind.i64 y13] :: AV.ptr y14 :: AV.int IntKind.i64 y15 :: Env.sp 34 [])))))
def f15e18 (y0 : Option (Nat × Nat)) (y1 : Option (Nat × Nat)) (y2 : Int) (y3 : Int) (y4 : Bool) (y5 : Int) (y6 : Int) (y7 : Option (Nat × Nat)) (y8 : Int) : Env := Env.sp 1 (AV.ptr y0 :: Env.sp 1 (AV.ptr y1 :: AV.int IntKind.i64 y2 :: Env.sp 1 (AV.int IntKind.i64 y3 :: AV.bool y4 :: AV.int IntKind.i64 y5 :: Env.sp 1 (AV.int IntKind.i64 y6 :: AV.ptr y7 :: AV.int IntKind.i64 y8 :: Env.sp 69 []))))
def f15e19 (y0 : Bool) (y1 : Option (Nat × Nat)) (y2 : Option (Nat × Nat)) (y3 : Int) (y4 : Int) (y5 : Bool) (y6 : Int) (y7 : Int) (y8 : Option (Nat × Nat)) (y9 : Int) (y10 : Int) (y11 : Bool) (y12 : Bool) (y13 : Option (Nat × Nat)) (y14 : Bool) (y15 : Bool) (y16 : Bool) (y17 : Int) (y18 : Bool) (y19 : Bool) (y20 : Bool) (y21 : Int) (y22 : Bool) (y23 : Bool) (y24 : Bool) (y25 : Bool) (y26 : Bool) (y27 : Bool) (y28 : Int) (y29 : Bool) (y30 : Bool) (y31 : Bool) (y32 : Int) (y33 : Bool) (y34 : Bool) (y35 : Bool) (y36 : Option (Nat × Nat)) (y37 : Bool) (y38 : Bool) (y39 : Bool) (y40 : Option (Nat × Nat)) (y41 : Int) (y42 : Bool) (y43 : Bool) : Env := AV.bool y0 :: AV.ptr y1 :: Env.sp 1 (AV.ptr y2 :: AV.int IntKind.i64 y3 :: Env.sp 1 (AV.int IntKind.i64 y4 :: AV.bool y5 :: AV.int IntKind.i64 y6 :: Env.sp 1 (AV.int IntKind.i64 y7 :: AV.ptr y8 :: AV.int IntKind.i64 y9 :: Env.sp 35 (AV.int IntKind.i64 y10 :: AV.bool y11 :: AV.bool y12 :: AV.ptr y13 :: AV.bool y14 :: AV.bool y15 :: AV.bool y16 :: AV.int IntKind.i64 y17 :: AV.bool y18 :: AV.bool y19 :: AV.bool y20 :: AV.int IntKind.i64 y21 :: AV.bool y22 :: AV.bool y23 :: AV.bool y24 :: AV.bool y25 :: AV.bool y26 :: AV.bool y27 :: AV.int IntKind.i64 y28 :: AV.bool y29 :: AV.bool y30 :: AV.bool y31 :: AV.int IntKind.i64 y32 :: AV.bool y33 :: AV.bool y34 :: AV.bool y35 :: AV.ptr y36 :: AV.bool y37 :: AV.bool y38 :: AV.bool y39 :: AV.ptr y40 :: AV.int IntKind.i64 y41 :: AV.bool y42 :: AV.bool y43 :: []))))
def f15e20 (y0 : Bool) (y1 : Option (Nat × Nat)) (y2 : Option (Nat × Nat)) (y3 : Int) (y4 : Int) (y5 : Bool) (y6 : Int) (y7 : Int) (y8 : Option (Nat × Nat)) (y9 : Int) (y10 : Int) (y11 : Bool) (y12 : Bool) (y13 : Option (Nat × Nat)) (y14 : Bool) (y15 : Bool) (y16 : Bool) (y17 : Int) (y18 : Bool) (y19 : Bool) (y20 : Bool) (y21 : Int) (y22 : Bool) (y23 : Bool) (y24 : Bool) (y25 : Bool) (y26 : Bool) (y27 : Bool) (y28 : Int) (y29 : Bool) (y30 : Bool) (y31 : Bool) (y32 : Int) (y33 : Bool) (y34 : Bool) (y35 : Bool) (y36 : Option (Nat × Nat)) (y37 : Bool) (y38 : Bool) (y39 : Bool) (y40 : Bool) : Env := AV.bool y0 :: AV.ptr y1 :: Env.sp 1 (AV.ptr y2 :: AV.int IntKind.i64 y3 :: Env.sp 1 (AV.int IntKind.i64 y4 :: AV.bool y5 :: AV.int IntKind.i64 y6 :: Env.sp 1 (AV.int IntKind.i64 y7 :: AV.ptr y8 :: AV.int IntKind.i64 y9 :: Env.sp 35 (AV.int IntKind.i64 y10 :: AV.bool y11 :: AV.bool y12 :: AV.ptr y13 :: AV.bool y14 :: AV.bool y15 :: AV.bool y16 :: AV.int IntKind.i64 y17 :: AV.bool y18 :: AV.bool y19 :: AV.bool y20 :: AV.int IntKind.i64 y21 :: AV.bool y22 :: AV.bool y23 :: AV.bool y24 :: AV.bool y25 :: AV.bool y26 :: AV.bool y27 :: AV.int IntKind.i64 y28 :: AV.bool y29 :: AV.bool y30 :: AV.bool y31 :: AV.int IntKind.i64 y32 :: AV.bool y33 :: AV.bool y34 :: AV.bool y35 :: AV.ptr y36 :: AV.bool y37 :: AV.bool y38 :: AV.bool y39 :: AV.tuple [] :: AV.tuple [] :: AV.tuple [] :: AV.bool y40 :: []))))
def f15e21 (y0 : Bool) (y1 : Option (Nat × Nat)) (y2 : Option (Nat × Nat)) (y3 : Int) (y4 : Int) (y5 : Bool) (y6 : Int) (y7 : Int) (y8 : Option (Nat × Nat)) (y9 : Int) (y10 : Int) (y11 : Bool) (y12 : Bool) (y13 : Option (Nat × Nat)) (y14 : Bool) (y15 : Bool) (y16 : Bool) (y17 : Int) (y18 : Bool) (y19 : Bool) (y20 : Bool) (y21 : Int) (y22 : Bool) (y23 : Bool) (y24 : Bool) (y25 : Bool) (y26 : Bool) (y27 : Bool) (y28 : Int) (y29 : Bool) (y30 : Bool) (y31 : Bool) (y32 : Int) (y33 : Bool) (y34 : Bool) (y35 : Bool) (y36 : Bool) (y37 : Bool) (y38 : Bool) : Env := AV.bool y0 :: AV.ptr y1 :: Env.sp 1 (AV.ptr y2 :: AV.int IntKind.i64 y3 :: Env.sp 1 (AV.int IntKind.i64 y4 :: AV.bool y5 :: AV.int IntKind.i64 y6 :: Env.sp 1 (AV.int IntKind.i64 y7 :: AV.ptr y8 :: AV.int IntKind.i64 y9 :: Env.sp 35 (AV.int IntKind.i64 y10 :: AV.bool y11 :: AV.bool y12 :: AV.ptr y13 :: AV.bool y14 :: AV.bool y15 :: AV.bool y16 :: AV.int IntKind.i64 y17 :: AV.bool y18 :: AV.bool y19 :: AV.bool y20 :: AV.int IntKind.i64 y21 :: AV.bool y22 :: AV.bool y23 :: AV.bool y24 :: AV.bool y25 :: AV.bool y26 :: AV.bool y27 :: AV.int IntKind.i64 y28 :: AV.bool y29 :: AV.bool y30 :: AV.bool y31 :: AV.int IntKind.i64 y32 :: AV.bool y33 :: AV.bool y34 :: AV.bool y35 :: AV.tuple [] :: AV.tuple [] :: AV.bool y36 :: AV.bool y37 :: AV.tuple [] :: AV.tuple [] :: AV.tuple [] :: AV.bool y38 :: []))))
def f15e22 (y0 : Bool) (y1 : Option (Nat × Nat)) (y2 : Option (Nat × Nat)) (y3 : Int) (y4 : Int) (y5 : Bool) (y6 : Int) (y7 : Int) (y8 : Option (Nat × Nat)) (y9 : Int) (y10 : Int) (y11 : Bool) (y12 : Bool) (y13 : Option (Nat × Nat)) (y14 : Bool) (y15 : Bool) (y16 : Bool) (y17 : Int) (y18 : Bool) (y19 : Bool) (y20 : Bool) (y21 : Int) (y22 : Bool) (y23 : Bool) (y24 : Bool) (y25 : Bool) (y26 : Bool) (y27 : Bool) (y28 : Int) (y29 : Bool) (y30 : Bool) (y31 : Bool) (y32 : Bool) (y33 : Bool) (y34 : Bool) (y35 : Bool) (y36 : Bool) : Env := AV.bool y0 :: AV.ptr y1 :: Env.sp 1 (AV.ptr y2 :: AV.int IntKind.i64 y3 :: Env.sp 1 (AV.int IntKind.i64 y4 :: AV.bool y5 :: AV.int IntKind.i64 y6 :: Env.sp 1 (AV.int IntKind.i64 y7 :: AV.ptr y8 :: AV.int IntKind.i64 y9 :: Env.sp 35 (AV.int IntKind.i64 y10 :: AV.bool y11 :: AV.bool y12 :: AV.ptr y13 :: AV.bool y14 :: AV.bool y15 :: AV.bool y16 :: AV.int IntKind.i64 y17 :: AV.bool y18 :: AV.bool y19 :: AV.bool y20 :: AV.int IntKind.i64 y21 :: AV.bool y22 :: AV.bool y23 :: AV.bool y24 :: AV.bool y25 :: AV.bool y26 :: AV.bool y27 :: AV.int IntKind.i64 y28 :: AV.bool y29 :: AV.bool y30 :: AV.bool y31 :: AV.tuple [] :: AV.tuple [] :: AV.bool y32 :: AV.bool y33 :: AV.tuple [] :: AV.tuple [] :: AV.bool y34 :: AV.bool y35 :: AV.tuple [] :: AV.tuple [] :: AV.tuple [] :: AV.bool y36 :: []))))
def f15e23 (y0 : Bool) (y1 : Option (Nat × Nat)) (y2 : Option (Nat × Nat)) (y3 : Int) (y4 : Int) (y5 : Bool) (y6 : Int) (y7 : Int) (y8 : Option (Nat × Nat)) (y9 : Int) (y10 : Int) (y11 : Bool) (y12 : Bool) (y13 : Option (Nat × Nat)) (y14 : Bool) (y15 : Bool) (y16 : Bool) (y17 : Int) (y18 : Bool) (y19 : Bool) (y20 : Bool) (y21 : Int) (y22 : Bool) (y23 : Bool) (y24 : Bool) (y25 : Bool) (y26 : Bool) (y27 : Bool) (y28 : Bool) (y29 : Bool) (y30 : Bool) (y31 : Bool) (y32 : Bool) (y33 : Bool) (y34 : Bool) : Env := AV.bool y0 :: AV.ptr y1 :: Env.sp 1 (AV.ptr y2 :: AV.int IntKind.i64 y3 :: Env.sp 1 (AV.int IntKind.i64 y4 :: AV.bool y5 :: AV.int IntKind.i64 y6 :: Env.sp 1 (AV.int IntKind.i64 y7 :: AV.ptr y8 :: AV.int IntKind.i64 y9 :: Env.sp 35 (AV.int IntKind.i64 y10 :: AV.bool y11 :: AV.bool y12 :: AV.ptr y13 :: AV.bool y14 :: AV.bool y15 :: AV.bool y16 :: AV.int IntKind.i64 y17 :: AV.bool y18 :: AV.bool y19 :: AV.bool y20 :: AV.int IntKind.i64 y21 :: AV.bool y22 :: AV.bool y23 :: AV.bool y24 :: AV.bool y25 :: AV.bool y26 :: AV.bool y27 :: AV.tuple [] :: AV.tuple [] :: AV.bool y28 :: AV.bool y29 :: AV.tuple [] :: AV.tuple [] :: AV.bool y30 :: AV.bool y31 :: AV.tuple [] :: AV.tuple [] :: AV.bool y32 :: AV.bool y33 :: AV.tuple [] :: AV.tuple [] :: AV.tuple [] :: AV.bool y34 :: []))))
def f15e24 (y0 : Bool) (y1 : Option (Nat × Nat)) (y2 : Option (Nat × Nat)) (y3 : Int) (y4 : Int) (y5 : Bool) (y6 : Int) (y7 : Int) (y8 : Option (Nat × Nat)) (y9 : Int) (y10 : Int) (y11 : Bool) (y12 : Bool) (y13 : Option (Nat × Nat)) (y14 : Bool) (y15 : Bool) (y16 : Bool) (y17 : Int) (y18 : Bool) (y19 : Bool) (y20 : Bool) (y21 : Int) (y22 : Bool) (y23 : Bool) (y24 : Bool) (y25 : Bool) (y26 : Bool) (y27 : Bool) (y28 : Bool) (y29 : Bool) (y30 : Bool) (y31 : Bool) (y32 : Bool) (y33 : Bool) : Env := AV.bool y0 :: AV.ptr y1 :: Env.sp 1 (AV.ptr y2 :: AV.int IntKind.i64 y3 :: Env.sp 1 (AV.int IntKind.i64 y4 :: AV.bool y5 :: AV.int IntKind.i64 y6 :: Env.sp 1 (AV.int IntKind.i64 y7 :: AV.ptr y8 :: AV.int IntKind.i64 y9 :: Env.sp 35 (AV.int IntKind.i64 y10 :: AV.bool y11 :: AV.bool y12 :: AV.ptr y13 :: AV.bool y14 :: AV.bool y15 :: AV.bool y16 :: AV.int IntKind.i64 y17 :: AV.bool y18 :: AV.bool y19 :: AV.bool y20 :: AV.int IntKind.i64 y21 :: AV.bool y22 :: AV.bool y23 :: AV.bool y24 :: AV.tuple [] :: AV.bool y25 :: AV.bool y26 :: AV.tuple [] :: AV.tuple [] :: AV.bool y27 :: AV.bool y28 :: AV.tuple [] :: AV.tuple [] :: AV.bool y29 :: AV.bool y30 :: AV.tuple [] :: AV.tuple [] :: AV.bool y31 :: AV.bool y32 :: AV.tuple [] :: AV.tuple [] :: AV.tuple [] :: AV.bool y33 :: []))))
def f15e25 (y0 : Bool) (y1 : Option (Nat × Nat)) (y2 : Option (Nat × Nat)) (y3 : Int) (y4 : Int) (y5 : Bool) (y6 : Int) (y7 : Int) (y8 : Option (Nat × Nat)) (y9 : Int) (y10 : Int) (y11 : Bool) (y12 : Bool) (y13 : Option (Nat × Nat)) (y14 : Bool) (y15 : Bool) (y16 : Bool) (y17 : Int) (y18 : Bool) (y19 : Bool) (y20 : Bool) (y21 : Bool) (y22 : Bool) (y23 : Bool) (y24 : Bool) (y25 : Bool) (y26 : Bool) (y27 : Bool) (y28 : Bool) (y29 : Bool) (y30 : Bool) (y31 : Bool) : Env := AV.bool y0 :: AV.ptr y1 :: Env.sp 1 (AV.ptr y2 :: AV.int IntKind.i64 y3 :: Env.sp 1 (AV.int IntKind.i64 y4 :: AV.bool y5 :: AV.int IntKind.i64 y6 :: Env.sp 1 (AV.int IntKind.i64 y7 :: AV.ptr y8 :: AV.int IntKind.i64 y9 :: Env.sp 35 (AV.int IntKind.i64 y10 :: AV.bool y11 :: AV.bool y12 :: AV.ptr y13 :: AV.bool y14 :: AV.bool y15 :: AV.bool y16 :: AV.int IntKind.i64 y17 :: AV.bool y18 :: AV.bool y19 :: AV.bool y20 :: AV.tuple [] :: AV.tuple [] :: AV.bool y21 :: AV.bool y22 :: AV.tuple [] :: AV.bool y23 :: AV.bool y24 :: AV.tuple [] :: AV.tuple [] :: AV.bool y25 :: AV.bool y26 :: AV.tuple [] :: AV.tuple [] :: AV.bool y27 :: AV.bool y28 :: AV.tuple [] :: AV.tuple [] :: AV.bool y29 :: AV.bool y30 :: AV.tuple [] :: AV.tuple [] :: AV.tuple [] :: AV.bool y31 :: []))))
def f15e26 (y0 : Bool) (y1 : Option (Nat × Nat)) (y2 : Option (Nat × Nat)) (y3 : Int) (y4 : Int) (y5 : Bool) (y6 : Int) (y7 : Int) (y8 : Option (Nat × Nat)) (y9 : Int) (y10 : Int) (y11 : Bool) (y12 : Bool) (y13 : Option (Nat × Nat)) (y14 : Bool) (y15 : Bool) (y16 : Bool) (y17 : Bool) (y18 : Bool) (y19 : Bool) (y20 : Bool) (y21 : Bool) (y22 : Bool) (y23 : Bool) (y24 : Bool) (y25 : Bool) (y26 : Bool) (y27 : Bool) (y28 : Bool) (y29 : Bool) : Env := AV.bool y0 :: AV.ptr y1 :: Env.sp 1 (AV.ptr y2 :: AV.int IntKind.i64 y3 :: Env.sp 1 (AV.int IntKind.i64 y4 :: AV.bool y5 :: AV.int IntKind.i64 y6 :: Env.sp 1 (AV.int IntKind.i64 y7 :: AV.ptr y8 :: AV.int IntKind.i64 y9 :: Env.sp 35 (AV.int IntKind.i64 y10 :: AV.bool y11 :: AV.bool y12 :: AV.ptr y13 :: AV.bool y14 :: AV.bool y15 :: AV.bool y16 :: AV.tuple [] :: AV.tuple [] :: AV.bool y17 :: AV.bool y18 :: AV.tuple [] :: AV.tuple [] :: AV.bool y19 :: AV.bool y20 :: AV.tuple [] :: AV.bool y21 :: AV.bool y22 :: AV.tuple [] :: AV.tuple [] :: AV.bool y23 :: AV.bool y24 :: AV.tuple [] :: AV.tuple [] :: AV.bool y25 :: AV.bool y26 :: AV.tuple [] :: AV.tuple [] :: AV.bool y27 :: AV.bool y28 :: AV.tuple [] :: AV.tuple [] :: AV.tuple [] :: AV.bool y29 :: []))))
def f15e27 (y0 : Bool) (y1 : Option (Nat × Nat)) (y2 : Option (Nat × Nat)) (y3 : Int) (y4 : Int) (y5 : Bool) (y6 : Int) (y7 : Int) (y8 : Option (Nat × Nat)) (y9 : Int) (y10 : Int) (y11 : Bool) (y12 : Bool) (y13 : Bool) (y14 : Bool) (y15 : Bool) (y16 : Bool) (y17 : Bool) (y18 : Bool) (y19 : Bool) (y20 : Bool) (y21 : Bool) (y22 : Bool) (y23 : Bool) (y24 : Bool) (y25 : Bool) (y26 : Bool) (y27 : Bool) : Env := AV.bool y0 :: AV.ptr y1 :: Env.sp 1 (AV.ptr y2 :: AV.int IntKind.i64 y3 :: Env.sp 1 (AV.int IntKind.i64 y4 :: AV.bool y5 :: AV.int IntKind.i64 y6 :: Env.sp 1 (AV.int IntKind.i64 y7 :: AV.ptr y8 :: AV.int IntKind.i64 y9 :: Env.sp 35 (AV.int IntKind.i64 y10 :: AV.bool y11 :: AV.bool y12 :: AV.tuple [] :: AV.tuple [] :: AV.bool y13 :: AV.bool y14 :: AV.tuple [] :: AV.tuple [] :: AV.bool y15 :: AV.bool y16 :: AV.tuple [] :: AV.tuple [] :: AV.bool y17 :: AV.bool y18 :: AV.tuple [] :: AV.bool y19 :: AV.bool y20 :: AV.tuple [] :: AV.tuple [] :: AV.bool y21 :: AV.bool y22 :: AV.tuple [] :: AV.tuple [] :: AV.bool y23 :: AV.bool y24 :: AV.tuple [] :: AV.tuple [] :: AV.bool y25 :: AV.bool y26 :: AV.tuple [] :: AV.tuple [] :: AV.tuple [] :: AV.bool y27 :: []))))

/- function 15 -/
theorem f15_eq {R : Type} (call : Bool → CallF R) (dem : Bool) (N : Nat) (σ : St) (K : AV → St → Option R) :
    bodyK Try.prog call dem N ann 15 [] σ K = runK Try.prog call dem N f15c0 f15a0 (bodyC Try.prog f15rs K) (f15e0) σ := bodyK_of (fn := ((Try.prog.funcs[15]?).get rfl)) (by kernel_rfl) (by kernel_rfl) (by kernel_rfl) (by kernel_rfl) (by kernel_rfl) (by kernel_rfl)
theorem f15n0 {R : Type} (call : Bool → CallF R) (dem : Bool) (N : Nat) (J : KF R) (e : Env) (σ : St) : runK Try.prog call dem N f15c0 f15a0 J e σ = runK Try.prog call dem N f15c1 f15a1 (seqC (fun K e σ => runK Try.prog call dem N f15c2 f15a2 K e σ) f15a0 J) e σ := runK_seq' (by kernel_rfl) (by kernel_rfl) (by kernel_rfl)
theorem f15r1_f15e0 {R : Type} (call : Bool → CallF R) (dem : Bool) (N : Nat) (J : KF R) (σ : St) :
    runK Try.prog call dem N f15c1 f15a1 J (f15e0) σ =
J Ex.normal (f15e1 false) σ := hide (by kernel_rfl)
theorem f15z0_f15e1 (y0 : Bool) : Ann.clr f15a0 (f15e1 y0) = f15e0 := hide (by kernel_rfl)
theorem f15n2 {R : Type} (call : Bool → CallF R) (dem : Bool) (N : Nat) (J : KF R) (e : Env) (σ : St) : runK Try.prog call dem N f15c2 f15a2 J e σ = runK Try.prog call dem N f15c3 f15a3 (seqC (fun K e σ => runK Try.prog call dem N f15c4 f15a4 K e σ) f15a2 J) e σ := runK_seq' (by kernel_rfl) (by kernel_rfl) (by kernel_rfl)
theorem f15r3_f15e0 {R : Type} (call : Bool → CallF R) (dem : Bool) (N : Nat) (J : KF R) (σ : St) :
    runK Try.prog call dem N f15c3 f15a3 J (f15e0) σ =
call dem (13 : Nat) [AV.int IntKind.i64 (1 : Int), AV.int IntKind.i64 (1 : Int)] σ fun v0 v1 =>
  Option.bind (AV.toTuple v0) fun v2 =>
    if List.length v2 = (2 : Nat) then
      Option.bind (List.head? v2) fun v3 =>
        Option.bind (AV.toPtr v3) fun v4 =>
          Option.bind (List.head? (List.tail v2)) fun v5 =>
            Option.bind (AV.toInt IntKind.i64 v5) fun v6 => J Ex.normal (f15e2 v4 v6 v4 v6 v4 v6 v4 v6) v1
    else none := hide (by kernel_rfl)
theorem f15z2_f15e2 (y0 : Option (Nat × Nat)) (y1 : Int) (y2 : Option (Nat × Nat)) (y3 : Int) (y4 : Option (Nat × Nat)) (y5 : Int) (y6 : Option (Nat × Nat)) (y7 : Int) : Ann.clr f15a2 (f15e2 y0 y1 y2 y3 y4 y5 y6 y7) = f15e3 y0 y1 := hide (by kernel_rfl)
theorem f15n4 {R : Type} (call : Bool → CallF R) (dem : Bool) (N : Nat) (J : KF R) (e : Env) (σ : St) : runK Try.prog call dem N f15c4 f15a4 J e σ = runK Try.prog call dem N f15c5 f15a5 (seqC (fun K e σ => runK Try.prog call dem N f15c6 f15a6 K e σ) f15a4 J) e σ := runK_seq' (by kernel_rfl) (by kernel_rfl) (by kernel_rfl)
theorem f15n5 {R : Type} (call : Bool → CallF R) (dem : Bool) (N : Nat) (J : KF R) (e : Env) (σ : St) : runK Try.prog call dem N f15c5 f15a5 J e σ = runK Try.prog call dem N f15c7 f15a7 (seqC (fun K e σ => runK Try.prog call dem N f15c8 f15a8 K e σ) f15a5 J) e σ := runK_seq' (by kernel_rfl) (by kernel_rfl) (by kernel_rfl)
theorem f15r7_f15e3 {R : Type} (call : Bool → CallF R) (dem : Bool) (N : Nat) (y0 : Option (Nat × Nat)) (y1 : Int) (J : KF R) (σ : St) :
    runK Try.prog call dem N f15c7 f15a7 J (f15e3 y0 y1) σ =
if (y1 != (0 : Int)) = true then J Ex.normal (f15e4 y0 y1 y1 (y1 != (0 : Int)) true true) σ
else J Ex.normal (f15e5 y0 y1 y1 (y1 != (0 : Int)) false y0 (Option.isNone y0) (Option.isNone y0)) σ := hide (by kernel_rfl)
theorem f15z5_f15e4 (y0 : Option (Nat × Nat)) (y1 : Int) (y2 : Int) (y3 : Bool) (y4 : Bool) (y5 : Bool) : Ann.clr f15a5 (f15e4 y0 y1 y2 y3 y4 y5) = f15e6 y0 y5 := hide (by kernel_rfl)
theorem f15x8_f15e6 {R : Type} (call : Bool → CallF R) (dem : Bool) (N : Nat) (y0 : Option (Nat × Nat)) (y1 : Bool) (J : KF R) (σ : St) : runK Try.prog call dem N f15c8 f15a8 J (f15e6 y0 y1) σ = if y1 = true then runK Try.prog call dem N f15c9 f15a9 (condC f15a8 J) (f15e6 y0 y1) σ else runK Try.prog call dem N f15c10 f15a10 (condC f15a8 J) (f15e6 y0 y1) σ := runK_cond' (o := Operand.tmp (22 : Nat)) (by kernel_rfl) (by kernel_rfl) (by kernel_rfl) (by kernel_rfl)
theorem f15n9 {R : Type} (call : Bool → CallF R) (dem : Bool) (N : Nat) (J : KF R) (e : Env) (σ : St) : runK Try.prog call dem N f15c9 f15a9 J e σ = runK Try.prog call dem N f15c11 f15a11 (seqC (fun K e σ => runK Try.prog call dem N f15c12 f15a12 K e σ) f15a9 J) e σ := runK_seq' (by kernel_rfl) (by kernel_rfl) (by kernel_rfl)
theorem f15r11_f15e6 {R : Type} (call : Bool → CallF R) (dem : Bool) (N : Nat) (y0 : Option (Nat × Nat)) (y1 : Bool) (J : KF R) (σ : St) :
    runK Try.prog call dem N f15c11 f15a11 J (f15e6 y0 y1) σ =
J Ex.normal (f15e7 false y0 y1) σ := hide (by kernel_rfl)
theorem f15z9_f15e7 (y0 : Bool) (y1 : Option (Nat × Nat)) (y2 : Bool) : Ann.clr f15a9 (f15e7 y0 y1 y2) = f15e1 y0 := hide (by kernel_rfl)
theorem f15y12_f15e1 {R : Type} (call : Bool → CallF R) (dem : Bool) (N : Nat) (y0 : Bool) (J : KF R) (σ : St) : runK Try.prog call dem N f15c12 f15a12 J (f15e1 y0) σ = J .ret (f15e1 y0) σ := runK_ret' (by kernel_rfl) (by kernel_rfl)
theorem f15n10 {R : Type} (call : Bool → CallF R) (dem : Bool) (N : Nat) (J : KF R) (e : Env) (σ : St) : runK Try.prog call dem N f15c10 f15a10 J e σ = J .normal e σ := runK_skip' (by kernel_rfl)
theorem f15z8_f15e6 (y0 : Option (Nat × Nat)) (y1 : Bool) : Ann.clr f15a8 (f15e6 y0 y1) = f15e8 y0 := hide (by kernel_rfl)
theorem f15z5_f15e5 (y0 : Option (Nat × Nat)) (y1 : Int) (y2 : Int) (y3 : Bool) (y4 : Bool) (y5 : Option (Nat × Nat)) (y6 : Bool) (y7 : Bool) : Ann.clr f15a5 (f15e5 y0 y1 y2 y3 y4 y5 y6 y7) = f15e6 y0 y7 := hide (by kernel_rfl)
theorem f15z4_f15e8 (y0 : Option (Nat × Nat)) : Ann.clr f15a4 (f15e8 y0) = f15e8 y0 := hide (by kernel_rfl)
theorem f15n6 {R : Type} (call : Bool → CallF R) (dem : Bool) (N : Nat) (J : KF R) (e : Env) (σ : St) : runK Try.prog call dem N f15c6 f15a6 J e σ = runK Try.prog call dem N f15c13 f15a13 (seqC (fun K e σ => runK Try.prog call dem N f15c14 f15a14 K e σ) f15a6 J) e σ := runK_seq' (by kernel_rfl) (by kernel_rfl) (by kernel_rfl)
theorem f15r13_f15e8 {R : Type} (call : Bool → CallF R) (dem : Bool) (N : Nat) (y0 : Option (Nat × Nat)) (J : KF R) (σ : St) :
    runK Try.prog call dem N f15c13 f15a13 J (f15e8 y0) σ =
call dem (17 : Nat) [AV.ptr y0, AV.int IntKind.i64 (0 : Int), AV.int IntKind.i64 (8 : Int)] σ fun v0 v1 =>
  Option.bind (AV.toTuple v0) fun v2 =>
    if List.length v2 = (2 : Nat) then
      Option.bind (List.head? v2) fun v3 =>
        Option.bind (AV.toPtr v3) fun v4 =>
          Option.bind (List.head? (List.tail v2)) fun v5 =>
            Option.bind (AV.toInt IntKind.i64 v5) fun v6 => J Ex.normal (f15e9 y0 v4 v6 v4 v6 y0 v4 v6 v4 v6) v1
    else none := hide (by kernel_rfl)
theorem f15z6_f15e9 (y0 : Option (Nat × Nat)) (y1 : Option (Nat × Nat)) (y2 : Int) (y3 : Option (Nat × Nat)) (y4 : Int) (y5 : Option (Nat × Nat)) (y6 : Option (Nat × Nat)) (y7 : Int) (y8 : Option (Nat × Nat)) (y9 : Int) : Ann.clr f15a6 (f15e9 y0 y1 y2 y3 y4 y5 y6 y7 y8 y9) = f15e10 y0 y1 y2 := hide (by kernel_rfl)
theorem f15n14 {R : Type} (call : Bool → CallF R) (dem : Bool) (N : Nat) (J : KF R) (e : Env) (σ : St) : runK Try.prog call dem N f15c14 f15a14 J e σ = runK Try.prog call dem N f15c15 f15a15 (seqC (fun K e σ => runK Try.prog call dem N f15c16 f15a16 K e σ) f15a14 J) e σ := runK_seq' (by kernel_rfl) (by kernel_rfl) (by kernel_rfl)
theorem f15r15_f15e10 {R : Type} (call : Bool → CallF R) (dem : Bool) (N : Nat) (y0 : Option (Nat × Nat)) (y1 : Option (Nat × Nat)) (y2 : Int) (J : KF R) (σ : St) :
    runK Try.prog call dem N f15c15 f15a15 J (f15e10 y0 y1 y2) σ =
call dem (17 : Nat) [AV.ptr y0, AV.int IntKind.i64 (0 : Int), AV.int IntKind.i64 (9 : Int)] σ fun v0 v1 =>
  Option.bind (AV.toTuple v0) fun v2 =>
    if List.length v2 = (2 : Nat) then
      Option.bind (List.head? v2) fun v3 =>
        Option.bind (AV.toPtr v3) fun v4 =>
          Option.bind (List.head? (List.tail v2)) fun v5 =>
            Option.bind (AV.toInt IntKind.i64 v5) fun v6 => J Ex.normal (f15e11 y0 y1 y2 v4 v6 v4 v6 y0 v4 v6 v4 v6) v1
    else none := hide (by kernel_rfl)
theorem f15z14_f15e11 (y0 : Option (Nat × Nat)) (y1 : Option (Nat × Nat)) (y2 : Int) (y3 : Option (Nat × Nat)) (y4 : Int) (y5 : Option (Nat × Nat)) (y6 : Int) (y7 : Option (Nat × Nat)) (y8 : Option (Nat × Nat)) (y9 : Int) (y10 : Option (Nat × Nat)) (y11 : Int) : Ann.clr f15a14 (f15e11 y0 y1 y2 y3 y4 y5 y6 y7 y8 y9 y10 y11) = f15e12 y0 y1 y2 y4 := hide (by kernel_rfl)
theorem f15n16 {R : Type} (call : Bool → CallF R) (dem : Bool) (N : Nat) (J : KF R) (e : Env) (σ : St) : runK Try.prog call dem N f15c16 f15a16 J e σ = runK Try.prog call dem N f15c17 f15a17 (seqC (fun K e σ => runK Try.prog call dem N f15c18 f15a18 K e σ) f15a16 J) e σ := runK_seq' (by kernel_rfl) (by kernel_rfl) (by kernel_rfl)
theorem f15r17_f15e12 {R : Type} (call : Bool → CallF R) (dem : Bool) (N : Nat) (y0 : Option (Nat × Nat)) (y1 : Option (Nat × Nat)) (y2 : Int) (y3 : Int) (J : KF R) (σ : St) :
    runK Try.prog call dem N f15c17 f15a17 J (f15e12 y0 y1 y2 y3) σ =
call dem (14 : Nat) [AV.ptr y0, AV.int IntKind.i64 (4 : Int)] σ fun v0 v1 =>
  Option.bind (AV.toTuple v0) fun v2 =>
    if List.length v2 = (2 : Nat) then
      Option.bind (List.head? v2) fun v3 =>
        Option.bind (AV.toBool v3) fun v4 =>
          Option.bind (List.head? (List.tail v2)) fun v5 =>
            Option.bind (AV.toInt IntKind.i64 v5) fun v6 => J Ex.normal (f15e13 y0 y1 y2 y3 v4 v6 v4 v6 y0 v4 v6 v4 v6) v1
    else none := hide (by kernel_rfl)
theorem f15z16_f15e13 (y0 : Option (Nat × Nat)) (y1 : Option (Nat × Nat)) (y2 : Int) (y3 : Int) (y4 : Bool) (y5 : Int) (y6 : Bool) (y7 : Int) (y8 : Option (Nat × Nat)) (y9 : Bool) (y10 : Int) (y11 : Bool) (y12 : Int) : Ann.clr f15a16 (f15e13 y0 y1 y2 y3 y4 y5 y6 y7 y8 y9 y10 y11 y12) = f15e14 y0 y1 y2 y3 y4 y5 := hide (by kernel_rfl)
theorem f15n18 {R : Type} (call : Bool → CallF R) (dem : Bool) (N : Nat) (J : KF R) (e : Env) (σ : St) : runK Try.prog call dem N f15c18 f15a18 J e σ = runK Try.prog call dem N f15c19 f15a19 (seqC (fun K e σ => runK Try.prog call dem N f15c20 f15a20 K e σ) f15a18 J) e σ := runK_seq' (by kernel_rfl) (by kernel_rfl) (by kernel_rfl)
theorem f15r19_f15e14 {R : Type} (call : Bool → CallF R) (dem : Bool) (N : Nat) (y0 : Option (Nat × Nat)) (y1 : Option (Nat × Nat)) (y2 : Int) (y3 : Int) (y4 : Bool) (y5 : Int) (J : KF R) (σ : St) :
    runK Try.prog call dem N f15c19 f15a19 J (f15e14 y0 y1 y2 y3 y4 y5) σ =
call dem (17 : Nat) [AV.ptr y0, AV.int IntKind.i64 (0 : Int), AV.int IntKind.i64 (4 : Int)] σ fun v0 v1 =>
  Option.bind (AV.toTuple v0) fun v2 =>
    if List.length v2 = (2 : Nat) then
      Option.bind (List.head? v2) fun v3 =>
        Option.bind (AV.toPtr v3) fun v4 =>
          Option.bind (List.head? (List.tail v2)) fun v5 =>
            Option.bind (AV.toInt IntKind.i64 v5) fun v6 => J Ex.normal (f15e15 y0 y1 y2 y3 y4 y5 v4 v6 v4 v6 y0 v4 v6 v4 v6) v1
    else none := hide (by kernel_rfl)
theorem f15z18_f15e15 (y0 : Option (Nat × Nat)) (y1 : Option (Nat × Nat)) (y2 : Int) (y3 : Int) (y4 : Bool) (y5 : Int) (y6 : Option (Nat × Nat)) (y7 : Int) (y8 : Option (Nat × Nat)) (y9 : Int) (y10 : Option (Nat × Nat)) (y11 : Option (Nat × Nat)) (y12 : Int) (y13 : Option (Nat × Nat)) (y14 : Int) : Ann.clr f15a18 (f15e15 y0 y1 y2 y3 y4 y5 y6 y7 y8 y9 y10 y11 y12 y13 y14) = f15e16 y0 y1 y2 y3 y4 y5 y7 := hide (by kernel_rfl)
theorem f15n20 {R : Type} (call : Bool → CallF R) (dem : Bool) (N : Nat) (J : KF R) (e : Env) (σ : St) : runK Try.prog call dem N f15c20 f15a20 J e σ = runK Try.prog call dem N f15c21 f15a21 (seqC (fun K e σ => runK Try.prog call dem N f15c22 f15a22 K e σ) f15a20 J) e σ := runK_seq' (by kernel_rfl) (by kernel_rfl) (by kernel_rfl)
theorem f15r21_f15e16 {R : Type} (call : Bool → CallF R) (dem : Bool) (N : Nat) (y0 : Option (Nat × Nat)) (y1 : Option (Nat × Nat)) (y2 : Int) (y3 : Int) (y4 : Bool) (y5 : Int) (y6 : Int) (J : KF R) (σ : St) :
    runK Try.prog call dem N f15c21 f15a21 J (f15e16 y0 y1 y2 y3 y4 y5 y6) σ =
call dem (17 : Nat) [AV.ptr y0, AV.int IntKind.i64 (0 : Int), AV.int IntKind.i64 (12 : Int)] σ fun v0 v1 =>
  Option.bind (AV.toTuple v0) fun v2 =>
    if List.length v2 = (2 : Nat) then
      Option.bind (List.head? v2) fun v3 =>
        Option.bind (AV.toPtr v3) fun v4 =>
          Option.bind (List.head? (List.tail v2)) fun v5 =>
            Option.bind (AV.toInt IntKind.i64 v5) fun v6 => J Ex.normal (f15e17 y0 y1 y2 y3 y4 y5 y6 v4 v6 v4 v6 y0 v4 v6 v4 v6) v1
    else none := hide (by kernel_rfl)
theorem f15z20_f15e17 (y0 : Option (Nat × Nat)) (y1 : Option (Nat × Nat)) (y2 : Int) (y3 : Int) (y4 : Bool) (y5 : Int) (y6 : Int) (y7 : Option (Nat × Nat)) (y8 : Int) (y9 : Option (Nat × Nat)) (y10 : Int) (y11 : Option (Nat × Nat)) (y12 : Option (Nat × Nat)) (y13 : Int) (y14 : Option (Nat × Nat)) (y15 : Int) : Ann.clr f15a20 (f15e17 y0 y1 y2 y3 y4 y5 y6 y7 y8 y9 y10 y11 y12 y13 y14 y15) = f15e18 y0 y1 y2 y3 y4 y5 y6 y7 y8 := hide (by kernel_rfl)
theorem f15n22 {R : Type} (call : Bool → CallF R) (dem : Bool) (N : Nat) (J : KF R) (e : Env) (σ : St) : runK Try.prog call dem N f15c22 f15a22 J e σ = runK Try.prog call dem N f15c23 f15a23 (seqC (fun K e σ => runK Try.prog call dem N f15c24 f15a24 K e σ) f15a22 J) e σ := runK_seq' (by kernel_rfl) (by kernel_rfl) (by kernel_rfl)
theorem f15r23_f15e18 {R : Type} (call : Bool → CallF R) (dem : Bool) (N : Nat) (y0 : Option (Nat × Nat)) (y1 : Option (Nat × Nat)) (y2 : Int) (y3 : Int) (y4 : Bool) (y5 : Int) (y6 : Int) (y7 : Option (Nat × Nat)) (y8 : Int) (J : KF R) (σ : St) :
    runK Try.prog call dem N f15c23 f15a23 J (f15e18 y0 y1 y2 y3 y4 y5 y6 y7 y8) σ =
if (y2 == (0 : Int)) = true then
  if (!Option.isNone y1) = true then
    if (y3 == (6 : Int)) = true then
      if (y5 == (0 : Int)) = true then
        if y4 = true then
          if (y6 == (6 : Int)) = true then
            if (y8 == (0 : Int)) = true then
              if (!Option.isNone y7) = true then
                call dem (18 : Nat) [AV.ptr y0] σ fun v0 v1 =>
                  Option.bind (AV.toInt IntKind.i64 v0) fun v2 =>
                    J Ex.normal
                      (f15e19 (v2 == (4 : Int)) y0 y1 y2 y3 y4 y5 y6 y7 y8 y2 (y2 == (0 : Int)) true y1 (!Option.isNone y1) (!Option.isNone y1) true
                        y3 (y3 == (6 : Int)) (y3 == (6 : Int)) true y5 (y5 == (0 : Int)) (y5 == (0 : Int)) true y4 y4 true y6 (y6 == (6 : Int))
                        (y6 == (6 : Int)) true y8 (y8 == (0 : Int)) (y8 == (0 : Int)) true y7 (!Option.isNone y7) (!Option.isNone y7) true y0 v2
                        (v2 == (4 : Int)) (v2 == (4 : Int)))
                      v1
              else
                J Ex.normal
                  (f15e20 false y0 y1 y2 y3 y4 y5 y6 y7 y8 y2 (y2 == (0 : Int)) true y1 (!Option.isNone y1) (!Option.isNone y1) true y3
                    (y3 == (6 : Int)) (y3 == (6 : Int)) true y5 (y5 == (0 : Int)) (y5 == (0 : Int)) true y4 y4 true y6 (y6 == (6 : Int))
                    (y6 == (6 : Int)) true y8 (y8 == (0 : Int)) (y8 == (0 : Int)) true y7 (!Option.isNone y7) (!Option.isNone y7) false false)
                  σ
            else
              J Ex.normal
                (f15e21 false y0 y1 y2 y3 y4 y5 y6 y7 y8 y2 (y2 == (0 : Int)) true y1 (!Option.isNone y1) (!Option.isNone y1) true y3
                  (y3 == (6 : Int)) (y3 == (6 : Int)) true y5 (y5 == (0 : Int)) (y5 == (0 : Int)) true y4 y4 true y6 (y6 == (6 : Int))
                  (y6 == (6 : Int)) true y8 (y8 == (0 : Int)) (y8 == (0 : Int)) false false false false)
                σ
          else
            J Ex.normal
              (f15e22 false y0 y1 y2 y3 y4 y5 y6 y7 y8 y2 (y2 == (0 : Int)) true y1 (!Option.isNone y1) (!Option.isNone y1) true y3 (y3 == (6 : Int))
                (y3 == (6 : Int)) true y5 (y5 == (0 : Int)) (y5 == (0 : Int)) true y4 y4 true y6 (y6 == (6 : Int)) (y6 == (6 : Int)) false false false
                false false false)
              σ
        else
          J Ex.normal
            (f15e23 false y0 y1 y2 y3 y4 y5 y6 y7 y8 y2 (y2 == (0 : Int)) true y1 (!Option.isNone y1) (!Option.isNone y1) true y3 (y3 == (6 : Int))
              (y3 == (6 : Int)) true y5 (y5 == (0 : Int)) (y5 == (0 : Int)) true y4 y4 false false false false false false false false)
            σ
      else
        J Ex.normal
          (f15e24 false y0 y1 y2 y3 y4 y5 y6 y7 y8 y2 (y2 == (0 : Int)) true y1 (!Option.isNone y1) (!Option.isNone y1) true y3 (y3 == (6 : Int))
            (y3 == (6 : Int)) true y5 (y5 == (0 : Int)) (y5 == (0 : Int)) false false false false false false false false false false)
          σ
    else
      J Ex.normal
        (f15e25 false y0 y1 y2 y3 y4 y5 y6 y7 y8 y2 (y2 == (0 : Int)) true y1 (!Option.isNone y1) (!Option.isNone y1) true y3 (y3 == (6 : Int))
          (y3 == (6 : Int)) false false false false false false false false false false false false)
        σ
  else
    J Ex.normal
      (f15e26 false y0 y1 y2 y3 y4 y5 y6 y7 y8 y2 (y2 == (0 : Int)) true y1 (!Option.isNone y1) (!Option.isNone y1) false false false false false
        false false false false false false false false false)
      σ
else
  J Ex.normal
    (f15e27 false y0 y1 y2 y3 y4 y5 y6 y7 y8 y2 (y2 == (0 : Int)) false false false false false false false false false false false false false false
      false false)
    σ := hide (by kernel_rfl)
theorem f15z22_f15e19 (y0 : Bool) (y1 : Option (Nat × Nat)) (y2 : Option (Nat × Nat)) (y3 : Int) (y4 : Int) (y5 : Bool) (y6 : Int) (y7 : Int) (y8 : Option (Nat × Nat)) (y9 : Int) (y10 : Int) (y11 : Bool) (y12 : Bool) (y13 : Option (Nat × Nat)) (y14 : Bool) (y15 : Bool) (y16 : Bool) (y17 : Int) (y18 : Bool) (y19 : Bool) (y20 : Bool) (y21 : Int) (y22 : Bool) (y23 : Bool) (y24 : Bool) (y25 : Bool) (y26 : Bool) (y27 : Bool) (y28 : Int) (y29 : Bool) (y30 : Bool) (y31 : Bool) (y32 : Int) (y33 : Bool) (y34 : Bool) (y35 : Bool) (y36 : Option (Nat × Nat)) (y37 : Bool) (y38 : Bool) (y39 : Bool) (y40 : Option (Nat × Nat)) (y41 : Int) (y42 : Bool) (y43 : Bool) : Ann.clr f15a22 (f15e19 y0 y1 y2 y3 y4 y5 y6 y7 y8 y9 y10 y11 y12 y13 y14 y15 y16 y17 y18 y19 y20 y21 y22 y23 y24 y25 y26 y27 y28 y29 y30 y31 y32 y33 y34 y35 y36 y37
  y38 y39 y40 y41 y42 y43) = f15e1 y0 := hide (by kernel_rfl)
theorem f15y24_f15e1 {R : Type} (call : Bool → CallF R) (dem : Bool) (N : Nat) (y0 : Bool) (J : KF R) (σ : St) : runK Try.prog call dem N f15c24 f15a24 J (f15e1 y0) σ = J .ret (f15e1 y0) σ := runK_ret' (by kernel_rfl) (by kernel_rfl)
theorem f15z22_f15e20 (y0 : Bool) (y1 : Option (Nat × Nat)) (y2 : Option (Nat × Nat)) (y3 : Int) (y4 : Int) (y5 : Bool) (y6 : Int) (y7 : Int) (y8 : Option (Nat × Nat)) (y9 : Int) (y10 : Int) (y11 : Bool) (y12 : Bool) (y13 : Option (Nat × Nat)) (y14 : Bool) (y15 : Bool) (y16 : Bool) (y17 : Int) (y18 : Bool) (y19 : Bool) (y20 : Bool) (y21 : Int) (y22 : Bool) (y23 : Bool) (y24 : Bool) (y25 : Bool) (y26 : Bool) (y27 : Bool) (y28 : Int) (y29 : Bool) (y30 : Bool) (y31 : Bool) (y32 : Int) (y33 : Bool) (y34 : Bool) (y35 : Bool) (y36 : Option (Nat × Nat)) (y37 : Bool) (y38 : Bool) (y39 : Bool) (y40 : Bool) : Ann.clr f15a22 (f15e20 y0 y1 y2 y3 y4 y5 y6 y7 y8 y9 y10 y11 y12 y13 y14 y15 y16 y17 y18 y19 y20 y21 y22 y23 y24 y25 y26 y27 y28 y29 y30 y31 y32 y33 y34 y35 y36 y37
  y38 y39 y40) = f15e1 y0 := hide (by kernel_rfl)
theorem f15z22_f15e21 (y0 : Bool) (y1 : Option (Nat × Nat)) (y2 : Option (Nat × Nat)) (y3 : Int) (y4 : Int) (y5 : Bool) (y6 : Int) (y7 : Int) (y8 : Option (Nat × Nat)) (y9 : Int) (y10 : Int) (y11 : Bool) (y12 : Bool) (y13 : Option (Nat × Nat)) (y14 : Bool) (y15 : Bool) (y16 : Bool) (y17 : Int) (y18 : Bool) (y19 : Bool) (y20 : Bool) (y21 : Int) (y22 : Bool) (y23 : Bool) (y24 : Bool) (y25 : Bool) (y26 : Bool) (y27 : Bool) (y28 : Int) (y29 : Bool) (y30 : Bool) (y31 : Bool) (y32 : Int) (y33 : Bool) (y34 : Bool) (y35 : Bool) (y36 : Bool) (y37 : Bool) (y38 : Bool) : Ann.clr f15a22 (f15e21 y0 y1 y2 y3 y4 y5 y6 y7 y8 y9 y10 y11 y12 y13 y14 y15 y16 y17 y18 y19 y20 y21 y22 y23 y24 y25 y26 y27 y28 y29 y30 y31 y32 y33 y34 y35 y36 y37
  y38) = f15e1 y0 := hide (by kernel_rfl)
theorem f15z22_f15e22 (y0 : Bool) (y1 : Option (Nat × Nat)) (y2 : Option (Nat × Nat)) (y3 : Int) (y4 : Int) (y5 : Bool) (y6 : Int) (y7 : Int) (y8 : Option (Nat × Nat)) (y9 : Int) (y10 : Int) (y11 : Bool) (y12 : Bool) (y13 : Option (Nat × Nat)) (y14 : Bool) (y15 : Bool) (y16 : Bool) (y17 : Int) (y18 : Bool) (y19 : Bool) (y20 : Bool) (y21 : Int) (y22 : Bool) (y23 : Bool) (y24 : Bool) (y25 : Bool) (y26 : Bool) (y27 : Bool) (y28 : Int) (y29 : Bool) (y30 : Bool) (y31 : Bool) (y32 : Bool) (y33 : Bool) (y34 : Bool) (y35 : Bool) (y36 : Bool) : Ann.clr f15a22 (f15e22 y0 y1 y2 y3 y4 y5 y6 y7 y8 y9 y10 y11 y12 y13 y14 y15 y16 y17 y18 y19 y20 y21 y22 y23 y24 y25 y26 y27 y28 y29 y30 y31 y32 y33 y34 y35 y36) = f15e1 y0 := hide (by kernel_rfl)
theorem f15z22_f15e23 (y0 : Bool) (y1 : Option (Nat × Nat)) (y2 : Option (Nat × Nat)) (y3 : Int) (y4 : Int) (y5 : Bool) (y6 : Int) (y7 : Int) (y8 : Option (Nat × Nat)) (y9 : Int) (y10 : Int) (y11 : Bool) (y12 : Bool) (y13 : Option (Nat × Nat)) (y14 : Bool) (y15 : Bool) (y16 : Bool) (y17 : Int) (y18 : Bool) (y19 : Bool) (y20 : Bool) (y21 : Int) (y22 : Bool) (y23 : Bool) (y24 : Bool) (y25 : Bool) (y26 : Bool) (y27 : Bool) (y28 : Bool) (y29 : Bool) (y30 : Bool) (y31 : Bool) (y32 : Bool) (y33 : Bool) (y34 : Bool) : Ann.clr f15a22 (f15e23 y0 y1 y2 y3 y4 y5 y6 y7 y8 y9 y10 y11 y12 y13 y14 y15 y16 y17 y18 y19 y20 y21 y22 y23 y24 y25 y26 y27 y28 y29 y30 y31 y32 y33 y34) = f15e1 y0 := hide (by kernel_rfl)
theorem f15z22_f15e24 (y0 : Bool) (y1 : Option (Nat × Nat)) (y2 : Option (Nat × Nat)) (y3 : Int) (y4 : Int) (y5 : Bool) (y6 : Int) (y7 : Int) (y8 : Option (Nat × Nat)) (y9 : Int) (y10 : Int) (y11 : Bool) (y12 : Bool) (y13 : Option (Nat × Nat)) (y14 : Bool) (y15 : Bool) (y16 : Bool) (y17 : Int) (y18 : Bool) (y19 : Bool) (y20 : Bool) (y21 : Int) (y22 : Bool) (y23 : Bool) (y24 : Bool) (y25 : Bool) (y26 : Bool) (y27 : Bool) (y28 : Bool) (y29 : Bool) (y30 : Bool) (y31 : Bool) (y32 : Bool) (y33 : Bool) : Ann.clr f15a22 (f15e24 y0 y1 y2 y3 y4 y5 y6 y7 y8 y9 y10 y11 y12 y13 y14 y15 y16 y17 y18 y19 y20 y21 y22 y23 y24 y25 y26 y27 y28 y29 y30 y31 y32 y33) = f15e1 y0 := hide (by kernel_rfl)
theorem f15z22_f15e25 (y0 : Bool) (y1 : Option (Nat × Nat)) (y2 : Option (Nat × Nat)) (y3 : Int) (y4 : Int) (y5 : Bool) (y6 : Int) (y7 : Int) (y8 : Option (Nat × Nat)) (y9 : Int) (y10 : Int) (y11 : Bool) (y12 : Bool) (y13 : Option (Nat × Nat)) (y14 : Bool) (y15 : Bool) (y16 : Bool) (y17 : Int) (y18 : Bool) (y19 : Bool) (y20 : Bool) (y21 : Bool) (y22 : Bool) (y23 : Bool) (y24 : Bool) (y25 : Bool) (y26 : Bool) (y27 : Bool) (y28 : Bool) (y29 : Bool) (y30 : Bool) (y31 : Bool) : Ann.clr f15a22 (f15e25 y0 y1 y2 y3 y4 y5 y6 y7 y8 y9 y10 y11 y12 y13 y14 y15 y16 y17 y18 y19 y20 y21 y22 y23 y24 y25 y26 y27 y28 y29 y30 y31) = f15e1 y0 := hide (by kernel_rfl)
theorem f15z22_f15e26 (y0 : Bool) (y1 : Option (Nat × Nat)) (y2 : Option (Nat × Nat)) (y3 : Int) (y4 : Int) (y5 : Bool) (y6 : Int) (y7 : Int) (y8 : Option (Nat × Nat)) (y9 : Int) (y10 : Int) (y11 : Bool) (y12 : Bool) (y13 : Option (Nat × Nat)) (y14 : Bool) (y15 : Bool) (y16 : Bool) (y17 : Bool) (y18 : Bool) (y19 : Bool) (y20 : Bool) (y21 : Bool) (y22 : Bool) (y23 : Bool) (y24 : Bool) (y25 : Bool) (y26 : Bool) (y27 : Bool) (y28 : Bool) (y29 : Bool) : Ann.clr f15a22 (f15e26 y0 y1 y2 y3 y4 y5 y6 y7 y8 y9 y10 y11 y12 y13 y14 y15 y16 y17 y18 y19 y20 y21 y22 y23 y24 y25 y26 y27 y28 y29) = f15e1 y0 := hide (by kernel_rfl)
theorem f15z22_f15e27 (y0 : Bool) (y1 : Option (Nat × Nat)) (y2 : Option (Nat × Nat)) (y3 : Int) (y4 : Int) (y5 : Bool) (y6 : Int) (y7 : Int) (y8 : Option (Nat × Nat)) (y9 : Int) (y10 : Int) (y11 : Bool) (y12 : Bool) (y13 : Bool) (y14 : Bool) (y15 : Bool) (y16 : Bool) (y17 : Bool) (y18 : Bool) (y19 : Bool) (y20 : Bool) (y21 : Bool) (y22 : Bool) (y23 : Bool) (y24 : Bool) (y25 : Bool) (y26 : Bool) (y27 : Bool) : Ann.clr f15a22 (f15e27 y0 y1 y2 y3 y4 y5 y6 y7 y8 y9 y10 y11 y12 y13 y14 y15 y16 y17 y18 y19 y20 y21 y22 y23 y24 y25 y26 y27) = f15e1 y0 := hide (by kernel_rfl)
theorem f15b_f15e1_r {R : Type} (y0 : Bool) (σ : St) (K : AV → St → Option R) : bodyC Try.prog f15rs K (Ex.ret) (f15e1 y0) σ =
K (AV.bool y0) σ := hide (by kernel_rfl)
attribute [go_sem] f15_eq f15n0 f15r1_f15e0 f15z0_f15e1 f15n2 f15r3_f15e0 f15z2_f15e2 f15n4 f15n5 f15r7_f15e3 f15z5_f15e4 f15x8_f15e6 f15n9 f15r11_f15e6 f15z9_f15e7 f15y12_f15e1 f15n10 f15z8_f15e6 f15z5_f15e5 f15z4_f15e8 f15n6 f15r13_f15e8 f15z6_f15e9 f15n14 f15r15_f15e10 f15z14_f15e11 f15n16 f15r17_f15e12 f15z16_f15e13 f15n18 f15r19_f15e14 f15z18_f15e15 f15n20 f15r21_f15e16 f15z20_f15e17 f15n22 f15r23_f15e18 f15z22_f15e19 f15y24_f15e1 f15z22_f15e20 f15z22_f15e21 f15z22_f15e22 f15z22_f15e23 f15z22_f15e24 f15z22_f15e25 f15z22_f15e26 f15z22_f15e27 f15b_f15e1_r

end Go.Proofs.Ytmgacgonoodkfaa
