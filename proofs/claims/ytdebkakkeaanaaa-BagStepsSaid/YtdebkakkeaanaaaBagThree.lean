/- What the machine does with each piece of code, in plain text. PRINTED by a program of this workplace; Lean checks it. -/
import Derived.Test.YtdebkakkeaanaaaBagAnn
import Derived.Test.YtdebkakkeaanaaaProg
import Derived.KernelRfl
import Derived.Attr
namespace Go.Proofs.Ytdebkakkeaanaaa
open Go.AM
set_option maxRecDepth 100000
set_option linter.unusedVariables false
noncomputable def f9rs : List ResultVar := [ResultVar.tmp (0 : Nat)]
noncomputable def f9c0 : Code := subCode [] (bodyOf Try.prog 9)
def f9a0 : Ann := subAnn [] ann9
noncomputable def f9c1 : Code := subCode [0] (bodyOf Try.prog 9)
def f9a1 : Ann := subAnn [0] ann9
noncomputable def f9c2 : Code := subCode [1] (bodyOf Try.prog 9)
def f9a2 : Ann := subAnn [1] ann9
noncomputable def f9c3 : Code := subCode [1, 0] (bodyOf Try.prog 9)
def f9a3 : Ann := subAnn [1, 0] ann9
noncomputable def f9c4 : Code := subCode [1, 1] (bodyOf Try.prog 9)
def f9a4 : Ann := subAnn [1, 1] ann9
noncomputable def f9c5 : Code := subCode [1, 1, 0] (bodyOf Try.prog 9)
def f9a5 : Ann := subAnn [1, 1, 0] ann9
noncomputable def f9c6 : Code := subCode [1, 1, 1] (bodyOf Try.prog 9)
def f9a6 : Ann := subAnn [1, 1, 1] ann9
noncomputable def f9c7 : Code := subCode [1, 1, 1, 0] (bodyOf Try.prog 9)
def f9a7 : Ann := subAnn [1, 1, 1, 0] ann9
noncomputable def f9c8 : Code := subCode [1, 1, 1, 1] (bodyOf Try.prog 9)
def f9a8 : Ann := subAnn [1, 1, 1, 1] ann9
noncomputable def f9c9 : Code := subCode [1, 1, 1, 1, 0] (bodyOf Try.prog 9)
def f9a9 : Ann := subAnn [1, 1, 1, 1, 0] ann9
noncomputable def f9c10 : Code := subCode [1, 1, 1, 1, 1] (bodyOf Try.prog 9)
def f9a10 : Ann := subAnn [1, 1, 1, 1, 1] ann9
noncomputable def f9c11 : Code := subCode [1, 1, 1, 1, 1, 0] (bodyOf Try.prog 9)
def f9a11 : Ann := subAnn [1, 1, 1, 1, 1, 0] ann9
noncomputable def f9c12 : Code := subCode [1, 1, 1, 1, 1, 1] (bodyOf Try.prog 9)
def f9a12 : Ann := subAnn [1, 1, 1, 1, 1, 1] ann9
noncomputable def f9c13 : Code := subCode [1, 1, 1, 1, 1, 1, 0] (bodyOf Try.prog 9)
def f9a13 : Ann := subAnn [1, 1, 1, 1, 1, 1, 0] ann9
noncomputable def f9c14 : Code := subCode [1, 1, 1, 1, 1, 1, 1] (bodyOf Try.prog 9)
def f9a14 : Ann := subAnn [1, 1, 1, 1, 1, 1, 1] ann9
noncomputable def f9c15 : Code := subCode [1, 1, 1, 1, 1, 1, 1, 0] (bodyOf Try.prog 9)
def f9a15 : Ann := subAnn [1, 1, 1, 1, 1, 1, 1, 0] ann9
noncomputable def f9c16 : Code := subCode [1, 1, 1, 1, 1, 1, 1, 1] (bodyOf Try.prog 9)
def f9a16 : Ann := subAnn [1, 1, 1, 1, 1, 1, 1, 1] ann9
noncomputable def f9c17 : Code := subCode [1, 1, 1, 1, 1, 1, 1, 1, 0] (bodyOf Try.prog 9)
def f9a17 : Ann := subAnn [1, 1, 1, 1, 1, 1, 1, 1, 0] ann9
noncomputable def f9c18 : Code := subCode [1, 1, 1, 1, 1, 1, 1, 1, 1] (bodyOf Try.prog 9)
def f9a18 : Ann := subAnn [1, 1, 1, 1, 1, 1, 1, 1, 1] ann9
def f9e0 : Env := Env.sp 69 []
def f9e1 (y0 : Bool) : Env := AV.bool y0 :: Env.sp 68 []
def f9e2 (y0 : Option (Nat × Nat)) (y1 : Option (Nat × Nat)) : Env := Env.sp 1 (AV.ptr y0 :: Env.sp 8 (AV.ptr y1 :: Env.sp 58 []))
def f9e3 (y0 : Option (Nat × Nat)) : Env := Env.sp 1 (AV.ptr y0 :: Env.sp 67 [])
def f9e4 (y0 : Option (Nat × Nat)) (y1 : Int) (y2 : Option (Nat × Nat)) (y3 : Int) (y4 : Int) (y5 : Int) (y6 : ByteArray) (y7 : Int) : Env := Env.sp 1 (AV.ptr y0 :: AV.int IntKind.i64 y1 :: Env.sp 8 (AV.ptr y2 :: AV.agg [AV.int IntKind.i64 y3, AV.int IntKind.i64 y4, AV.int IntKind.i64 y5, AV.str y6] :: AV.int IntKind.i64 y7 :: Env.sp 55 []))
def f9e5 (y0 : Option (Nat × Nat)) (y1 : Int) : Env := Env.sp 1 (AV.ptr y0 :: AV.int IntKind.i64 y1 :: Env.sp 66 [])
def f9e6 (y0 : Option (Nat × Nat)) (y1 : Int) (y2 : Int) (y3 : Option (Nat × Nat)) (y4 : Int) (y5 : Int) (y6 : Int) (y7 : ByteArray) (y8 : Int) : Env := Env.sp 1 (AV.ptr y0 :: AV.int IntKind.i64 y1 :: AV.int IntKind.i64 y2 :: Env.sp 10 (AV.ptr y3 :: AV.agg [AV.int IntKind.i64 y4, AV.int IntKind.i64 y5, AV.int IntKind.i64 y6, AV.str y7] :: AV.int IntKind.i64 y8 :: Env.sp 52 []))
def f9e7 (y0 : Option (Nat × Nat)) (y1 : Int) (y2 : Int) : Env := Env.sp 1 (AV.ptr y0 :: AV.int IntKind.i64 y1 :: AV.int IntKind.i64 y2 :: Env.sp 65 [])
def f9e8 (y0 : Option (Nat × Nat)) (y1 : Int) (y2 : Int) (y3 : Int) (y4 : Option (Nat × Nat)) (y5 : Int) (y6 : Int) (y7 : Int) (y8 : ByteArray) (y9 : Int) : Env := Env.sp 1 (AV.ptr y0 :: AV.int IntKind.i64 y1 :: AV.int IntKind.i64 y2 :: AV.int IntKind.i64 y3 :: Env.sp 12 (AV.ptr y4 :: AV.agg [AV.int IntKind.i64 y5, AV.int IntKind.i64 y6, AV.int IntKind.i64 y7, AV.str y8] :: AV.int IntKind.i64 y9 :: Env.sp 49 []))
def f9e9 (y0 : Option (Nat × Nat)) (y1 : Int) (y2 : Int) (y3 : Int) : Env := Env.sp 1 (AV.ptr y0 :: AV.int IntKind.i64 y1 :: AV.int IntKind.i64 y2 :: AV.int IntKind.i64 y3 :: Env.sp 64 [])
def f9e10 (y0 : Option (Nat × Nat)) (y1 : Int) (y2 : Int) (y3 : Int) (y4 : Nat) (y5 : Int) (y6 : Int) (y7 : Int) (y8 : Int) (y9 : ByteArray) (y10 : Int) (y11 : Option (Nat × Nat)) (y12 : Int) (y13 : Int) (y14 : Int) (y15 : ByteArray) (y16 : Int) (y17 : Int) (y18 : Int) (y19 : Int) (y20 : ByteArray) (y21 : Int) : Env := Env.sp 1 (AV.ptr y0 :: AV.int IntKind.i64 y1 :: AV.int IntKind.i64 y2 :: AV.int IntKind.i64 y3 :: AV.ptr (some (y4, (0 : Nat))) :: AV.int IntKind.i64 y5 :: Env.sp 13 (AV.tuple [AV.agg [AV.int IntKind.i64 y6, AV.int IntKind.i64 y7, AV.int IntKind.i64 y8, AV.str y9], AV.int IntKind.i64 y10] :: AV.ptr y11 :: AV.tuple [AV.agg [AV.int IntKind.i64 y12, AV.int IntKind.i64 y13, AV.int IntKind.i64 y14, AV.str y15], AV.int IntKind.i64 y16] :: AV.agg [AV.int IntKind.i64 y17, AV.int IntKind.i64 y18, AV.int IntKind.i64 y19, AV.str y20] :: AV.int IntKind.i64 y21 :: Env.sp 44 []))
def f9e11 (y0 : Option (Nat × Nat)) (y1 : Int) (y2 : Int) (y3 : Int) (y4 : Nat) (y5 : Int) : Env := Env.sp 1 (AV.ptr y0 :: AV.int IntKind.i64 y1 :: AV.int IntKind.i64 y2 :: AV.int IntKind.i64 y3 :: AV.ptr (some (y4, (0 : Nat))) :: AV.int IntKind.i64 y5 :: Env.sp 62 [])
def f9e12 (y0 : Option (Nat × Nat)) (y1 : Int) (y2 : Int) (y3 : Int) (y4 : Nat) (y5 : Int) (y6 : Int) (y7 : Option (Nat × Nat)) (y8 : Int) : Env := Env.sp 1 (AV.ptr y0 :: AV.int IntKind.i64 y1 :: AV.int IntKind.i64 y2 :: AV.int IntKind.i64 y3 :: AV.ptr (some (y4, (0 : Nat))) :: AV.int IntKind.i64 y5 :: AV.int IntKind.i64 y6 :: Env.sp 17 (AV.ptr y7 :: AV.int IntKind.i64 y8 :: Env.sp 42 []))
def f9e13 (y0 : Option (Nat × Nat)) (y1 : Int) (y2 : Int) (y3 : Int) (y4 : Nat) (y5 : Int) (y6 : Int) : Env := Env.sp 1 (AV.ptr y0 :: AV.int IntKind.i64 y1 :: AV.int IntKind.i64 y2 :: AV.int IntKind.i64 y3 :: AV.ptr (some (y4, (0 : Nat))) :: AV.int IntKind.i64 y5 :: AV.int IntKind.i64 y6 :: Env.sp 61 [])
def f9e14 (y0 : Option (Nat × Nat)) (y1 : Int) (y2 : Int) (y3 : Int) (y4 : Nat) (y5 : Int) (y6 : Int) (y7 : Nat) (y8 : Int) (y9 : Int) (y10 : Int) (y11 : Int) (y12 : ByteArray) (y13 : Int) (y14 : Option (Nat × Nat)) (y15 : Int) (y16 : Int) (y17 : Int) (y18 : ByteArray) (y19 : Int) (y20 : Int) (y21 : Int) (y22 : Int) (y23 : ByteArray) (y24 : Int) : Env := Env.sp 1 (AV.ptr y0 :: AV.int IntKind.i64 y1 :: AV.int IntKind.i64 y2 :: AV.int IntKind.i64 y3 :: AV.ptr (some (y4, (0 : Nat))) :: AV.int IntKind.i64 y5 :: AV.int IntKind.i64 y6 :: AV.ptr (some (y7, (0 : Nat))) :: AV.int IntKind.i64 y8 :: Env.sp 17 (AV.tuple [AV.agg [AV.int IntKind.i64 y9, AV.int IntKind.i64 y10, AV.int IntKind.i64 y11, AV.str y12], AV.int IntKind.i64 y13] :: AV.ptr y14 :: AV.tuple [AV.agg [AV.int IntKind.i64 y15, AV.int IntKind.i64 y16, AV.int IntKind.i64 y17, AV.str y18], AV.int IntKind.i64 y19] :: AV.agg [AV.int IntKind.i64 y20, AV.int IntKind.i64 y21, AV.int IntKind.i64 y22, AV.str y23] :: AV.int IntKind.i64 y24 :: Env.sp 37 []))
def f9e15 (y0 : Option (Nat × Nat)) (y1 : Int) (y2 : Int) (y3 : Int) (y4 : Nat) (y5 : Int) (y6 : Int) (y7 : Nat) (y8 : Int) : Env := Env.sp 1 (AV.ptr y0 :: AV.int IntKind.i64 y1 :: AV.int IntKind.i64 y2 :: AV.int IntKind.i64 y3 :: AV.ptr (some (y4, (0 : Nat))) :: AV.int IntKind.i64 y5 :: AV.int IntKind.i64 y6 :: AV.ptr (some (y7, (0 : Nat))) :: AV.int IntKind.i64 y8 :: Env.sp 59 [])
def f9e16 (y0 : Bool) (y1 : Option (Nat × Nat)) (y2 : Int) (y3 : Int) (y4 : Int) (y5 : Nat) (y6 : Int) (y7 : Int) (y8 : Nat) (y9 : Int) (y10 : Int) (y11 : Bool) (y12 : Bool) (y13 : Int) (y14 : Bool) (y15 : Bool) (y16 : Bool) (y17 : Int) (y18 : Bool) (y19 : Bool) (y20 : Bool) (y21 : Int) (y22 : Bool) (y23 : Bool) (y24 : Bool) (y25 : Int) (y26 : Bool) (y27 : Bool) (y28 : Bool) (y29 : Int) (y30 : Bool) (y31 : Bool) (y32 : Bool) (y33 : Nat) (y34 : ByteArray) (y35 : Bool) (y36 : Bool) (y37 : Bool) (y38 : Nat) (y39 : ByteArray) (y40 : Bool) (y41 : Bool) (y42 : Bool) (y43 : Option (Nat × Nat)) (y44 : Int) (y45 : Bool) (y46 : Bool) : Env := AV.bool y0 :: AV.ptr y1 :: AV.int IntKind.i64 y2 :: AV.int IntKind.i64 y3 :: AV.int IntKind.i64 y4 :: AV.ptr (some (y5, (0 : Nat))) :: AV.int IntKind.i64 y6 :: AV.int IntKind.i64 y7 :: AV.ptr (some (y8, (0 : Nat))) :: AV.int IntKind.i64 y9 :: Env.sp 22 (AV.int IntKind.i64 y10 :: AV.bool y11 :: AV.bool y12 :: AV.int IntKind.i64 y13 :: AV.bool y14 :: AV.bool y15 :: AV.bool y16 :: AV.int IntKind.i64 y17 :: AV.bool y18 :: AV.bool y19 :: AV.bool y20 :: AV.int IntKind.i64 y21 :: AV.bool y22 :: AV.bool y23 :: AV.bool y24 :: AV.int IntKind.i64 y25 :: AV.bool y26 :: AV.bool y27 :: AV.bool y28 :: AV.int IntKind.i64 y29 :: AV.bool y30 :: AV.bool y31 :: AV.bool y32 :: AV.ptr (some (y33, (3 : Nat))) :: AV.str y34 :: AV.bool y35 :: AV.bool y36 :: AV.bool y37 :: AV.ptr (some (y38, (3 : Nat))) :: AV.str y39 :: AV.bool y40 :: AV.bool y41 :: AV.bool y42 :: AV.ptr y43 :: AV.int IntKind.i64 y44 :: AV.bool y45 :: AV.bool y46 :: [])
def f9e17 (y0 : Bool) (y1 : Option (Nat × Nat)) (y2 : Int) (y3 : Int) (y4 : Int) (y5 : Nat) (y6 : Int) (y7 : Int) (y8 : Nat) (y9 : Int) (y10 : Int) (y11 : Bool) (y12 : Bool) (y13 : Int) (y14 : Bool) (y15 : Bool) (y16 : Bool) (y17 : Int) (y18 : Bool) (y19 : Bool) (y20 : Bool) (y21 : Int) (y22 : Bool) (y23 : Bool) (y24 : Bool) (y25 : Int) (y26 : Bool) (y27 : Bool) (y28 : Bool) (y29 : Int) (y30 : Bool) (y31 : Bool) (y32 : Bool) (y33 : Nat) (y34 : ByteArray) (y35 : Bool) (y36 : Bool) (y37 : Bool) (y38 : Nat) (y39 : ByteArray) (y40 : Bool) (y41 : Bool) (y42 : Bool) (y43 : Bool) : Env := AV.bool y0 :: AV.ptr y1 :: AV.int IntKind.i64 y2 :: AV.int IntKind.i64 y3 :: AV.int IntKind.i64 y4 :: AV.ptr (some (y5, (0 : Nat))) :: AV.int IntKind.i64 y6 :: AV.int IntKind.i64 y7 :: AV.ptr (some (y8, (0 : Nat))) :: AV.int IntKind.i64 y9 :: Env.sp 22 (AV.int IntKind.i64 y10 :: AV.bool y11 :: AV.bool y12 :: AV.int IntKind.i64 y13 :: AV.bool y14 :: AV.bool y15 :: AV.bool y16 :: AV.int IntKind.i64 y17 :: AV.bool y18 :: AV.bool y19 :: AV.bool y20 :: AV.int IntKind.i64 y21 :: AV.bool y22 :: AV.bool y23 :: AV.bool y24 :: AV.int IntKind.i64 y25 :: AV.bool y26 :: AV.bool y27 :: AV.bool y28 :: AV.int IntKind.i64 y29 :: AV.bool y30 :: AV.bool y31 :: AV.bool y32 :: AV.ptr (some (y33, (3 : Nat))) :: AV.str y34 :: AV.bool y35 :: AV.bool y36 :: AV.bool y37 :: AV.ptr (some (y38, (3 : Nat))) :: AV.str y39 :: AV.bool y40 :: AV.bool y41 :: AV.bool y42 :: AV.tuple [] :: AV.tuple [] :: AV.tuple [] :: AV.bool y43 :: [])
def f9e18 (y0 : Bool) (y1 : Option (Nat × Nat)) (y2 : Int) (y3 : Int) (y4 : Int) (y5 : Nat) (y6 : Int) (y7 : Int) (y8 : Nat) (y9 : Int) (y10 : Int) (y11 : Bool) (y12 : Bool) (y13 : Int) (y14 : Bool) (y15 : Bool) (y16 : Bool) (y17 : Int) (y18 : Bool) (y19 : Bool) (y20 : Bool) (y21 : Int) (y22 : Bool) (y23 : Bool) (y24 : Bool) (y25 : Int) (y26 : Bool) (y27 : Bool) (y28 : Bool) (y29 : Int) (y30 : Bool) (y31 : Bool) (y32 : Bool) (y33 : Nat) (y34 : ByteArray) (y35 : Bool) (y36 : Bool) (y37 : Bool) (y38 : Bool) (y39 : Bool) (y40 : Bool) : Env := AV.bool y0 :: AV.ptr y1 :: AV.int IntKind.i64 y2 :: AV.int IntKind.i64 y3 :: AV.int IntKind.i64 y4 :: AV.ptr (some (y5, (0 : Nat))) :: AV.int IntKind.i64 y6 :: AV.int IntKind.i64 y7 :: AV.ptr (some (y8, (0 : Nat))) :: AV.int IntKind.i64 y9 :: Env.sp 22 (AV.int IntKind.i64 y10 :: AV.bool y11 :: AV.bool y12 :: AV.int IntKind.i64 y13 :: AV.bool y14 :: AV.bool y15 :: AV.bool y16 :: AV.int IntKind.i64 y17 :: AV.bool y18 :: AV.bool y19 :: AV.bool y20 :: AV.int IntKind.i64 y21 :: AV.bool y22 :: AV.bool y23 :: AV.bool y24 :: AV.int IntKind.i64 y25 :: AV.bool y26 :: AV.bool y27 :: AV.bool y28 :: AV.int IntKind.i64 y29 :: AV.bool y30 :: AV.bool y31 :: AV.bool y32 :: AV.ptr (some (y33, (3 : Nat))) :: AV.str y34 :: AV.bool y35 :: AV.bool y36 :: AV.bool y37 :: AV.tuple [] :: AV.tuple [] :: AV.tuple [] :: AV.bool y38 :: AV.bool y39 :: AV.tuple [] :: AV.tuple [] :: AV.tuple [] :: AV.bool y40 :: [])
def f9e19 (y0 : Bool) (y1 : Option (Nat × Nat)) (y2 : Int) (y3 : Int) (y4 : Int) (y5 : Nat) (y6 : Int) (y7 : Int) (y8 : Nat) (y9 : Int) (y10 : Int) (y11 : Bool) (y12 : Bool) (y13 : Int) (y14 : Bool) (y15 : Bool) (y16 : Bool) (y17 : Int) (y18 : Bool) (y19 : Bool) (y20 : Bool) (y21 : Int) (y22 : Bool) (y23 : Bool) (y24 : Bool) (y25 : Int) (y26 : Bool) (y27 : Bool) (y28 : Bool) (y29 : Int) (y30 : Bool) (y31 : Bool) (y32 : Bool) (y33 : Bool) (y34 : Bool) (y35 : Bool) (y36 : Bool) (y37 : Bool) : Env := AV.bool y0 :: AV.ptr y1 :: AV.int IntKind.i64 y2 :: AV.int IntKind.i64 y3 :: AV.int IntKind.i64 y4 :: AV.ptr (some (y5, (0 : Nat))) :: AV.int IntKind.i64 y6 :: AV.int IntKind.i64 y7 :: AV.ptr (some (y8, (0 : Nat))) :: AV.int IntKind.i64 y9 :: Env.sp 22 (AV.int IntKind.i64 y10 :: AV.bool y11 :: AV.bool y12 :: AV.int IntKind.i64 y13 :: AV.bool y14 :: AV.bool y15 :: AV.bool y16 :: AV.int IntKind.i64 y17 :: AV.bool y18 :: AV.bool y19 :: AV.bool y20 :: AV.int IntKind.i64 y21 :: AV.bool y22 :: AV.bool y23 :: AV.bool y24 :: AV.int IntKind.i64 y25 :: AV.bool y26 :: AV.bool y27 :: AV.bool y28 :: AV.int IntKind.i64 y29 :: AV.bool y30 :: AV.bool y31 :: AV.bool y32 :: AV.tuple [] :: AV.tuple [] :: AV.tuple [] :: AV.bool y33 :: AV.bool y34 :: AV.tuple [] :: AV.tuple [] :: AV.tuple [] :: AV.bool y35 :: AV.bool y36 :: AV.tuple [] :: AV.tuple [] :: AV.tuple [] :: AV.bool y37 :: [])
def f9e20 (y0 : Bool) (y1 : Option (Nat × Nat)) (y2 : Int) (y3 : Int) (y4 : Int) (y5 : Nat) (y6 : Int) (y7 : Int) (y8 : Nat) (y9 : Int) (y10 : Int) (y11 : Bool) (y12 : Bool) (y13 : Int) (y14 : Bool) (y15 : Bool) (y16 : Bool) (y17 : Int) (y18 : Bool) (y19 : Bool) (y20 : Bool) (y21 : Int) (y22 : Bool) (y23 : Bool) (y24 : Bool) (y25 : Int) (y26 : Bool) (y27 : Bool) (y28 : Bool) (y29 : Bool) (y30 : Bool) (y31 : Bool) (y32 : Bool) (y33 : Bool) (y34 : Bool) (y35 : Bool) : Env := AV.bool y0 :: AV.ptr y1 :: AV.int IntKind.i64 y2 :: AV.int IntKind.i64 y3 :: AV.int IntKind.i64 y4 :: AV.ptr (some (y5, (0 : Nat))) :: AV.int IntKind.i64 y6 :: AV.int IntKind.i64 y7 :: AV.ptr (some (y8, (0 : Nat))) :: AV.int IntKind.i64 y9 :: Env.sp 22 (AV.int IntKind.i64 y10 :: AV.bool y11 :: AV.bool y12 :: AV.int IntKind.i64 y13 :: AV.bool y14 :: AV.bool y15 :: AV.bool y16 :: AV.int IntKind.i64 y17 :: AV.bool y18 :: AV.bool y19 :: AV.bool y20 :: AV.int IntKind.i64 y21 :: AV.bool y22 :: AV.bool y23 :: AV.bool y24 :: AV.int IntKind.i64 y25 :: AV.bool y26 :: AV.bool y27 :: AV.bool y28 :: AV.tuple [] :: AV.tuple [] :: AV.bool y29 :: AV.bool y30 :: AV.tuple [] :: AV.tuple [] :: AV.tuple [] :: AV.bool y31 :: AV.bool y32 :: AV.tuple [] :: AV.tuple [] :: AV.tuple [] :: AV.bool y33 :: AV.bool y34 :: AV.tuple [] :: AV.tuple [] :: AV.tuple [] :: AV.bool y35 :: [])
def f9e21 (y0 : Bool) (y1 : Option (Nat × Nat)) (y2 : Int) (y3 : Int) (y4 : Int) (y5 : Nat) (y6 : Int) (y7 : Int) (y8 : Nat) (y9 : Int) (y10 : Int) (y11 : Bool) (y12 : Bool) (y13 : Int) (y14 : Bool) (y15 : Bool) (y16 : Bool) (y17 : Int) (y18 : Bool) (y19 : Bool) (y20 : Bool) (y21 : Int) (y22 : Bool) (y23 : Bool) (y24 : Bool) (y25 : Bool) (y26 : Bool) (y27 : Bool) (y28 : Bool) (y29 : Bool) (y30 : Bool) (y31 : Bool) (y32 : Bool) (y33 : Bool) : Env := AV.bool y0 :: AV.ptr y1 :: AV.int IntKind.i64 y2 :: AV.int IntKind.i64 y3 :: AV.int IntKind.i64 y4 :: AV.ptr (some (y5, (0 : Nat))) :: AV.int IntKind.i64 y6 :: AV.int IntKind.i64 y7 :: AV.ptr (some (y8, (0 : Nat))) :: AV.int IntKind.i64 y9 :: Env.sp 22 (AV.int IntKind.i64 y10 :: AV.bool y11 :: AV.bool y12 :: AV.int IntKind.i64 y13 :: AV.bool y14 :: AV.bool y15 :: AV.bool y16 :: AV.int IntKind.i64 y17 :: AV.bool y18 :: AV.bool y19 :: AV.bool y20 :: AV.int IntKind.i64 y21 :: AV.bool y22 :: AV.bool y23 :: AV.bool y24 :: AV.tuple [] :: AV.tuple [] :: AV.bool y25 :: AV.bool y26 :: AV.tuple [] :: AV.tuple [] :: AV.bool y27 :: AV.bool y28 :: AV.tuple [] :: AV.tuple [] :: AV.tuple [] :: AV.bool y29 :: AV.bool y30 :: AV.tuple [] :: AV.tuple [] :: AV.tuple [] :: AV.bool y31 :: AV.bool y32 :: AV.tuple [] :: AV.tuple [] :: AV.tuple [] :: AV.bool y33 :: [])
def f9e22 (y0 : Bool) (y1 : Option (Nat × Nat)) (y2 : Int) (y3 : Int) (y4 : Int) (y5 : Nat) (y6 : Int) (y7 : Int) (y8 : Nat) (y9 : Int) (y10 : Int) (y11 : Bool) (y12 : Bool) (y13 : Int) (y14 : Bool) (y15 : Bool) (y16 : Bool) (y17 : Int) (y18 : Bool) (y19 : Bool) (y20 : Bool) (y21 : Bool) (y22 : Bool) (y23 : Bool) (y24 : Bool) (y25 : Bool) (y26 : Bool) (y27 : Bool) (y28 : Bool) (y29 : Bool) (y30 : Bool) (y31 : Bool) : Env := AV.bool y0 :: AV.ptr y1 :: AV.int IntKind.i64 y2 :: AV.int IntKind.i64 y3 :: AV.int IntKind.i64 y4 :: AV.ptr (some (y5, (0 : Nat))) :: AV.int IntKind.i64 y6 :: AV.int IntKind.i64 y7 :: AV.ptr (some (y8, (0 : Nat))) :: AV.int IntKind.i64 y9 :: Env.sp 22 (AV.int IntKind.i64 y10 :: AV.bool y11 :: AV.bool y12 :: AV.int IntKind.i64 y13 :: AV.bool y14 :: AV.bool y15 :: AV.bool y16 :: AV.int IntKind.i64 y17 :: AV.bool y18 :: AV.bool y19 :: AV.bool y20 :: AV.tuple [] :: AV.tuple [] :: AV.bool y21 :: AV.bool y22 :: AV.tuple [] :: AV.tuple [] :: AV.bool y23 :: AV.bool y24 :: AV.tuple [] :: AV.tuple [] :: AV.bool y25 :: AV.bool y26 :: AV.tuple [] :: AV.tuple [] :: AV.tuple [] :: AV.bool y27 :: AV.bool y28 :: AV.tuple [] :: AV.tuple [] :: AV.tuple [] :: AV.bool y29 :: AV.bool y30 :: AV.tuple [] :: AV.tuple [] :: AV.tuple [] :: AV.bool y31 :: [])
def f9e23 (y0 : Bool) (y1 : Option (Nat × Nat)) (y2 : Int) (y3 : Int) (y4 : Int) (y5 : Nat) (y6 : Int) (y7 : Int) (y8 : Nat) (y9 : Int) (y10 : Int) (y11 : Bool) (y12 : Bool) (y13 : Int) (y14 : Bool) (y15 : Bool) (y16 : Bool) (y17 : Bool) (y18 : Bool) (y19 : Bool) (y20 : Bool) (y21 : Bool) (y22 : Bool) (y23 : Bool) (y24 : Bool) (y25 : Bool) (y26 : Bool) (y27 : Bool) (y28 : Bool) (y29 : Bool) : Env := AV.bool y0 :: AV.ptr y1 :: AV.int IntKind.i64 y2 :: AV.int IntKind.i64 y3 :: AV.int IntKind.i64 y4 :: AV.ptr (some (y5, (0 : Nat))) :: AV.int IntKind.i64 y6 :: AV.int IntKind.i64 y7 :: AV.ptr (some (y8, (0 : Nat))) :: AV.int IntKind.i64 y9 :: Env.sp 22 (AV.int IntKind.i64 y10 :: AV.bool y11 :: AV.bool y12 :: AV.int IntKind.i64 y13 :: AV.bool y14 :: AV.bool y15 :: AV.bool y16 :: AV.tuple [] :: AV.tuple [] :: AV.bool y17 :: AV.bool y18 :: AV.tuple [] :: AV.tuple [] :: AV.bool y19 :: AV.bool y20 :: AV.tuple [] :: AV.tuple [] :: AV.bool y21 :: AV.bool y22 :: AV.tuple [] :: AV.tuple [] :: AV.bool y23 :: AV.bool y24 :: AV.tuple [] :: AV.tuple [] :: AV.tuple [] :: AV.bool y25 :: AV.bool y26 :: AV.tuple [] :: AV.tuple [] :: AV.tuple [] :: AV.bool y27 :: AV.bool y28 :: AV.tuple [] :: AV.tuple [] :: AV.tuple [] :: AV.bool y29 :: [])
def f9e24 (y0 : Bool) (y1 : Option (Nat × Nat)) (y2 : Int) (y3 : Int) (y4 : Int) (y5 : Nat) (y6 : Int) (y7 : Int) (y8 : Nat) (y9 : Int) (y10 : Int) (y11 : Bool) (y12 : Bool) (y13 : Bool) (y14 : Bool) (y15 : Bool) (y16 : Bool) (y17 : Bool) (y18 : Bool) (y19 : Bool) (y20 : Bool) (y21 : Bool) (y22 : Bool) (y23 : Bool) (y24 : Bool) (y25 : Bool) (y26 : Bool) (y27 : Bool) : Env := AV.bool y0 :: AV.ptr y1 :: AV.int IntKind.i64 y2 :: AV.int IntKind.i64 y3 :: AV.int IntKind.i64 y4 :: AV.ptr (some (y5, (0 : Nat))) :: AV.int IntKind.i64 y6 :: AV.int IntKind.i64 y7 :: AV.ptr (some (y8, (0 : Nat))) :: AV.int IntKind.i64 y9 :: Env.sp 22 (AV.int IntKind.i64 y10 :: AV.bool y11 :: AV.bool y12 :: AV.tuple [] :: AV.tuple [] :: AV.bool y13 :: AV.bool y14 :: AV.tuple [] :: AV.tuple [] :: AV.bool y15 :: AV.bool y16 :: AV.tuple [] :: AV.tuple [] :: AV.bool y17 :: AV.bool y18 :: AV.tuple [] :: AV.tuple [] :: AV.bool y19 :: AV.bool y20 :: AV.tuple [] :: AV.tuple [] :: AV.bool y21 :: AV.bool y22 :: AV.tuple [] :: AV.tuple [] :: AV.tuple [] :: AV.bool y23 :: AV.bool y24 :: AV.tuple [] :: AV.tuple [] :: AV.tuple [] :: AV.bool y25 :: AV.bool y26 :: AV.tuple [] :: AV.tuple [] :: AV.tuple [] :: AV.bool y27 :: [])

/- function 9 -/
theorem f9_eq {R : Type} (call : CallF R) (N : Nat) (σ : St) (K : AV → St → Option R) :
    bodyK Try.prog call N ann 9 [] σ K = runK Try.prog call N f9c0 f9a0 (bodyC Try.prog f9rs K) (f9e0) σ := bodyK_of (fn := ((Try.prog.funcs[9]?).get rfl)) (by kernel_rfl) (by kernel_rfl) (by kernel_rfl) (by kernel_rfl) (by kernel_rfl) (by kernel_rfl)
theorem f9n0 {R : Type} (call : CallF R) (N : Nat) (J : KF R) (e : Env) (σ : St) : runK Try.prog call N f9c0 f9a0 J e σ = runK Try.prog call N f9c1 f9a1 (seqC (fun K e σ => runK Try.prog call N f9c2 f9a2 K e σ) f9a0 J) e σ := runK_seq' (by kernel_rfl) (by kernel_rfl) (by kernel_rfl)
theorem f9r1_f9e0 {R : Type} (call : CallF R) (N : Nat) (J : KF R) (σ : St) :
    runK Try.prog call N f9c1 f9a1 J (f9e0) σ =
J Ex.normal (f9e1 false) σ := hide (by kernel_rfl)
theorem f9z0_f9e1 (y0 : Bool) : Ann.clr f9a0 (f9e1 y0) = f9e0 := hide (by kernel_rfl)
theorem f9n2 {R : Type} (call : CallF R) (N : Nat) (J : KF R) (e : Env) (σ : St) : runK Try.prog call N f9c2 f9a2 J e σ = runK Try.prog call N f9c3 f9a3 (seqC (fun K e σ => runK Try.prog call N f9c4 f9a4 K e σ) f9a2 J) e σ := runK_seq' (by kernel_rfl) (by kernel_rfl) (by kernel_rfl)
theorem f9r3_f9e0 {R : Type} (call : CallF R) (N : Nat) (J : KF R) (σ : St) :
    runK Try.prog call N f9c3 f9a3 J (f9e0) σ =
call (8 : Nat) [] σ fun v0 v1 => Option.bind (AV.toPtr v0) fun v2 => J Ex.normal (f9e2 v2 v2) v1 := hide (by kernel_rfl)
theorem f9z2_f9e2 (y0 : Option (Nat × Nat)) (y1 : Option (Nat × Nat)) : Ann.clr f9a2 (f9e2 y0 y1) = f9e3 y0 := hide (by kernel_rfl)
theorem f9n4 {R : Type} (call : CallF R) (N : Nat) (J : KF R) (e : Env) (σ : St) : runK Try.prog call N f9c4 f9a4 J e σ = runK Try.prog call N f9c5 f9a5 (seqC (fun K e σ => runK Try.prog call N f9c6 f9a6 K e σ) f9a4 J) e σ := runK_seq' (by kernel_rfl) (by kernel_rfl) (by kernel_rfl)
theorem f9r5_f9e3 {R : Type} (call : CallF R) (N : Nat) (y0 : Option (Nat × Nat)) (J : KF R) (σ : St) :
    runK Try.prog call N f9c5 f9a5 J (f9e3 y0) σ =
call (10 : Nat)
  [AV.ptr y0,
    AV.agg [AV.int IntKind.i64 (0 : Int), AV.int IntKind.i64 (0 : Int), AV.int IntKind.i64 (0 : Int), AV.str (ByteArray.mk #[(97 : UInt8)])]]
  σ fun v0 v1 =>
  Option.bind (AV.toInt IntKind.i64 v0) fun v2 => J Ex.normal (f9e4 y0 v2 y0 (0 : Int) (0 : Int) (0 : Int) (ByteArray.mk #[(97 : UInt8)]) v2) v1 := hide (by kernel_rfl)
theorem f9z4_f9e4 (y0 : Option (Nat × Nat)) (y1 : Int) (y2 : Option (Nat × Nat)) (y3 : Int) (y4 : Int) (y5 : Int) (y6 : ByteArray) (y7 : Int) : Ann.clr f9a4 (f9e4 y0 y1 y2 y3 y4 y5 y6 y7) = f9e5 y0 y1 := hide (by kernel_rfl)
theorem f9n6 {R : Type} (call : CallF R) (N : Nat) (J : KF R) (e : Env) (σ : St) : runK Try.prog call N f9c6 f9a6 J e σ = runK Try.prog call N f9c7 f9a7 (seqC (fun K e σ => runK Try.prog call N f9c8 f9a8 K e σ) f9a6 J) e σ := runK_seq' (by kernel_rfl) (by kernel_rfl) (by kernel_rfl)
theorem f9r7_f9e5 {R : Type} (call : CallF R) (N : Nat) (y0 : Option (Nat × Nat)) (y1 : Int) (J : KF R) (σ : St) :
    runK Try.prog call N f9c7 f9a7 J (f9e5 y0 y1) σ =
call (10 : Nat)
  [AV.ptr y0,
    AV.agg [AV.int IntKind.i64 (0 : Int), AV.int IntKind.i64 (0 : Int), AV.int IntKind.i64 (0 : Int), AV.str (ByteArray.mk #[(98 : UInt8)])]]
  σ fun v0 v1 =>
  Option.bind (AV.toInt IntKind.i64 v0) fun v2 => J Ex.normal (f9e6 y0 y1 v2 y0 (0 : Int) (0 : Int) (0 : Int) (ByteArray.mk #[(98 : UInt8)]) v2) v1 := hide (by kernel_rfl)
theorem f9z6_f9e6 (y0 : Option (Nat × Nat)) (y1 : Int) (y2 : Int) (y3 : Option (Nat × Nat)) (y4 : Int) (y5 : Int) (y6 : Int) (y7 : ByteArray) (y8 : Int) : Ann.clr f9a6 (f9e6 y0 y1 y2 y3 y4 y5 y6 y7 y8) = f9e7 y0 y1 y2 := hide (by kernel_rfl)
theorem f9n8 {R : Type} (call : CallF R) (N : Nat) (J : KF R) (e : Env) (σ : St) : runK Try.prog call N f9c8 f9a8 J e σ = runK Try.prog call N f9c9 f9a9 (seqC (fun K e σ => runK Try.prog call N f9c10 f9a10 K e σ) f9a8 J) e σ := runK_seq' (by kernel_rfl) (by kernel_rfl) (by kernel_rfl)
theorem f9r9_f9e7 {R : Type} (call : CallF R) (N : Nat) (y0 : Option (Nat × Nat)) (y1 : Int) (y2 : Int) (J : KF R) (σ : St) :
    runK Try.prog call N f9c9 f9a9 J (f9e7 y0 y1 y2) σ =
call (10 : Nat)
  [AV.ptr y0,
    AV.agg [AV.int IntKind.i64 (0 : Int), AV.int IntKind.i64 (0 : Int), AV.int IntKind.i64 (0 : Int), AV.str (ByteArray.mk #[(99 : UInt8)])]]
  σ fun v0 v1 =>
  Option.bind (AV.toInt IntKind.i64 v0) fun v2 => J Ex.normal (f9e8 y0 y1 y2 v2 y0 (0 : Int) (0 : Int) (0 : Int) (ByteArray.mk #[(99 : UInt8)]) v2) v1 := hide (by kernel_rfl)
theorem f9z8_f9e8 (y0 : Option (Nat × Nat)) (y1 : Int) (y2 : Int) (y3 : Int) (y4 : Option (Nat × Nat)) (y5 : Int) (y6 : Int) (y7 : Int) (y8 : ByteArray) (y9 : Int) : Ann.clr f9a8 (f9e8 y0 y1 y2 y3 y4 y5 y6 y7 y8 y9) = f9e9 y0 y1 y2 y3 := hide (by kernel_rfl)
theorem f9n10 {R : Type} (call : CallF R) (N : Nat) (J : KF R) (e : Env) (σ : St) : runK Try.prog call N f9c10 f9a10 J e σ = runK Try.prog call N f9c11 f9a11 (seqC (fun K e σ => runK Try.prog call N f9c12 f9a12 K e σ) f9a10 J) e σ := runK_seq' (by kernel_rfl) (by kernel_rfl) (by kernel_rfl)
theorem f9r11_f9e9 {R : Type} (call : CallF R) (N : Nat) (y0 : Option (Nat × Nat)) (y1 : Int) (y2 : Int) (y3 : Int) (J : KF R) (σ : St) :
    runK Try.prog call N f9c11 f9a11 J (f9e9 y0 y1 y2 y3) σ =
call (11 : Nat) [AV.ptr y0, AV.int IntKind.i64 (1 : Int)] σ fun v0 v1 =>
  Option.bind (AV.toTuple v0) fun v2 =>
    if List.length v2 = (2 : Nat) then
      Option.bind (List.head? v2) fun v3 =>
        Option.bind (AV.toAgg v3) fun v4 =>
          if List.length v4 = (4 : Nat) then
            Option.bind (List.head? v4) fun v5 =>
              Option.bind (AV.toInt IntKind.i64 v5) fun v6 =>
                Option.bind (List.head? (List.tail v4)) fun v7 =>
                  Option.bind (AV.toInt IntKind.i64 v7) fun v8 =>
                    Option.bind (List.head? (List.tail (List.tail v4))) fun v9 =>
                      Option.bind (AV.toInt IntKind.i64 v9) fun v10 =>
                        Option.bind (List.head? (List.tail (List.tail (List.tail v4)))) fun v11 =>
                          Option.bind (AV.toStr v11) fun v12 =>
                            Option.bind (List.head? (List.tail v2)) fun v13 =>
                              Option.bind (AV.toInt IntKind.i64 v13) fun v14 =>
                                Option.bind
                                  (St.st
                                    (St.new v1
                                      (Blk.cells
                                        [AV.int IntKind.i64 (0 : Int), AV.int IntKind.i64 (0 : Int), AV.int IntKind.i64 (0 : Int),
                                          AV.str (ByteArray.mk #[])]
                                        true))
                                    (St.next v1) (0 : Nat) [AV.int IntKind.i64 v6, AV.int IntKind.i64 v8, AV.int IntKind.i64 v10, AV.str v12])
                                  fun v15 =>
                                  J Ex.normal (f9e10 y0 y1 y2 y3 (St.next v1) v14 v6 v8 v10 v12 v14 y0 v6 v8 v10 v12 v14 v6 v8 v10 v12 v14) v15
          else none
    else none := hide (by kernel_rfl)
theorem f9z10_f9e10 (y0 : Option (Nat × Nat)) (y1 : Int) (y2 : Int) (y3 : Int) (y4 : Nat) (y5 : Int) (y6 : Int) (y7 : Int) (y8 : Int) (y9 : ByteArray) (y10 : Int) (y11 : Option (Nat × Nat)) (y12 : Int) (y13 : Int) (y14 : Int) (y15 : ByteArray) (y16 : Int) (y17 : Int) (y18 : Int) (y19 : Int) (y20 : ByteArray) (y21 : Int) : Ann.clr f9a10 (f9e10 y0 y1 y2 y3 y4 y5 y6 y7 y8 y9 y10 y11 y12 y13 y14 y15 y16 y17 y18 y19 y20 y21) = f9e11 y0 y1 y2 y3 y4 y5 := hide (by kernel_rfl)
theorem f9n12 {R : Type} (call : CallF R) (N : Nat) (J : KF R) (e : Env) (σ : St) : runK Try.prog call N f9c12 f9a12 J e σ = runK Try.prog call N f9c13 f9a13 (seqC (fun K e σ => runK Try.prog call N f9c14 f9a14 K e σ) f9a12 J) e σ := runK_seq' (by kernel_rfl) (by kernel_rfl) (by kernel_rfl)
theorem f9r13_f9e11 {R : Type} (call : CallF R) (N : Nat) (y0 : Option (Nat × Nat)) (y1 : Int) (y2 : Int) (y3 : Int) (y4 : Nat) (y5 : Int) (J : KF R) (σ : St) :
    runK Try.prog call N f9c13 f9a13 J (f9e11 y0 y1 y2 y3 y4 y5) σ =
call (14 : Nat) [AV.ptr y0, AV.int IntKind.i64 (0 : Int)] σ fun v0 v1 =>
  Option.bind (AV.toInt IntKind.i64 v0) fun v2 => J Ex.normal (f9e12 y0 y1 y2 y3 y4 y5 v2 y0 v2) v1 := hide (by kernel_rfl)
theorem f9z12_f9e12 (y0 : Option (Nat × Nat)) (y1 : Int) (y2 : Int) (y3 : Int) (y4 : Nat) (y5 : Int) (y6 : Int) (y7 : Option (Nat × Nat)) (y8 : Int) : Ann.clr f9a12 (f9e12 y0 y1 y2 y3 y4 y5 y6 y7 y8) = f9e13 y0 y1 y2 y3 y4 y5 y6 := hide (by kernel_rfl)
theorem f9n14 {R : Type} (call : CallF R) (N : Nat) (J : KF R) (e : Env) (σ : St) : runK Try.prog call N f9c14 f9a14 J e σ = runK Try.prog call N f9c15 f9a15 (seqC (fun K e σ => runK Try.prog call N f9c16 f9a16 K e σ) f9a14 J) e σ := runK_seq' (by kernel_rfl) (by kernel_rfl) (by kernel_rfl)
theorem f9r15_f9e13 {R : Type} (call : CallF R) (N : Nat) (y0 : Option (Nat × Nat)) (y1 : Int) (y2 : Int) (y3 : Int) (y4 : Nat) (y5 : Int) (y6 : Int) (J : KF R) (σ : St) :
    runK Try.prog call N f9c15 f9a15 J (f9e13 y0 y1 y2 y3 y4 y5 y6) σ =
call (12 : Nat) [AV.ptr y0, AV.int IntKind.i64 (2 : Int)] σ fun v0 v1 =>
  Option.bind (AV.toTuple v0) fun v2 =>
    if List.length v2 = (2 : Nat) then
      Option.bind (List.head? v2) fun v3 =>
        Option.bind (AV.toAgg v3) fun v4 =>
          if List.length v4 = (4 : Nat) then
            Option.bind (List.head? v4) fun v5 =>
              Option.bind (AV.toInt IntKind.i64 v5) fun v6 =>
                Option.bind (List.head? (List.tail v4)) fun v7 =>
                  Option.bind (AV.toInt IntKind.i64 v7) fun v8 =>
                    Option.bind (List.head? (List.tail (List.tail v4))) fun v9 =>
                      Option.bind (AV.toInt IntKind.i64 v9) fun v10 =>
                        Option.bind (List.head? (List.tail (List.tail (List.tail v4)))) fun v11 =>
                          Option.bind (AV.toStr v11) fun v12 =>
                            Option.bind (List.head? (List.tail v2)) fun v13 =>
                              Option.bind (AV.toInt IntKind.i64 v13) fun v14 =>
                                Option.bind
                                  (St.st
                                    (St.new v1
                                      (Blk.cells
                                        [AV.int IntKind.i64 (0 : Int), AV.int IntKind.i64 (0 : Int), AV.int IntKind.i64 (0 : Int),
                                          AV.str (ByteArray.mk #[])]
                                        true))
                                    (St.next v1) (0 : Nat) [AV.int IntKind.i64 v6, AV.int IntKind.i64 v8, AV.int IntKind.i64 v10, AV.str v12])
                                  fun v15 =>
                                  J Ex.normal (f9e14 y0 y1 y2 y3 y4 y5 y6 (St.next v1) v14 v6 v8 v10 v12 v14 y0 v6 v8 v10 v12 v14 v6 v8 v10 v12 v14)
                                    v15
          else none
    else none := hide (by kernel_rfl)
theorem f9z14_f9e14 (y0 : Option (Nat × Nat)) (y1 : Int) (y2 : Int) (y3 : Int) (y4 : Nat) (y5 : Int) (y6 : Int) (y7 : Nat) (y8 : Int) (y9 : Int) (y10 : Int) (y11 : Int) (y12 : ByteArray) (y13 : Int) (y14 : Option (Nat × Nat)) (y15 : Int) (y16 : Int) (y17 : Int) (y18 : ByteArray) (y19 : Int) (y20 : Int) (y21 : Int) (y22 : Int) (y23 : ByteArray) (y24 : Int) : Ann.clr f9a14 (f9e14 y0 y1 y2 y3 y4 y5 y6 y7 y8 y9 y10 y11 y12 y13 y14 y15 y16 y17 y18 y19 y20 y21 y22 y23 y24) = f9e15 y0 y1 y2 y3 y4 y5 y6 y7 y8 := hide (by kernel_rfl)
theorem f9n16 {R : Type} (call : CallF R) (N : Nat) (J : KF R) (e : Env) (σ : St) : runK Try.prog call N f9c16 f9a16 J e σ = runK Try.prog call N f9c17 f9a17 (seqC (fun K e σ => runK Try.prog call N f9c18 f9a18 K e σ) f9a16 J) e σ := runK_seq' (by kernel_rfl) (by kernel_rfl) (by kernel_rfl)
theorem f9r17_f9e15 {R : Type} (call : CallF R) (N : Nat) (y0 : Option (Nat × Nat)) (y1 : Int) (y2 : Int) (y3 : Int) (y4 : Nat) (y5 : Int) (y6 : Int) (y7 : Nat) (y8 : Int) (J : KF R) (σ : St) :
    runK Try.prog call N f9c17 f9a17 J (f9e15 y0 y1 y2 y3 y4 y5 y6 y7 y8) σ =
if (y1 == (0 : Int)) = true then
  if (y2 == (0 : Int)) = true then
    if (y3 == (0 : Int)) = true then
      if (y5 == (0 : Int)) = true then
        if (y6 == (0 : Int)) = true then
          if (y8 == (0 : Int)) = true then
            Option.bind (St.ld σ y4 (3 : Nat)) fun v0 =>
              Option.bind (AV.toStr v0) fun v1 =>
                if decide (v1 = ByteArray.mk #[(98 : UInt8)]) = true then
                  Option.bind (St.ld σ y7 (3 : Nat)) fun v2 =>
                    Option.bind (AV.toStr v2) fun v3 =>
                      if decide (v3 = ByteArray.mk #[(97 : UInt8)]) = true then
                        call (13 : Nat) [AV.ptr y0] σ fun v4 v5 =>
                          Option.bind (AV.toInt IntKind.i64 v4) fun v6 =>
                            J Ex.normal
                              (f9e16 (v6 == (3 : Int)) y0 y1 y2 y3 y4 y5 y6 y7 y8 y1 (y1 == (0 : Int)) true y2 (y2 == (0 : Int)) (y2 == (0 : Int))
                                true y3 (y3 == (0 : Int)) (y3 == (0 : Int)) true y5 (y5 == (0 : Int)) (y5 == (0 : Int)) true y6 (y6 == (0 : Int))
                                (y6 == (0 : Int)) true y8 (y8 == (0 : Int)) (y8 == (0 : Int)) true y4 v1 (decide (v1 = ByteArray.mk #[(98 : UInt8)]))
                                (decide (v1 = ByteArray.mk #[(98 : UInt8)])) true y7 v3 (decide (v3 = ByteArray.mk #[(97 : UInt8)]))
                                (decide (v3 = ByteArray.mk #[(97 : UInt8)])) true y0 v6 (v6 == (3 : Int)) (v6 == (3 : Int)))
                              v5
                      else
                        J Ex.normal
                          (f9e17 false y0 y1 y2 y3 y4 y5 y6 y7 y8 y1 (y1 == (0 : Int)) true y2 (y2 == (0 : Int)) (y2 == (0 : Int)) true y3
                            (y3 == (0 : Int)) (y3 == (0 : Int)) true y5 (y5 == (0 : Int)) (y5 == (0 : Int)) true y6 (y6 == (0 : Int))
                            (y6 == (0 : Int)) true y8 (y8 == (0 : Int)) (y8 == (0 : Int)) true y4 v1 (decide (v1 = ByteArray.mk #[(98 : UInt8)]))
                            (decide (v1 = ByteArray.mk #[(98 : UInt8)])) true y7 v3 (decide (v3 = ByteArray.mk #[(97 : UInt8)]))
                            (decide (v3 = ByteArray.mk #[(97 : UInt8)])) false false)
                          σ
                else
                  J Ex.normal
                    (f9e18 false y0 y1 y2 y3 y4 y5 y6 y7 y8 y1 (y1 == (0 : Int)) true y2 (y2 == (0 : Int)) (y2 == (0 : Int)) true y3 (y3 == (0 : Int))
                      (y3 == (0 : Int)) true y5 (y5 == (0 : Int)) (y5 == (0 : Int)) true y6 (y6 == (0 : Int)) (y6 == (0 : Int)) true y8
                      (y8 == (0 : Int)) (y8 == (0 : Int)) true y4 v1 (decide (v1 = ByteArray.mk #[(98 : UInt8)]))
                      (decide (v1 = ByteArray.mk #[(98 : UInt8)])) false false false false)
                    σ
          else
            J Ex.normal
              (f9e19 false y0 y1 y2 y3 y4 y5 y6 y7 y8 y1 (y1 == (0 : Int)) true y2 (y2 == (0 : Int)) (y2 == (0 : Int)) true y3 (y3 == (0 : Int))
                (y3 == (0 : Int)) true y5 (y5 == (0 : Int)) (y5 == (0 : Int)) true y6 (y6 == (0 : Int)) (y6 == (0 : Int)) true y8 (y8 == (0 : Int))
                (y8 == (0 : Int)) false false false false false false)
              σ
        else
          J Ex.normal
            (f9e20 false y0 y1 y2 y3 y4 y5 y6 y7 y8 y1 (y1 == (0 : Int)) true y2 (y2 == (0 : Int)) (y2 == (0 : Int)) true y3 (y3 == (0 : Int))
              (y3 == (0 : Int)) true y5 (y5 == (0 : Int)) (y5 == (0 : Int)) true y6 (y6 == (0 : Int)) (y6 == (0 : Int)) false false false false false
              false false false)
            σ
      else
        J Ex.normal
          (f9e21 false y0 y1 y2 y3 y4 y5 y6 y7 y8 y1 (y1 == (0 : Int)) true y2 (y2 == (0 : Int)) (y2 == (0 : Int)) true y3 (y3 == (0 : Int))
            (y3 == (0 : Int)) true y5 (y5 == (0 : Int)) (y5 == (0 : Int)) false false false false false false false false false false)
          σ
    else
      J Ex.normal
        (f9e22 false y0 y1 y2 y3 y4 y5 y6 y7 y8 y1 (y1 == (0 : Int)) true y2 (y2 == (0 : Int)) (y2 == (0 : Int)) true y3 (y3 == (0 : Int))
          (y3 == (0 : Int)) false false false false false false false false false false false false)
        σ
  else
    J Ex.normal
      (f9e23 false y0 y1 y2 y3 y4 y5 y6 y7 y8 y1 (y1 == (0 : Int)) true y2 (y2 == (0 : Int)) (y2 == (0 : Int)) false false false false false false
        false false false false false false false false)
      σ
else
  J Ex.normal
    (f9e24 false y0 y1 y2 y3 y4 y5 y6 y7 y8 y1 (y1 == (0 : Int)) false false false false false false false false false false false false false false
      false false)
    σ := hide (by kernel_rfl)
theorem f9z16_f9e16 (y0 : Bool) (y1 : Option (Nat × Nat)) (y2 : Int) (y3 : Int) (y4 : Int) (y5 : Nat) (y6 : Int) (y7 : Int) (y8 : Nat) (y9 : Int) (y10 : Int) (y11 : Bool) (y12 : Bool) (y13 : Int) (y14 : Bool) (y15 : Bool) (y16 : Bool) (y17 : Int) (y18 : Bool) (y19 : Bool) (y20 : Bool) (y21 : Int) (y22 : Bool) (y23 : Bool) (y24 : Bool) (y25 : Int) (y26 : Bool) (y27 : Bool) (y28 : Bool) (y29 : Int) (y30 : Bool) (y31 : Bool) (y32 : Bool) (y33 : Nat) (y34 : ByteArray) (y35 : Bool) (y36 : Bool) (y37 : Bool) (y38 : Nat) (y39 : ByteArray) (y40 : Bool) (y41 : Bool) (y42 : Bool) (y43 : Option (Nat × Nat)) (y44 : Int) (y45 : Bool) (y46 : Bool) : Ann.clr f9a16 (f9e16 y0 y1 y2 y3 y4 y5 y6 y7 y8 y9 y10 y11 y12 y13 y14 y15 y16 y17 y18 y19 y20 y21 y22 y23 y24 y25 y26 y27 y28 y29 y30 y31 y32 y33 y34 y35 y36 y37
  y38 y39 y40 y41 y42 y43 y44 y45 y46) = f9e1 y0 := hide (by kernel_rfl)
theorem f9y18_f9e1 {R : Type} (call : CallF R) (N : Nat) (y0 : Bool) (J : KF R) (σ : St) : runK Try.prog call N f9c18 f9a18 J (f9e1 y0) σ = J .ret (f9e1 y0) σ := runK_ret' (by kernel_rfl) (by kernel_rfl)
theorem f9z16_f9e17 (y0 : Bool) (y1 : Option (Nat × Nat)) (y2 : Int) (y3 : Int) (y4 : Int) (y5 : Nat) (y6 : Int) (y7 : Int) (y8 : Nat) (y9 : Int) (y10 : Int) (y11 : Bool) (y12 : Bool) (y13 : Int) (y14 : Bool) (y15 : Bool) (y16 : Bool) (y17 : Int) (y18 : Bool) (y19 : Bool) (y20 : Bool) (y21 : Int) (y22 : Bool) (y23 : Bool) (y24 : Bool) (y25 : Int) (y26 : Bool) (y27 : Bool) (y28 : Bool) (y29 : Int) (y30 : Bool) (y31 : Bool) (y32 : Bool) (y33 : Nat) (y34 : ByteArray) (y35 : Bool) (y36 : Bool) (y37 : Bool) (y38 : Nat) (y39 : ByteArray) (y40 : Bool) (y41 : Bool) (y42 : Bool) (y43 : Bool) : Ann.clr f9a16 (f9e17 y0 y1 y2 y3 y4 y5 y6 y7 y8 y9 y10 y11 y12 y13 y14 y15 y16 y17 y18 y19 y20 y21 y22 y23 y24 y25 y26 y27 y28 y29 y30 y31 y32 y33 y34 y35 y36 y37
  y38 y39 y40 y41 y42 y43) = f9e1 y0 := hide (by kernel_rfl)
theorem f9z16_f9e18 (y0 : Bool) (y1 : Option (Nat × Nat)) (y2 : Int) (y3 : Int) (y4 : Int) (y5 : Nat) (y6 : Int) (y7 : Int) (y8 : Nat) (y9 : Int) (y10 : Int) (y11 : Bool) (y12 : Bool) (y13 : Int) (y14 : Bool) (y15 : Bool) (y16 : Bool) (y17 : Int) (y18 : Bool) (y19 : Bool) (y20 : Bool) (y21 : Int) (y22 : Bool) (y23 : Bool) (y24 : Bool) (y25 : Int) (y26 : Bool) (y27 : Bool) (y28 : Bool) (y29 : Int) (y30 : Bool) (y31 : Bool) (y32 : Bool) (y33 : Nat) (y34 : ByteArray) (y35 : Bool) (y36 : Bool) (y37 : Bool) (y38 : Bool) (y39 : Bool) (y40 : Bool) : Ann.clr f9a16 (f9e18 y0 y1 y2 y3 y4 y5 y6 y7 y8 y9 y10 y11 y12 y13 y14 y15 y16 y17 y18 y19 y20 y21 y22 y23 y24 y25 y26 y27 y28 y29 y30 y31 y32 y33 y34 y35 y36 y37
  y38 y39 y40) = f9e1 y0 := hide (by kernel_rfl)
theorem f9z16_f9e19 (y0 : Bool) (y1 : Option (Nat × Nat)) (y2 : Int) (y3 : Int) (y4 : Int) (y5 : Nat) (y6 : Int) (y7 : Int) (y8 : Nat) (y9 : Int) (y10 : Int) (y11 : Bool) (y12 : Bool) (y13 : Int) (y14 : Bool) (y15 : Bool) (y16 : Bool) (y17 : Int) (y18 : Bool) (y19 : Bool) (y20 : Bool) (y21 : Int) (y22 : Bool) (y23 : Bool) (y24 : Bool) (y25 : Int) (y26 : Bool) (y27 : Bool) (y28 : Bool) (y29 : Int) (y30 : Bool) (y31 : Bool) (y32 : Bool) (y33 : Bool) (y34 : Bool) (y35 : Bool) (y36 : Bool) (y37 : Bool) : Ann.clr f9a16 (f9e19 y0 y1 y2 y3 y4 y5 y6 y7 y8 y9 y10 y11 y12 y13 y14 y15 y16 y17 y18 y19 y20 y21 y22 y23 y24 y25 y26 y27 y28 y29 y30 y31 y32 y33 y34 y35 y36 y37) = f9e1 y0 := hide (by kernel_rfl)
theorem f9z16_f9e20 (y0 : Bool) (y1 : Option (Nat × Nat)) (y2 : Int) (y3 : Int) (y4 : Int) (y5 : Nat) (y6 : Int) (y7 : Int) (y8 : Nat) (y9 : Int) (y10 : Int) (y11 : Bool) (y12 : Bool) (y13 : Int) (y14 : Bool) (y15 : Bool) (y16 : Bool) (y17 : Int) (y18 : Bool) (y19 : Bool) (y20 : Bool) (y21 : Int) (y22 : Bool) (y23 : Bool) (y24 : Bool) (y25 : Int) (y26 : Bool) (y27 : Bool) (y28 : Bool) (y29 : Bool) (y30 : Bool) (y31 : Bool) (y32 : Bool) (y33 : Bool) (y34 : Bool) (y35 : Bool) : Ann.clr f9a16 (f9e20 y0 y1 y2 y3 y4 y5 y6 y7 y8 y9 y10 y11 y12 y13 y14 y15 y16 y17 y18 y19 y20 y21 y22 y23 y24 y25 y26 y27 y28 y29 y30 y31 y32 y33 y34 y35) = f9e1 y0 := hide (by kernel_rfl)
theorem f9z16_f9e21 (y0 : Bool) (y1 : Option (Nat × Nat)) (y2 : Int) (y3 : Int) (y4 : Int) (y5 : Nat) (y6 : Int) (y7 : Int) (y8 : Nat) (y9 : Int) (y10 : Int) (y11 : Bool) (y12 : Bool) (y13 : Int) (y14 : Bool) (y15 : Bool) (y16 : Bool) (y17 : Int) (y18 : Bool) (y19 : Bool) (y20 : Bool) (y21 : Int) (y22 : Bool) (y23 : Bool) (y24 : Bool) (y25 : Bool) (y26 : Bool) (y27 : Bool) (y28 : Bool) (y29 : Bool) (y30 : Bool) (y31 : Bool) (y32 : Bool) (y33 : Bool) : Ann.clr f9a16 (f9e21 y0 y1 y2 y3 y4 y5 y6 y7 y8 y9 y10 y11 y12 y13 y14 y15 y16 y17 y18 y19 y20 y21 y22 y23 y24 y25 y26 y27 y28 y29 y30 y31 y32 y33) = f9e1 y0 := hide (by kernel_rfl)
theorem f9z16_f9e22 (y0 : Bool) (y1 : Option (Nat × Nat)) (y2 : Int) (y3 : Int) (y4 : Int) (y5 : Nat) (y6 : Int) (y7 : Int) (y8 : Nat) (y9 : Int) (y10 : Int) (y11 : Bool) (y12 : Bool) (y13 : Int) (y14 : Bool) (y15 : Bool) (y16 : Bool) (y17 : Int) (y18 : Bool) (y19 : Bool) (y20 : Bool) (y21 : Bool) (y22 : Bool) (y23 : Bool) (y24 : Bool) (y25 : Bool) (y26 : Bool) (y27 : Bool) (y28 : Bool) (y29 : Bool) (y30 : Bool) (y31 : Bool) : Ann.clr f9a16 (f9e22 y0 y1 y2 y3 y4 y5 y6 y7 y8 y9 y10 y11 y12 y13 y14 y15 y16 y17 y18 y19 y20 y21 y22 y23 y24 y25 y26 y27 y28 y29 y30 y31) = f9e1 y0 := hide (by kernel_rfl)
theorem f9z16_f9e23 (y0 : Bool) (y1 : Option (Nat × Nat)) (y2 : Int) (y3 : Int) (y4 : Int) (y5 : Nat) (y6 : Int) (y7 : Int) (y8 : Nat) (y9 : Int) (y10 : Int) (y11 : Bool) (y12 : Bool) (y13 : Int) (y14 : Bool) (y15 : Bool) (y16 : Bool) (y17 : Bool) (y18 : Bool) (y19 : Bool) (y20 : Bool) (y21 : Bool) (y22 : Bool) (y23 : Bool) (y24 : Bool) (y25 : Bool) (y26 : Bool) (y27 : Bool) (y28 : Bool) (y29 : Bool) : Ann.clr f9a16 (f9e23 y0 y1 y2 y3 y4 y5 y6 y7 y8 y9 y10 y11 y12 y13 y14 y15 y16 y17 y18 y19 y20 y21 y22 y23 y24 y25 y26 y27 y28 y29) = f9e1 y0 := hide (by kernel_rfl)
theorem f9z16_f9e24 (y0 : Bool) (y1 : Option (Nat × Nat)) (y2 : Int) (y3 : Int) (y4 : Int) (y5 : Nat) (y6 : Int) (y7 : Int) (y8 : Nat) (y9 : Int) (y10 : Int) (y11 : Bool) (y12 : Bool) (y13 : Bool) (y14 : Bool) (y15 : Bool) (y16 : Bool) (y17 : Bool) (y18 : Bool) (y19 : Bool) (y20 : Bool) (y21 : Bool) (y22 : Bool) (y23 : Bool) (y24 : Bool) (y25 : Bool) (y26 : Bool) (y27 : Bool) : Ann.clr f9a16 (f9e24 y0 y1 y2 y3 y4 y5 y6 y7 y8 y9 y10 y11 y12 y13 y14 y15 y16 y17 y18 y19 y20 y21 y22 y23 y24 y25 y26 y27) = f9e1 y0 := hide (by kernel_rfl)
theorem f9b_f9e1_r {R : Type} (y0 : Bool) (σ : St) (K : AV → St → Option R) : bodyC Try.prog f9rs K (Ex.ret) (f9e1 y0) σ =
K (AV.bool y0) σ := hide (by kernel_rfl)
attribute [go_sem] f9_eq f9n0 f9r1_f9e0 f9z0_f9e1 f9n2 f9r3_f9e0 f9z2_f9e2 f9n4 f9r5_f9e3 f9z4_f9e4 f9n6 f9r7_f9e5 f9z6_f9e6 f9n8 f9r9_f9e7 f9z8_f9e8 f9n10 f9r11_f9e9 f9z10_f9e10 f9n12 f9r13_f9e11 f9z12_f9e12 f9n14 f9r15_f9e13 f9z14_f9e14 f9n16 f9r17_f9e15 f9z16_f9e16 f9y18_f9e1 f9z16_f9e17 f9z16_f9e18 f9z16_f9e19 f9z16_f9e20 f9z16_f9e21 f9z16_f9e22 f9z16_f9e23 f9z16_f9e24 f9b_f9e1_r

end Go.Proofs.Ytdebkakkeaanaaa
