/- What the machine does with each piece of code, in plain text. PRINTED by a program of this workplace; Lean checks it. -/
import Derived.Test.YtdebkakkeaanaaaBagAnn
import Derived.Test.YtdebkakkeaanaaaProg
import Derived.KernelRfl
import Derived.Attr
namespace Go.Proofs.Ytdebkakkeaanaaa
open Go.AM
set_option maxRecDepth 100000
set_option linter.unusedVariables false
noncomputable def f17rs : List ResultVar := [ResultVar.tmp (6 : Nat)]
noncomputable def f17c0 : Code := subCode [] (bodyOf Try.prog 17)
def f17a0 : Ann := subAnn [] ann17
noncomputable def f17c1 : Code := subCode [0] (bodyOf Try.prog 17)
def f17a1 : Ann := subAnn [0] ann17
noncomputable def f17c2 : Code := subCode [1] (bodyOf Try.prog 17)
def f17a2 : Ann := subAnn [1] ann17
noncomputable def f17c3 : Code := subCode [1, 0] (bodyOf Try.prog 17)
def f17a3 : Ann := subAnn [1, 0] ann17
noncomputable def f17c4 : Code := subCode [1, 1] (bodyOf Try.prog 17)
def f17a4 : Ann := subAnn [1, 1] ann17
noncomputable def f17c5 : Code := subCode [1, 0, 0] (bodyOf Try.prog 17)
def f17a5 : Ann := subAnn [1, 0, 0] ann17
noncomputable def f17c6 : Code := subCode [1, 0, 1] (bodyOf Try.prog 17)
def f17a6 : Ann := subAnn [1, 0, 1] ann17
noncomputable def f17c7 : Code := subCode [1, 0, 1, 0] (bodyOf Try.prog 17)
def f17a7 : Ann := subAnn [1, 0, 1, 0] ann17
noncomputable def f17c8 : Code := subCode [1, 0, 1, 0, 0] (bodyOf Try.prog 17)
def f17a8 : Ann := subAnn [1, 0, 1, 0, 0] ann17
noncomputable def f17c9 : Code := subCode [1, 0, 1, 0, 1] (bodyOf Try.prog 17)
def f17a9 : Ann := subAnn [1, 0, 1, 0, 1] ann17
noncomputable def f17c10 : Code := subCode [1, 0, 1, 0, 0, 0] (bodyOf Try.prog 17)
def f17a10 : Ann := subAnn [1, 0, 1, 0, 0, 0] ann17
noncomputable def f17c11 : Code := subCode [1, 0, 1, 0, 0, 1] (bodyOf Try.prog 17)
def f17a11 : Ann := subAnn [1, 0, 1, 0, 0, 1] ann17
noncomputable def f17c12 : Code := subCode [1, 0, 1, 0, 0, 1, 0] (bodyOf Try.prog 17)
def f17a12 : Ann := subAnn [1, 0, 1, 0, 0, 1, 0] ann17
noncomputable def f17c13 : Code := subCode [1, 0, 1, 0, 0, 1, 1] (bodyOf Try.prog 17)
def f17a13 : Ann := subAnn [1, 0, 1, 0, 0, 1, 1] ann17
noncomputable def f17c14 : Code := subCode [1, 0, 1, 0, 1, 0] (bodyOf Try.prog 17)
def f17a14 : Ann := subAnn [1, 0, 1, 0, 1, 0] ann17
noncomputable def f17c15 : Code := subCode [1, 0, 1, 0, 1, 1] (bodyOf Try.prog 17)
def f17a15 : Ann := subAnn [1, 0, 1, 0, 1, 1] ann17
noncomputable def f17c16 : Code := subCode [1, 0, 1, 0, 1, 0, 0] (bodyOf Try.prog 17)
def f17a16 : Ann := subAnn [1, 0, 1, 0, 1, 0, 0] ann17
noncomputable def f17c17 : Code := subCode [1, 0, 1, 0, 1, 0, 1] (bodyOf Try.prog 17)
def f17a17 : Ann := subAnn [1, 0, 1, 0, 1, 0, 1] ann17
noncomputable def f17c18 : Code := subCode [1, 0, 1, 0, 1, 1, 0] (bodyOf Try.prog 17)
def f17a18 : Ann := subAnn [1, 0, 1, 0, 1, 1, 0] ann17
noncomputable def f17c19 : Code := subCode [1, 0, 1, 0, 1, 1, 1] (bodyOf Try.prog 17)
def f17a19 : Ann := subAnn [1, 0, 1, 0, 1, 1, 1] ann17
noncomputable def f17c20 : Code := subCode [1, 0, 1, 0, 1, 1, 1, 0] (bodyOf Try.prog 17)
def f17a20 : Ann := subAnn [1, 0, 1, 0, 1, 1, 1, 0] ann17
noncomputable def f17c21 : Code := subCode [1, 0, 1, 0, 1, 1, 1, 1] (bodyOf Try.prog 17)
def f17a21 : Ann := subAnn [1, 0, 1, 0, 1, 1, 1, 1] ann17
noncomputable def f17c22 : Code := subCode [1, 0, 1, 0, 1, 1, 1, 0, 0] (bodyOf Try.prog 17)
def f17a22 : Ann := subAnn [1, 0, 1, 0, 1, 1, 1, 0, 0] ann17
noncomputable def f17c23 : Code := subCode [1, 0, 1, 0, 1, 1, 1, 0, 1] (bodyOf Try.prog 17)
def f17a23 : Ann := subAnn [1, 0, 1, 0, 1, 1, 1, 0, 1] ann17
noncomputable def f17c24 : Code := subCode [1, 0, 1, 0, 1, 1, 1, 0, 1, 0] (bodyOf Try.prog 17)
def f17a24 : Ann := subAnn [1, 0, 1, 0, 1, 1, 1, 0, 1, 0] ann17
noncomputable def f17c25 : Code := subCode [1, 0, 1, 0, 1, 1, 1, 0, 1, 1] (bodyOf Try.prog 17)
def f17a25 : Ann := subAnn [1, 0, 1, 0, 1, 1, 1, 0, 1, 1] ann17
noncomputable def f17c26 : Code := subCode [1, 0, 1, 0, 1, 1, 1, 0, 1, 1, 0] (bodyOf Try.prog 17)
def f17a26 : Ann := subAnn [1, 0, 1, 0, 1, 1, 1, 0, 1, 1, 0] ann17
noncomputable def f17c27 : Code := subCode [1, 0, 1, 0, 1, 1, 1, 0, 1, 1, 1] (bodyOf Try.prog 17)
def f17a27 : Ann := subAnn [1, 0, 1, 0, 1, 1, 1, 0, 1, 1, 1] ann17
noncomputable def f17c28 : Code := subCode [1, 0, 1, 0, 1, 1, 1, 1, 0] (bodyOf Try.prog 17)
def f17a28 : Ann := subAnn [1, 0, 1, 0, 1, 1, 1, 1, 0] ann17
noncomputable def f17c29 : Code := subCode [1, 0, 1, 0, 1, 1, 1, 1, 1] (bodyOf Try.prog 17)
def f17a29 : Ann := subAnn [1, 0, 1, 0, 1, 1, 1, 1, 1] ann17
noncomputable def f17c30 : Code := subCode [1, 0, 1, 0, 1, 1, 1, 1, 1, 0] (bodyOf Try.prog 17)
def f17a30 : Ann := subAnn [1, 0, 1, 0, 1, 1, 1, 1, 1, 0] ann17
noncomputable def f17c31 : Code := subCode [1, 0, 1, 0, 1, 1, 1, 1, 1, 1] (bodyOf Try.prog 17)
def f17a31 : Ann := subAnn [1, 0, 1, 0, 1, 1, 1, 1, 1, 1] ann17
noncomputable def f17c32 : Code := subCode [1, 0, 1, 0, 1, 1, 1, 1, 1, 0, 0] (bodyOf Try.prog 17)
def f17a32 : Ann := subAnn [1, 0, 1, 0, 1, 1, 1, 1, 1, 0, 0] ann17
noncomputable def f17c33 : Code := subCode [1, 0, 1, 0, 1, 1, 1, 1, 1, 0, 1] (bodyOf Try.prog 17)
def f17a33 : Ann := subAnn [1, 0, 1, 0, 1, 1, 1, 1, 1, 0, 1] ann17
noncomputable def f17c34 : Code := subCode [1, 0, 1, 0, 1, 1, 1, 1, 1, 0, 1, 0] (bodyOf Try.prog 17)
def f17a34 : Ann := subAnn [1, 0, 1, 0, 1, 1, 1, 1, 1, 0, 1, 0] ann17
noncomputable def f17c35 : Code := subCode [1, 0, 1, 0, 1, 1, 1, 1, 1, 0, 1, 1] (bodyOf Try.prog 17)
def f17a35 : Ann := subAnn [1, 0, 1, 0, 1, 1, 1, 1, 1, 0, 1, 1] ann17
noncomputable def f17c36 : Code := subCode [1, 0, 1, 0, 1, 1, 1, 1, 1, 0, 1, 0, 0] (bodyOf Try.prog 17)
def f17a36 : Ann := subAnn [1, 0, 1, 0, 1, 1, 1, 1, 1, 0, 1, 0, 0] ann17
noncomputable def f17c37 : Code := subCode [1, 0, 1, 0, 1, 1, 1, 1, 1, 0, 1, 0, 1] (bodyOf Try.prog 17)
def f17a37 : Ann := subAnn [1, 0, 1, 0, 1, 1, 1, 1, 1, 0, 1, 0, 1] ann17
noncomputable def f17c38 : Code := subCode [1, 0, 1, 0, 1, 1, 1, 1, 1, 0, 1, 0, 1, 0] (bodyOf Try.prog 17)
def f17a38 : Ann := subAnn [1, 0, 1, 0, 1, 1, 1, 1, 1, 0, 1, 0, 1, 0] ann17
noncomputable def f17c39 : Code := subCode [1, 0, 1, 0, 1, 1, 1, 1, 1, 0, 1, 0, 1, 1] (bodyOf Try.prog 17)
def f17a39 : Ann := subAnn [1, 0, 1, 0, 1, 1, 1, 1, 1, 0, 1, 0, 1, 1] ann17
noncomputable def f17c40 : Code := subCode [1, 0, 1, 0, 1, 1, 1, 1, 1, 0, 1, 1, 0] (bodyOf Try.prog 17)
def f17a40 : Ann := subAnn [1, 0, 1, 0, 1, 1, 1, 1, 1, 0, 1, 1, 0] ann17
noncomputable def f17c41 : Code := subCode [1, 0, 1, 0, 1, 1, 1, 1, 1, 0, 1, 1, 1] (bodyOf Try.prog 17)
def f17a41 : Ann := subAnn [1, 0, 1, 0, 1, 1, 1, 1, 1, 0, 1, 1, 1] ann17
noncomputable def f17c42 : Code := subCode [1, 1, 0] (bodyOf Try.prog 17)
def f17a42 : Ann := subAnn [1, 1, 0] ann17
noncomputable def f17c43 : Code := subCode [1, 1, 1] (bodyOf Try.prog 17)
def f17a43 : Ann := subAnn [1, 1, 1] ann17
def f17e0 (y0 : Option (Nat × Nat)) (y1 : Option (Nat × Nat)) (y2 : Int) (y3 : Int) (y4 : Int) (y5 : Int) (y6 : Int) (y7 : ByteArray) : Env := AV.ptr y0 :: AV.ptr y1 :: AV.agg [AV.int IntKind.i64 y2, AV.int IntKind.i64 y3, AV.int IntKind.i64 y4, AV.int IntKind.i64 y5, AV.int IntKind.i64 y6, AV.str y7] :: Env.sp 70 []
def f17e1 (y0 : Option (Nat × Nat)) (y1 : Option (Nat × Nat)) (y2 : Int) (y3 : Int) (y4 : Int) (y5 : Int) (y6 : Int) (y7 : ByteArray) (y8 : Nat) (y9 : Bool) : Env := AV.ptr y0 :: AV.ptr y1 :: AV.agg [AV.int IntKind.i64 y2, AV.int IntKind.i64 y3, AV.int IntKind.i64 y4, AV.int IntKind.i64 y5, AV.int IntKind.i64 y6, AV.str y7] :: Env.sp 2 (AV.ptr (some (y8, (0 : Nat))) :: AV.bool y9 :: Env.sp 66 [])
def f17e2 (y0 : Option (Nat × Nat)) (y1 : Option (Nat × Nat)) (y2 : Nat) : Env := AV.ptr y0 :: AV.ptr y1 :: Env.sp 3 (AV.ptr (some (y2, (0 : Nat))) :: Env.sp 67 [])
def f17e3 (y0 : Option (Nat × Nat)) (y1 : Option (Nat × Nat)) (y2 : Nat) (y3 : Nat) (y4 : Int) : Env := AV.ptr y0 :: AV.ptr y1 :: Env.sp 3 (AV.ptr (some (y2, (0 : Nat))) :: Env.sp 7 (AV.ptr (some (y3, (0 : Nat))) :: AV.int IntKind.i64 y4 :: Env.sp 58 []))
def f17e4 (y0 : Option (Nat × Nat)) (y1 : Option (Nat × Nat)) (y2 : Nat) (y3 : Int) : Env := AV.ptr y0 :: AV.ptr y1 :: Env.sp 3 (AV.ptr (some (y2, (0 : Nat))) :: Env.sp 8 (AV.int IntKind.i64 y3 :: Env.sp 58 []))
def f17e5 (y0 : Option (Nat × Nat)) (y1 : Option (Nat × Nat)) (y2 : Nat) (y3 : Int) (y4 : Bool) (y5 : Bool) : Env := AV.ptr y0 :: AV.ptr y1 :: Env.sp 3 (AV.ptr (some (y2, (0 : Nat))) :: Env.sp 8 (AV.int IntKind.i64 y3 :: AV.bool y4 :: AV.bool y5 :: Env.sp 56 []))
def f17e6 (y0 : Option (Nat × Nat)) (y1 : Option (Nat × Nat)) (y2 : Nat) (y3 : Int) (y4 : Bool) : Env := AV.ptr y0 :: AV.ptr y1 :: Env.sp 3 (AV.ptr (some (y2, (0 : Nat))) :: Env.sp 8 (AV.int IntKind.i64 y3 :: AV.bool y4 :: Env.sp 57 []))
def f17e7 (y0 : Option (Nat × Nat)) (y1 : Option (Nat × Nat)) (y2 : Nat) (y3 : Int) (y4 : Bool) (y5 : Bool) : Env := AV.ptr y0 :: AV.ptr y1 :: Env.sp 3 (AV.ptr (some (y2, (0 : Nat))) :: Env.sp 8 (AV.int IntKind.i64 y3 :: AV.bool y4 :: Env.sp 1 (AV.bool y5 :: Env.sp 55 [])))
def f17e8 (y0 : Option (Nat × Nat)) (y1 : Option (Nat × Nat)) (y2 : Nat) (y3 : Bool) (y4 : Int) (y5 : Bool) (y6 : Option (Nat × Nat)) (y7 : Nat) (y8 : Int) (y9 : Int) (y10 : Int) (y11 : ByteArray) (y12 : Int) (y13 : Option (Nat × Nat)) (y14 : Nat) (y15 : Int) (y16 : Int) (y17 : Int) (y18 : ByteArray) (y19 : Int) (y20 : Int) (y21 : Int) (y22 : ByteArray) (y23 : Int) (y24 : Bool) : Env := AV.ptr y0 :: AV.ptr y1 :: Env.sp 3 (AV.ptr (some (y2, (0 : Nat))) :: AV.bool y3 :: Env.sp 7 (AV.int IntKind.i64 y4 :: AV.bool y5 :: Env.sp 2 (AV.ptr y6 :: AV.ptr (some (y7, (2 : Nat))) :: AV.agg [AV.int IntKind.i64 y8, AV.int IntKind.i64 y9, AV.int IntKind.i64 y10, AV.str y11] :: AV.int IntKind.i64 y12 :: AV.ptr y13 :: AV.ptr (some (y14, (2 : Nat))) :: AV.agg [AV.int IntKind.i64 y15, AV.int IntKind.i64 y16, AV.int IntKind.i64 y17, AV.str y18] :: AV.agg [AV.int IntKind.i64 y19, AV.int IntKind.i64 y20, AV.int IntKind.i64 y21, AV.str y22] :: AV.int IntKind.i64 y23 :: AV.bool y24 :: Env.sp 45 [])))
def f17e9 (y0 : Bool) : Env := Env.sp 6 (AV.bool y0 :: Env.sp 66 [])
def f17e10 (y0 : Option (Nat × Nat)) (y1 : Option (Nat × Nat)) (y2 : Nat) (y3 : Int) (y4 : Bool) (y5 : Bool) (y6 : Bool) : Env := AV.ptr y0 :: AV.ptr y1 :: Env.sp 3 (AV.ptr (some (y2, (0 : Nat))) :: Env.sp 8 (AV.int IntKind.i64 y3 :: AV.bool y4 :: Env.sp 12 (AV.bool y5 :: AV.bool y6 :: Env.sp 43 [])))
def f17e11 (y0 : Option (Nat × Nat)) (y1 : Option (Nat × Nat)) (y2 : Nat) (y3 : Int) (y4 : Bool) : Env := AV.ptr y0 :: AV.ptr y1 :: Env.sp 3 (AV.ptr (some (y2, (0 : Nat))) :: Env.sp 8 (AV.int IntKind.i64 y3 :: Env.sp 13 (AV.bool y4 :: Env.sp 44 [])))
def f17e12 (y0 : Option (Nat × Nat)) (y1 : Option (Nat × Nat)) (y2 : Nat) (y3 : Nat) (y4 : Int) (y5 : Int) (y6 : Bool) (y7 : Int) (y8 : Int) (y9 : Int) (y10 : ByteArray) (y11 : Int) (y12 : Option (Nat × Nat)) (y13 : Nat) (y14 : Int) (y15 : Int) (y16 : Int) (y17 : Int) (y18 : ByteArray) (y19 : Int) (y20 : Int) (y21 : Int) (y22 : Int) (y23 : ByteArray) (y24 : Int) : Env := AV.ptr y0 :: AV.ptr y1 :: Env.sp 3 (AV.ptr (some (y2, (0 : Nat))) :: Env.sp 1 (AV.ptr (some (y3, (0 : Nat))) :: AV.int IntKind.i64 y4 :: Env.sp 5 (AV.int IntKind.i64 y5 :: Env.sp 13 (AV.bool y6 :: Env.sp 1 (AV.tuple [AV.agg [AV.int IntKind.i64 y7, AV.int IntKind.i64 y8, AV.int IntKind.i64 y9, AV.str y10], AV.int IntKind.i64 y11] :: AV.ptr y12 :: AV.ptr (some (y13, (1 : Nat))) :: AV.int IntKind.i64 y14 :: AV.tuple [AV.agg [AV.int IntKind.i64 y15, AV.int IntKind.i64 y16, AV.int IntKind.i64 y17, AV.str y18], AV.int IntKind.i64 y19] :: AV.agg [AV.int IntKind.i64 y20, AV.int IntKind.i64 y21, AV.int IntKind.i64 y22, AV.str y23] :: AV.int IntKind.i64 y24 :: Env.sp 36 [])))))
def f17e13 (y0 : Option (Nat × Nat)) (y1 : Nat) (y2 : Nat) (y3 : Int) : Env := Env.sp 1 (AV.ptr y0 :: Env.sp 3 (AV.ptr (some (y1, (0 : Nat))) :: Env.sp 1 (AV.ptr (some (y2, (0 : Nat))) :: AV.int IntKind.i64 y3 :: Env.sp 64 [])))
def f17e14 (y0 : Option (Nat × Nat)) (y1 : Nat) (y2 : Nat) (y3 : Int) (y4 : Nat) (y5 : Int) (y6 : Int) (y7 : Int) (y8 : Int) (y9 : ByteArray) (y10 : Int) (y11 : Option (Nat × Nat)) (y12 : Nat) (y13 : Int) (y14 : Int) (y15 : Int) (y16 : Int) (y17 : ByteArray) (y18 : Int) (y19 : Int) (y20 : Int) (y21 : Int) (y22 : ByteArray) (y23 : Int) : Env := Env.sp 1 (AV.ptr y0 :: Env.sp 3 (AV.ptr (some (y1, (0 : Nat))) :: Env.sp 1 (AV.ptr (some (y2, (0 : Nat))) :: AV.int IntKind.i64 y3 :: AV.ptr (some (y4, (0 : Nat))) :: AV.int IntKind.i64 y5 :: Env.sp 26 (AV.tuple [AV.agg [AV.int IntKind.i64 y6, AV.int IntKind.i64 y7, AV.int IntKind.i64 y8, AV.str y9], AV.int IntKind.i64 y10] :: AV.ptr y11 :: AV.ptr (some (y12, (1 : Nat))) :: AV.int IntKind.i64 y13 :: AV.tuple [AV.agg [AV.int IntKind.i64 y14, AV.int IntKind.i64 y15, AV.int IntKind.i64 y16, AV.str y17], AV.int IntKind.i64 y18] :: AV.agg [AV.int IntKind.i64 y19, AV.int IntKind.i64 y20, AV.int IntKind.i64 y21, AV.str y22] :: AV.int IntKind.i64 y23 :: Env.sp 29 []))))
def f17e15 (y0 : Nat) (y1 : Int) (y2 : Nat) (y3 : Int) : Env := Env.sp 7 (AV.ptr (some (y0, (0 : Nat))) :: AV.int IntKind.i64 y1 :: AV.ptr (some (y2, (0 : Nat))) :: AV.int IntKind.i64 y3 :: Env.sp 62 [])
def f17e16 (y0 : Bool) (y1 : Nat) (y2 : Int) (y3 : Nat) (y4 : Int) (y5 : Int) (y6 : Int) (y7 : Int) (y8 : ByteArray) (y9 : Int) (y10 : Int) (y11 : Int) (y12 : ByteArray) (y13 : Int) (y14 : Int) (y15 : Int) (y16 : ByteArray) (y17 : Bool) (y18 : Bool) (y19 : Int) (y20 : Int) (y21 : Bool) (y22 : Bool) : Env := Env.sp 6 (AV.bool y0 :: AV.ptr (some (y1, (0 : Nat))) :: AV.int IntKind.i64 y2 :: AV.ptr (some (y3, (0 : Nat))) :: AV.int IntKind.i64 y4 :: Env.sp 33 (AV.agg [AV.int IntKind.i64 y5, AV.int IntKind.i64 y6, AV.int IntKind.i64 y7, AV.str y8] :: AV.agg [AV.int IntKind.i64 y9, AV.int IntKind.i64 y10, AV.int IntKind.i64 y11, AV.str y12] :: AV.agg [AV.int IntKind.i64 y13, AV.int IntKind.i64 y14, AV.int IntKind.i64 y15, AV.str y16] :: AV.bool y17 :: AV.bool y18 :: AV.int IntKind.i64 y19 :: AV.int IntKind.i64 y20 :: AV.bool y21 :: AV.bool y22 :: Env.sp 20 []))
def f17e17 (y0 : Bool) (y1 : Nat) (y2 : Int) (y3 : Nat) (y4 : Int) (y5 : Int) (y6 : Int) (y7 : Int) (y8 : ByteArray) (y9 : Int) (y10 : Int) (y11 : Int) (y12 : ByteArray) (y13 : Int) (y14 : Int) (y15 : Int) (y16 : ByteArray) (y17 : Bool) (y18 : Bool) (y19 : Bool) : Env := Env.sp 6 (AV.bool y0 :: AV.ptr (some (y1, (0 : Nat))) :: AV.int IntKind.i64 y2 :: AV.ptr (some (y3, (0 : Nat))) :: AV.int IntKind.i64 y4 :: Env.sp 33 (AV.agg [AV.int IntKind.i64 y5, AV.int IntKind.i64 y6, AV.int IntKind.i64 y7, AV.str y8] :: AV.agg [AV.int IntKind.i64 y9, AV.int IntKind.i64 y10, AV.int IntKind.i64 y11, AV.str y12] :: AV.agg [AV.int IntKind.i64 y13, AV.int IntKind.i64 y14, AV.int IntKind.i64 y15, AV.str y16] :: AV.bool y17 :: AV.bool y18 :: AV.tuple [] :: AV.tuple [] :: AV.tuple [] :: AV.bool y19 :: Env.sp 20 []))
def f17e18 (y0 : Option (Nat × Nat)) (y1 : Option (Nat × Nat)) (y2 : Nat) (y3 : Int) (y4 : Bool) (y5 : Bool) (y6 : Bool) : Env := AV.ptr y0 :: AV.ptr y1 :: Env.sp 3 (AV.ptr (some (y2, (0 : Nat))) :: Env.sp 8 (AV.int IntKind.i64 y3 :: Env.sp 13 (AV.bool y4 :: Env.sp 24 (AV.bool y5 :: AV.bool y6 :: Env.sp 18 []))))
def f17e19 (y0 : Option (Nat × Nat)) (y1 : Option (Nat × Nat)) (y2 : Nat) (y3 : Bool) : Env := AV.ptr y0 :: AV.ptr y1 :: Env.sp 3 (AV.ptr (some (y2, (0 : Nat))) :: Env.sp 47 (AV.bool y3 :: Env.sp 19 []))
def f17e20 (y0 : Option (Nat × Nat)) (y1 : Option (Nat × Nat)) (y2 : Nat) (y3 : Nat) (y4 : Int) (y5 : Bool) (y6 : Int) (y7 : Int) (y8 : Int) (y9 : ByteArray) (y10 : Int) (y11 : Option (Nat × Nat)) (y12 : Nat) (y13 : Int) (y14 : Int) (y15 : Int) (y16 : Int) (y17 : ByteArray) (y18 : Int) (y19 : Int) (y20 : Int) (y21 : Int) (y22 : ByteArray) (y23 : Int) : Env := AV.ptr y0 :: AV.ptr y1 :: Env.sp 3 (AV.ptr (some (y2, (0 : Nat))) :: Env.sp 5 (AV.ptr (some (y3, (0 : Nat))) :: AV.int IntKind.i64 y4 :: Env.sp 40 (AV.bool y5 :: Env.sp 1 (AV.tuple [AV.agg [AV.int IntKind.i64 y6, AV.int IntKind.i64 y7, AV.int IntKind.i64 y8, AV.str y9], AV.int IntKind.i64 y10] :: AV.ptr y11 :: AV.ptr (some (y12, (1 : Nat))) :: AV.int IntKind.i64 y13 :: AV.tuple [AV.agg [AV.int IntKind.i64 y14, AV.int IntKind.i64 y15, AV.int IntKind.i64 y16, AV.str y17], AV.int IntKind.i64 y18] :: AV.agg [AV.int IntKind.i64 y19, AV.int IntKind.i64 y20, AV.int IntKind.i64 y21, AV.str y22] :: AV.int IntKind.i64 y23 :: Env.sp 11 []))))
def f17e21 (y0 : Option (Nat × Nat)) (y1 : Option (Nat × Nat)) (y2 : Nat) (y3 : Nat) (y4 : Int) : Env := AV.ptr y0 :: AV.ptr y1 :: Env.sp 3 (AV.ptr (some (y2, (0 : Nat))) :: Env.sp 5 (AV.ptr (some (y3, (0 : Nat))) :: AV.int IntKind.i64 y4 :: Env.sp 60 []))
def f17e22 (y0 : Option (Nat × Nat)) (y1 : Option (Nat × Nat)) (y2 : Nat) (y3 : Nat) (y4 : Int) (y5 : Int) (y6 : Bool) : Env := AV.ptr y0 :: AV.ptr y1 :: Env.sp 3 (AV.ptr (some (y2, (0 : Nat))) :: Env.sp 5 (AV.ptr (some (y3, (0 : Nat))) :: AV.int IntKind.i64 y4 :: Env.sp 49 (AV.int IntKind.i64 y5 :: AV.bool y6 :: Env.sp 9 [])))
def f17e23 (y0 : Option (Nat × Nat)) (y1 : Option (Nat × Nat)) (y2 : Nat) (y3 : Nat) (y4 : Int) (y5 : Bool) : Env := AV.ptr y0 :: AV.ptr y1 :: Env.sp 3 (AV.ptr (some (y2, (0 : Nat))) :: Env.sp 5 (AV.ptr (some (y3, (0 : Nat))) :: AV.int IntKind.i64 y4 :: Env.sp 50 (AV.bool y5 :: Env.sp 9 [])))
def f17e24 (y0 : Option (Nat × Nat)) (y1 : Option (Nat × Nat)) (y2 : Nat) (y3 : Nat) (y4 : Int) (y5 : Bool) (y6 : Option (Nat × Nat)) (y7 : Int) (y8 : Int) (y9 : Int) (y10 : ByteArray) (y11 : Int) : Env := AV.ptr y0 :: AV.ptr y1 :: Env.sp 3 (AV.ptr (some (y2, (0 : Nat))) :: Env.sp 5 (AV.ptr (some (y3, (0 : Nat))) :: AV.int IntKind.i64 y4 :: Env.sp 50 (AV.bool y5 :: AV.ptr y6 :: AV.agg [AV.int IntKind.i64 y7, AV.int IntKind.i64 y8, AV.int IntKind.i64 y9, AV.str y10] :: AV.int IntKind.i64 y11 :: Env.sp 6 [])))
def f17e25 (y0 : Option (Nat × Nat)) (y1 : Nat) (y2 : Int) : Env := AV.ptr y0 :: Env.sp 4 (AV.ptr (some (y1, (0 : Nat))) :: Env.sp 6 (AV.int IntKind.i64 y2 :: Env.sp 60 []))
def f17e26 (y0 : Option (Nat × Nat)) (y1 : Nat) (y2 : Bool) (y3 : Int) (y4 : Option (Nat × Nat)) (y5 : Nat) (y6 : Int) (y7 : Int) (y8 : Int) (y9 : Bool) : Env := AV.ptr y0 :: Env.sp 4 (AV.ptr (some (y1, (0 : Nat))) :: AV.bool y2 :: Env.sp 5 (AV.int IntKind.i64 y3 :: Env.sp 54 (AV.ptr y4 :: AV.ptr (some (y5, (1 : Nat))) :: AV.int IntKind.i64 y6 :: AV.int IntKind.i64 y7 :: AV.int IntKind.i64 y8 :: AV.bool y9 :: [])))
def f17e27 : Env := Env.sp 73 []

/- function 17 -/
theorem f17_eq {R : Type} (call : CallF R) (N : Nat) (y0 : Option (Nat × Nat)) (y1 : Option (Nat × Nat)) (y2 : Int) (y3 : Int) (y4 : Int) (y5 : Int) (y6 : Int) (y7 : ByteArray) (σ : St) (K : AV → St → Option R) :
    bodyK Try.prog call N ann 17 [AV.ptr y0, AV.ptr y1,
  AV.agg [AV.int IntKind.i64 y2, AV.int IntKind.i64 y3, AV.int IntKind.i64 y4, AV.int IntKind.i64 y5, AV.int IntKind.i64 y6, AV.str y7]] σ K = runK Try.prog call N f17c0 f17a0 (bodyC Try.prog f17rs K) (f17e0 y0 y1 y2 y3 y4 y5 y6 y7) σ := bodyK_of (fn := ((Try.prog.funcs[17]?).get rfl)) (by kernel_rfl) (by kernel_rfl) (by kernel_rfl) (by kernel_rfl) (by kernel_rfl) (by kernel_rfl)
theorem f17n0 {R : Type} (call : CallF R) (N : Nat) (J : KF R) (e : Env) (σ : St) : runK Try.prog call N f17c0 f17a0 J e σ = runK Try.prog call N f17c1 f17a1 (seqC (fun K e σ => runK Try.prog call N f17c2 f17a2 K e σ) f17a0 J) e σ := runK_seq' (by kernel_rfl) (by kernel_rfl) (by kernel_rfl)
theorem f17r1_f17e0 {R : Type} (call : CallF R) (N : Nat) (y0 : Option (Nat × Nat)) (y1 : Option (Nat × Nat)) (y2 : Int) (y3 : Int) (y4 : Int) (y5 : Int) (y6 : Int) (y7 : ByteArray) (J : KF R) (σ : St) :
    runK Try.prog call N f17c1 f17a1 J (f17e0 y0 y1 y2 y3 y4 y5 y6 y7) σ =
J Ex.normal (f17e1 y0 y1 y2 y3 y4 y5 y6 y7 (St.next σ) false)
  (St.new σ
    (Blk.cells [AV.int IntKind.i64 y2, AV.int IntKind.i64 y3, AV.int IntKind.i64 y4, AV.int IntKind.i64 y5, AV.int IntKind.i64 y6, AV.str y7] true)) := hide (by kernel_rfl)
theorem f17z0_f17e1 (y0 : Option (Nat × Nat)) (y1 : Option (Nat × Nat)) (y2 : Int) (y3 : Int) (y4 : Int) (y5 : Int) (y6 : Int) (y7 : ByteArray) (y8 : Nat) (y9 : Bool) : Ann.clr f17a0 (f17e1 y0 y1 y2 y3 y4 y5 y6 y7 y8 y9) = f17e2 y0 y1 y8 := hide (by kernel_rfl)
theorem f17n2 {R : Type} (call : CallF R) (N : Nat) (J : KF R) (e : Env) (σ : St) : runK Try.prog call N f17c2 f17a2 J e σ = runK Try.prog call N f17c3 f17a3 (seqC (fun K e σ => runK Try.prog call N f17c4 f17a4 K e σ) f17a2 J) e σ := runK_seq' (by kernel_rfl) (by kernel_rfl) (by kernel_rfl)
theorem f17n3 {R : Type} (call : CallF R) (N : Nat) (J : KF R) (e : Env) (σ : St) : runK Try.prog call N f17c3 f17a3 J e σ = runK Try.prog call N f17c5 f17a5 (seqC (fun K e σ => runK Try.prog call N f17c6 f17a6 K e σ) f17a3 J) e σ := runK_seq' (by kernel_rfl) (by kernel_rfl) (by kernel_rfl)
theorem f17r5_f17e2 {R : Type} (call : CallF R) (N : Nat) (y0 : Option (Nat × Nat)) (y1 : Option (Nat × Nat)) (y2 : Nat) (J : KF R) (σ : St) :
    runK Try.prog call N f17c5 f17a5 J (f17e2 y0 y1 y2) σ =
Option.bind (St.ld σ y2 (0 : Nat)) fun v0 => Option.bind (AV.toInt IntKind.i64 v0) fun v1 => J Ex.normal (f17e3 y0 y1 y2 y2 v1) σ := hide (by kernel_rfl)
theorem f17z3_f17e3 (y0 : Option (Nat × Nat)) (y1 : Option (Nat × Nat)) (y2 : Nat) (y3 : Nat) (y4 : Int) : Ann.clr f17a3 (f17e3 y0 y1 y2 y3 y4) = f17e4 y0 y1 y2 y4 := hide (by kernel_rfl)
theorem f17n6 {R : Type} (call : CallF R) (N : Nat) (J : KF R) (e : Env) (σ : St) : runK Try.prog call N f17c6 f17a6 J e σ = runK Try.prog call N f17c7 f17a7 (blockC 0 f17a6 J) e σ := runK_block' (by kernel_rfl) (by kernel_rfl)
theorem f17n7 {R : Type} (call : CallF R) (N : Nat) (J : KF R) (e : Env) (σ : St) : runK Try.prog call N f17c7 f17a7 J e σ = runK Try.prog call N f17c8 f17a8 (seqC (fun K e σ => runK Try.prog call N f17c9 f17a9 K e σ) f17a7 J) e σ := runK_seq' (by kernel_rfl) (by kernel_rfl) (by kernel_rfl)
theorem f17n8 {R : Type} (call : CallF R) (N : Nat) (J : KF R) (e : Env) (σ : St) : runK Try.prog call N f17c8 f17a8 J e σ = runK Try.prog call N f17c10 f17a10 (seqC (fun K e σ => runK Try.prog call N f17c11 f17a11 K e σ) f17a8 J) e σ := runK_seq' (by kernel_rfl) (by kernel_rfl) (by kernel_rfl)
theorem f17r10_f17e4 {R : Type} (call : CallF R) (N : Nat) (y0 : Option (Nat × Nat)) (y1 : Option (Nat × Nat)) (y2 : Nat) (y3 : Int) (J : KF R) (σ : St) :
    runK Try.prog call N f17c10 f17a10 J (f17e4 y0 y1 y2 y3) σ =
J Ex.normal (f17e5 y0 y1 y2 y3 (y3 == (0 : Int)) (y3 == (0 : Int))) σ := hide (by kernel_rfl)
theorem f17z8_f17e5 (y0 : Option (Nat × Nat)) (y1 : Option (Nat × Nat)) (y2 : Nat) (y3 : Int) (y4 : Bool) (y5 : Bool) : Ann.clr f17a8 (f17e5 y0 y1 y2 y3 y4 y5) = f17e6 y0 y1 y2 y3 y4 := hide (by kernel_rfl)
theorem f17x11_f17e6 {R : Type} (call : CallF R) (N : Nat) (y0 : Option (Nat × Nat)) (y1 : Option (Nat × Nat)) (y2 : Nat) (y3 : Int) (y4 : Bool) (J : KF R) (σ : St) : runK Try.prog call N f17c11 f17a11 J (f17e6 y0 y1 y2 y3 y4) σ = if y4 = true then runK Try.prog call N f17c12 f17a12 (condC f17a11 J) (f17e6 y0 y1 y2 y3 y4) σ else runK Try.prog call N f17c13 f17a13 (condC f17a11 J) (f17e6 y0 y1 y2 y3 y4) σ := runK_cond' (o := Operand.tmp (15 : Nat)) (by kernel_rfl) (by kernel_rfl) (by kernel_rfl) (by kernel_rfl)
theorem f17n12 {R : Type} (call : CallF R) (N : Nat) (J : KF R) (e : Env) (σ : St) : runK Try.prog call N f17c12 f17a12 J e σ = J .normal e σ := runK_skip' (by kernel_rfl)
theorem f17z11_f17e6 (y0 : Option (Nat × Nat)) (y1 : Option (Nat × Nat)) (y2 : Nat) (y3 : Int) (y4 : Bool) : Ann.clr f17a11 (f17e6 y0 y1 y2 y3 y4) = f17e6 y0 y1 y2 y3 y4 := hide (by kernel_rfl)
theorem f17r13_f17e6 {R : Type} (call : CallF R) (N : Nat) (y0 : Option (Nat × Nat)) (y1 : Option (Nat × Nat)) (y2 : Nat) (y3 : Int) (y4 : Bool) (J : KF R) (σ : St) :
    runK Try.prog call N f17c13 f17a13 J (f17e6 y0 y1 y2 y3 y4) σ =
J Ex.normal (f17e7 y0 y1 y2 y3 (y3 == (1 : Int)) (y3 == (1 : Int))) σ := hide (by kernel_rfl)
theorem f17z11_f17e7 (y0 : Option (Nat × Nat)) (y1 : Option (Nat × Nat)) (y2 : Nat) (y3 : Int) (y4 : Bool) (y5 : Bool) : Ann.clr f17a11 (f17e7 y0 y1 y2 y3 y4 y5) = f17e6 y0 y1 y2 y3 y4 := hide (by kernel_rfl)
theorem f17z7_f17e6 (y0 : Option (Nat × Nat)) (y1 : Option (Nat × Nat)) (y2 : Nat) (y3 : Int) (y4 : Bool) : Ann.clr f17a7 (f17e6 y0 y1 y2 y3 y4) = f17e6 y0 y1 y2 y3 y4 := hide (by kernel_rfl)
theorem f17x9_f17e6 {R : Type} (call : CallF R) (N : Nat) (y0 : Option (Nat × Nat)) (y1 : Option (Nat × Nat)) (y2 : Nat) (y3 : Int) (y4 : Bool) (J : KF R) (σ : St) : runK Try.prog call N f17c9 f17a9 J (f17e6 y0 y1 y2 y3 y4) σ = if y4 = true then runK Try.prog call N f17c14 f17a14 (condC f17a9 J) (f17e6 y0 y1 y2 y3 y4) σ else runK Try.prog call N f17c15 f17a15 (condC f17a9 J) (f17e6 y0 y1 y2 y3 y4) σ := runK_cond' (o := Operand.tmp (15 : Nat)) (by kernel_rfl) (by kernel_rfl) (by kernel_rfl) (by kernel_rfl)
theorem f17n14 {R : Type} (call : CallF R) (N : Nat) (J : KF R) (e : Env) (σ : St) : runK Try.prog call N f17c14 f17a14 J e σ = runK Try.prog call N f17c16 f17a16 (seqC (fun K e σ => runK Try.prog call N f17c17 f17a17 K e σ) f17a14 J) e σ := runK_seq' (by kernel_rfl) (by kernel_rfl) (by kernel_rfl)
theorem f17r16_f17e6 {R : Type} (call : CallF R) (N : Nat) (y0 : Option (Nat × Nat)) (y1 : Option (Nat × Nat)) (y2 : Nat) (y3 : Int) (y4 : Bool) (J : KF R) (σ : St) :
    runK Try.prog call N f17c16 f17a16 J (f17e6 y0 y1 y2 y3 y4) σ =
Option.bind (St.ld σ y2 (2 : Nat)) fun v0 =>
  Option.bind (AV.toInt IntKind.i64 v0) fun v1 =>
    Option.bind (St.ld σ y2 (3 : Nat)) fun v2 =>
      Option.bind (AV.toInt IntKind.i64 v2) fun v3 =>
        Option.bind (St.ld σ y2 (4 : Nat)) fun v4 =>
          Option.bind (AV.toInt IntKind.i64 v4) fun v5 =>
            Option.bind (St.ld σ y2 (5 : Nat)) fun v6 =>
              Option.bind (AV.toStr v6) fun v7 =>
                call (10 : Nat) [AV.ptr y0, AV.agg [AV.int IntKind.i64 v1, AV.int IntKind.i64 v3, AV.int IntKind.i64 v5, AV.str v7]] σ fun v8 v9 =>
                  Option.bind (AV.toInt IntKind.i64 v8) fun v10 =>
                    Option.bind (St.ld v9 y2 (2 : Nat)) fun v11 =>
                      Option.bind (AV.toInt IntKind.i64 v11) fun v12 =>
                        Option.bind (St.ld v9 y2 (3 : Nat)) fun v13 =>
                          Option.bind (AV.toInt IntKind.i64 v13) fun v14 =>
                            Option.bind (St.ld v9 y2 (4 : Nat)) fun v15 =>
                              Option.bind (AV.toInt IntKind.i64 v15) fun v16 =>
                                Option.bind (St.ld v9 y2 (5 : Nat)) fun v17 =>
                                  Option.bind (AV.toStr v17) fun v18 =>
                                    if
                                        St.same σ y2 (2 : Nat) [AV.int IntKind.i64 v12, AV.int IntKind.i64 v14, AV.int IntKind.i64 v16, AV.str v18] =
                                          true then
                                      call (19 : Nat) [AV.agg [AV.int IntKind.i64 v12, AV.int IntKind.i64 v14, AV.int IntKind.i64 v16, AV.str v18]] v9
                                        fun v19 v20 =>
                                        Option.bind (AV.toAgg v19) fun v21 =>
                                          if List.length v21 = (4 : Nat) then
                                            Option.bind (List.head? v21) fun v22 =>
                                              Option.bind (AV.toInt IntKind.i64 v22) fun v23 =>
                                                Option.bind (List.head? (List.tail v21)) fun v24 =>
                                                  Option.bind (AV.toInt IntKind.i64 v24) fun v25 =>
                                                    Option.bind (List.head? (List.tail (List.tail v21))) fun v26 =>
                                                      Option.bind (AV.toInt IntKind.i64 v26) fun v27 =>
                                                        Option.bind (List.head? (List.tail (List.tail (List.tail v21)))) fun v28 =>
                                                          Option.bind (AV.toStr v28) fun v29 =>
                                                            call (22 : Nat)
                                                              [AV.ptr y1,
                                                                AV.agg
                                                                  [AV.int IntKind.i64 v23, AV.int IntKind.i64 v25, AV.int IntKind.i64 v27,
                                                                    AV.str v29]]
                                                              v20 fun v30 v31 =>
                                                              Option.bind (AV.toInt IntKind.i64 v30) fun v32 =>
                                                                J Ex.normal
                                                                  (f17e8 y0 y1 y2 (v10 == v32) y3 y4 y0 y2 v1 v3 v5 v7 v10 y1 y2 v12 v14 v16 v18 v23
                                                                    v25 v27 v29 v32 (v10 == v32))
                                                                  v31
                                          else none
                                    else none := hide (by kernel_rfl)
theorem f17z14_f17e8 (y0 : Option (Nat × Nat)) (y1 : Option (Nat × Nat)) (y2 : Nat) (y3 : Bool) (y4 : Int) (y5 : Bool) (y6 : Option (Nat × Nat)) (y7 : Nat) (y8 : Int) (y9 : Int) (y10 : Int) (y11 : ByteArray) (y12 : Int) (y13 : Option (Nat × Nat)) (y14 : Nat) (y15 : Int) (y16 : Int) (y17 : Int) (y18 : ByteArray) (y19 : Int) (y20 : Int) (y21 : Int) (y22 : ByteArray) (y23 : Int) (y24 : Bool) : Ann.clr f17a14 (f17e8 y0 y1 y2 y3 y4 y5 y6 y7 y8 y9 y10 y11 y12 y13 y14 y15 y16 y17 y18 y19 y20 y21 y22 y23 y24) = f17e9 y3 := hide (by kernel_rfl)
theorem f17y17_f17e9 {R : Type} (call : CallF R) (N : Nat) (y0 : Bool) (J : KF R) (σ : St) : runK Try.prog call N f17c17 f17a17 J (f17e9 y0) σ = J .ret (f17e9 y0) σ := runK_ret' (by kernel_rfl) (by kernel_rfl)
theorem f17n15 {R : Type} (call : CallF R) (N : Nat) (J : KF R) (e : Env) (σ : St) : runK Try.prog call N f17c15 f17a15 J e σ = runK Try.prog call N f17c18 f17a18 (seqC (fun K e σ => runK Try.prog call N f17c19 f17a19 K e σ) f17a15 J) e σ := runK_seq' (by kernel_rfl) (by kernel_rfl) (by kernel_rfl)
theorem f17r18_f17e6 {R : Type} (call : CallF R) (N : Nat) (y0 : Option (Nat × Nat)) (y1 : Option (Nat × Nat)) (y2 : Nat) (y3 : Int) (y4 : Bool) (J : KF R) (σ : St) :
    runK Try.prog call N f17c18 f17a18 J (f17e6 y0 y1 y2 y3 y4) σ =
J Ex.normal (f17e10 y0 y1 y2 y3 y4 (y3 == (2 : Int)) (y3 == (2 : Int))) σ := hide (by kernel_rfl)
theorem f17z15_f17e10 (y0 : Option (Nat × Nat)) (y1 : Option (Nat × Nat)) (y2 : Nat) (y3 : Int) (y4 : Bool) (y5 : Bool) (y6 : Bool) : Ann.clr f17a15 (f17e10 y0 y1 y2 y3 y4 y5 y6) = f17e11 y0 y1 y2 y3 y5 := hide (by kernel_rfl)
theorem f17x19_f17e11 {R : Type} (call : CallF R) (N : Nat) (y0 : Option (Nat × Nat)) (y1 : Option (Nat × Nat)) (y2 : Nat) (y3 : Int) (y4 : Bool) (J : KF R) (σ : St) : runK Try.prog call N f17c19 f17a19 J (f17e11 y0 y1 y2 y3 y4) σ = if y4 = true then runK Try.prog call N f17c20 f17a20 (condC f17a19 J) (f17e11 y0 y1 y2 y3 y4) σ else runK Try.prog call N f17c21 f17a21 (condC f17a19 J) (f17e11 y0 y1 y2 y3 y4) σ := runK_cond' (o := Operand.tmp (28 : Nat)) (by kernel_rfl) (by kernel_rfl) (by kernel_rfl) (by kernel_rfl)
theorem f17n20 {R : Type} (call : CallF R) (N : Nat) (J : KF R) (e : Env) (σ : St) : runK Try.prog call N f17c20 f17a20 J e σ = runK Try.prog call N f17c22 f17a22 (seqC (fun K e σ => runK Try.prog call N f17c23 f17a23 K e σ) f17a20 J) e σ := runK_seq' (by kernel_rfl) (by kernel_rfl) (by kernel_rfl)
theorem f17r22_f17e11 {R : Type} (call : CallF R) (N : Nat) (y0 : Option (Nat × Nat)) (y1 : Option (Nat × Nat)) (y2 : Nat) (y3 : Int) (y4 : Bool) (J : KF R) (σ : St) :
    runK Try.prog call N f17c22 f17a22 J (f17e11 y0 y1 y2 y3 y4) σ =
Option.bind (St.ld σ y2 (1 : Nat)) fun v0 =>
  Option.bind (AV.toInt IntKind.i64 v0) fun v1 =>
    call (11 : Nat) [AV.ptr y0, AV.int IntKind.i64 v1] σ fun v2 v3 =>
      Option.bind (AV.toTuple v2) fun v4 =>
        if List.length v4 = (2 : Nat) then
          Option.bind (List.head? v4) fun v5 =>
            Option.bind (AV.toAgg v5) fun v6 =>
              if List.length v6 = (4 : Nat) then
                Option.bind (List.head? v6) fun v7 =>
                  Option.bind (AV.toInt IntKind.i64 v7) fun v8 =>
                    Option.bind (List.head? (List.tail v6)) fun v9 =>
                      Option.bind (AV.toInt IntKind.i64 v9) fun v10 =>
                        Option.bind (List.head? (List.tail (List.tail v6))) fun v11 =>
                          Option.bind (AV.toInt IntKind.i64 v11) fun v12 =>
                            Option.bind (List.head? (List.tail (List.tail (List.tail v6)))) fun v13 =>
                              Option.bind (AV.toStr v13) fun v14 =>
                                Option.bind (List.head? (List.tail v4)) fun v15 =>
                                  Option.bind (AV.toInt IntKind.i64 v15) fun v16 =>
                                    Option.bind
                                      (St.st
                                        (St.new v3
                                          (Blk.cells
                                            [AV.int IntKind.i64 (0 : Int), AV.int IntKind.i64 (0 : Int), AV.int IntKind.i64 (0 : Int),
                                              AV.str (ByteArray.mk #[])]
                                            true))
                                        (St.next v3) (0 : Nat) [AV.int IntKind.i64 v8, AV.int IntKind.i64 v10, AV.int IntKind.i64 v12, AV.str v14])
                                      fun v17 =>
                                      J Ex.normal
                                        (f17e12 y0 y1 y2 (St.next v3) v16 y3 y4 v8 v10 v12 v14 v16 y0 y2 v1 v8 v10 v12 v14 v16 v8 v10 v12 v14 v16) v17
              else none
        else none := hide (by kernel_rfl)
theorem f17z20_f17e12 (y0 : Option (Nat × Nat)) (y1 : Option (Nat × Nat)) (y2 : Nat) (y3 : Nat) (y4 : Int) (y5 : Int) (y6 : Bool) (y7 : Int) (y8 : Int) (y9 : Int) (y10 : ByteArray) (y11 : Int) (y12 : Option (Nat × Nat)) (y13 : Nat) (y14 : Int) (y15 : Int) (y16 : Int) (y17 : Int) (y18 : ByteArray) (y19 : Int) (y20 : Int) (y21 : Int) (y22 : Int) (y23 : ByteArray) (y24 : Int) : Ann.clr f17a20 (f17e12 y0 y1 y2 y3 y4 y5 y6 y7 y8 y9 y10 y11 y12 y13 y14 y15 y16 y17 y18 y19 y20 y21 y22 y23 y24) = f17e13 y1 y2 y3 y4 := hide (by kernel_rfl)
theorem f17n23 {R : Type} (call : CallF R) (N : Nat) (J : KF R) (e : Env) (σ : St) : runK Try.prog call N f17c23 f17a23 J e σ = runK Try.prog call N f17c24 f17a24 (seqC (fun K e σ => runK Try.prog call N f17c25 f17a25 K e σ) f17a23 J) e σ := runK_seq' (by kernel_rfl) (by kernel_rfl) (by kernel_rfl)
theorem f17r24_f17e13 {R : Type} (call : CallF R) (N : Nat) (y0 : Option (Nat × Nat)) (y1 : Nat) (y2 : Nat) (y3 : Int) (J : KF R) (σ : St) :
    runK Try.prog call N f17c24 f17a24 J (f17e13 y0 y1 y2 y3) σ =
Option.bind (St.ld σ y1 (1 : Nat)) fun v0 =>
  Option.bind (AV.toInt IntKind.i64 v0) fun v1 =>
    call (23 : Nat) [AV.ptr y0, AV.int IntKind.i64 v1] σ fun v2 v3 =>
      Option.bind (AV.toTuple v2) fun v4 =>
        if List.length v4 = (2 : Nat) then
          Option.bind (List.head? v4) fun v5 =>
            Option.bind (AV.toAgg v5) fun v6 =>
              if List.length v6 = (4 : Nat) then
                Option.bind (List.head? v6) fun v7 =>
                  Option.bind (AV.toInt IntKind.i64 v7) fun v8 =>
                    Option.bind (List.head? (List.tail v6)) fun v9 =>
                      Option.bind (AV.toInt IntKind.i64 v9) fun v10 =>
                        Option.bind (List.head? (List.tail (List.tail v6))) fun v11 =>
                          Option.bind (AV.toInt IntKind.i64 v11) fun v12 =>
                            Option.bind (List.head? (List.tail (List.tail (List.tail v6)))) fun v13 =>
                              Option.bind (AV.toStr v13) fun v14 =>
                                Option.bind (List.head? (List.tail v4)) fun v15 =>
                                  Option.bind (AV.toInt IntKind.i64 v15) fun v16 =>
                                    Option.bind
                                      (St.st
                                        (St.new v3
                                          (Blk.cells
                                            [AV.int IntKind.i64 (0 : Int), AV.int IntKind.i64 (0 : Int), AV.int IntKind.i64 (0 : Int),
                                              AV.str (ByteArray.mk #[])]
                                            true))
                                        (St.next v3) (0 : Nat) [AV.int IntKind.i64 v8, AV.int IntKind.i64 v10, AV.int IntKind.i64 v12, AV.str v14])
                                      fun v17 =>
                                      J Ex.normal
                                        (f17e14 y0 y1 y2 y3 (St.next v3) v16 v8 v10 v12 v14 v16 y0 y1 v1 v8 v10 v12 v14 v16 v8 v10 v12 v14 v16) v17
              else none
        else none := hide (by kernel_rfl)
theorem f17z23_f17e14 (y0 : Option (Nat × Nat)) (y1 : Nat) (y2 : Nat) (y3 : Int) (y4 : Nat) (y5 : Int) (y6 : Int) (y7 : Int) (y8 : Int) (y9 : ByteArray) (y10 : Int) (y11 : Option (Nat × Nat)) (y12 : Nat) (y13 : Int) (y14 : Int) (y15 : Int) (y16 : Int) (y17 : ByteArray) (y18 : Int) (y19 : Int) (y20 : Int) (y21 : Int) (y22 : ByteArray) (y23 : Int) : Ann.clr f17a23 (f17e14 y0 y1 y2 y3 y4 y5 y6 y7 y8 y9 y10 y11 y12 y13 y14 y15 y16 y17 y18 y19 y20 y21 y22 y23) = f17e15 y2 y3 y4 y5 := hide (by kernel_rfl)
theorem f17n25 {R : Type} (call : CallF R) (N : Nat) (J : KF R) (e : Env) (σ : St) : runK Try.prog call N f17c25 f17a25 J e σ = runK Try.prog call N f17c26 f17a26 (seqC (fun K e σ => runK Try.prog call N f17c27 f17a27 K e σ) f17a25 J) e σ := runK_seq' (by kernel_rfl) (by kernel_rfl) (by kernel_rfl)
theorem f17r26_f17e15 {R : Type} (call : CallF R) (N : Nat) (y0 : Nat) (y1 : Int) (y2 : Nat) (y3 : Int) (J : KF R) (σ : St) :
    runK Try.prog call N f17c26 f17a26 J (f17e15 y0 y1 y2 y3) σ =
Option.bind (St.ld σ y0 (0 : Nat)) fun v0 =>
  Option.bind (AV.toInt IntKind.i64 v0) fun v1 =>
    Option.bind (St.ld σ y0 (1 : Nat)) fun v2 =>
      Option.bind (AV.toInt IntKind.i64 v2) fun v3 =>
        Option.bind (St.ld σ y0 (2 : Nat)) fun v4 =>
          Option.bind (AV.toInt IntKind.i64 v4) fun v5 =>
            Option.bind (St.ld σ y0 (3 : Nat)) fun v6 =>
              Option.bind (AV.toStr v6) fun v7 =>
                call (19 : Nat) [AV.agg [AV.int IntKind.i64 v1, AV.int IntKind.i64 v3, AV.int IntKind.i64 v5, AV.str v7]] σ fun v8 v9 =>
                  Option.bind (AV.toAgg v8) fun v10 =>
                    if List.length v10 = (4 : Nat) then
                      Option.bind (List.head? v10) fun v11 =>
                        Option.bind (AV.toInt IntKind.i64 v11) fun v12 =>
                          Option.bind (List.head? (List.tail v10)) fun v13 =>
                            Option.bind (AV.toInt IntKind.i64 v13) fun v14 =>
                              Option.bind (List.head? (List.tail (List.tail v10))) fun v15 =>
                                Option.bind (AV.toInt IntKind.i64 v15) fun v16 =>
                                  Option.bind (List.head? (List.tail (List.tail (List.tail v10)))) fun v17 =>
                                    Option.bind (AV.toStr v17) fun v18 =>
                                      Option.bind (St.ld v9 y2 (0 : Nat)) fun v19 =>
                                        Option.bind (AV.toInt IntKind.i64 v19) fun v20 =>
                                          Option.bind (St.ld v9 y2 (1 : Nat)) fun v21 =>
                                            Option.bind (AV.toInt IntKind.i64 v21) fun v22 =>
                                              Option.bind (St.ld v9 y2 (2 : Nat)) fun v23 =>
                                                Option.bind (AV.toInt IntKind.i64 v23) fun v24 =>
                                                  Option.bind (St.ld v9 y2 (3 : Nat)) fun v25 =>
                                                    Option.bind (AV.toStr v25) fun v26 =>
                                                      if
                                                          St.same σ y2 (0 : Nat)
                                                              [AV.int IntKind.i64 v20, AV.int IntKind.i64 v22, AV.int IntKind.i64 v24, AV.str v26] =
                                                            true then
                                                        if (v12 == v20 && (v14 == v22 && (v16 == v24 && (decide (v18 = v26) && true)))) = true then
                                                          J Ex.normal
                                                            (f17e16 (y1 == y3) y0 y1 y2 y3 v1 v3 v5 v7 v12 v14 v16 v18 v20 v22 v24 v26
                                                              (v12 == v20 && (v14 == v22 && (v16 == v24 && (decide (v18 = v26) && true)))) true y1 y3
                                                              (y1 == y3) (y1 == y3))
                                                            v9
                                                        else
                                                          J Ex.normal
                                                            (f17e17 false y0 y1 y2 y3 v1 v3 v5 v7 v12 v14 v16 v18 v20 v22 v24 v26
                                                              (v12 == v20 && (v14 == v22 && (v16 == v24 && (decide (v18 = v26) && true)))) false
                                                              false)
                                                            v9
                                                      else none
                    else none := hide (by kernel_rfl)
theorem f17z25_f17e16 (y0 : Bool) (y1 : Nat) (y2 : Int) (y3 : Nat) (y4 : Int) (y5 : Int) (y6 : Int) (y7 : Int) (y8 : ByteArray) (y9 : Int) (y10 : Int) (y11 : Int) (y12 : ByteArray) (y13 : Int) (y14 : Int) (y15 : Int) (y16 : ByteArray) (y17 : Bool) (y18 : Bool) (y19 : Int) (y20 : Int) (y21 : Bool) (y22 : Bool) : Ann.clr f17a25 (f17e16 y0 y1 y2 y3 y4 y5 y6 y7 y8 y9 y10 y11 y12 y13 y14 y15 y16 y17 y18 y19 y20 y21 y22) = f17e9 y0 := hide (by kernel_rfl)
theorem f17y27_f17e9 {R : Type} (call : CallF R) (N : Nat) (y0 : Bool) (J : KF R) (σ : St) : runK Try.prog call N f17c27 f17a27 J (f17e9 y0) σ = J .ret (f17e9 y0) σ := runK_ret' (by kernel_rfl) (by kernel_rfl)
theorem f17z25_f17e17 (y0 : Bool) (y1 : Nat) (y2 : Int) (y3 : Nat) (y4 : Int) (y5 : Int) (y6 : Int) (y7 : Int) (y8 : ByteArray) (y9 : Int) (y10 : Int) (y11 : Int) (y12 : ByteArray) (y13 : Int) (y14 : Int) (y15 : Int) (y16 : ByteArray) (y17 : Bool) (y18 : Bool) (y19 : Bool) : Ann.clr f17a25 (f17e17 y0 y1 y2 y3 y4 y5 y6 y7 y8 y9 y10 y11 y12 y13 y14 y15 y16 y17 y18 y19) = f17e9 y0 := hide (by kernel_rfl)
theorem f17n21 {R : Type} (call : CallF R) (N : Nat) (J : KF R) (e : Env) (σ : St) : runK Try.prog call N f17c21 f17a21 J e σ = runK Try.prog call N f17c28 f17a28 (seqC (fun K e σ => runK Try.prog call N f17c29 f17a29 K e σ) f17a21 J) e σ := runK_seq' (by kernel_rfl) (by kernel_rfl) (by kernel_rfl)
theorem f17r28_f17e11 {R : Type} (call : CallF R) (N : Nat) (y0 : Option (Nat × Nat)) (y1 : Option (Nat × Nat)) (y2 : Nat) (y3 : Int) (y4 : Bool) (J : KF R) (σ : St) :
    runK Try.prog call N f17c28 f17a28 J (f17e11 y0 y1 y2 y3 y4) σ =
J Ex.normal (f17e18 y0 y1 y2 y3 y4 (y3 == (3 : Int)) (y3 == (3 : Int))) σ := hide (by kernel_rfl)
theorem f17z21_f17e18 (y0 : Option (Nat × Nat)) (y1 : Option (Nat × Nat)) (y2 : Nat) (y3 : Int) (y4 : Bool) (y5 : Bool) (y6 : Bool) : Ann.clr f17a21 (f17e18 y0 y1 y2 y3 y4 y5 y6) = f17e19 y0 y1 y2 y5 := hide (by kernel_rfl)
theorem f17x29_f17e19 {R : Type} (call : CallF R) (N : Nat) (y0 : Option (Nat × Nat)) (y1 : Option (Nat × Nat)) (y2 : Nat) (y3 : Bool) (J : KF R) (σ : St) : runK Try.prog call N f17c29 f17a29 J (f17e19 y0 y1 y2 y3) σ = if y3 = true then runK Try.prog call N f17c30 f17a30 (condC f17a29 J) (f17e19 y0 y1 y2 y3) σ else runK Try.prog call N f17c31 f17a31 (condC f17a29 J) (f17e19 y0 y1 y2 y3) σ := runK_cond' (o := Operand.tmp (53 : Nat)) (by kernel_rfl) (by kernel_rfl) (by kernel_rfl) (by kernel_rfl)
theorem f17n30 {R : Type} (call : CallF R) (N : Nat) (J : KF R) (e : Env) (σ : St) : runK Try.prog call N f17c30 f17a30 J e σ = runK Try.prog call N f17c32 f17a32 (seqC (fun K e σ => runK Try.prog call N f17c33 f17a33 K e σ) f17a30 J) e σ := runK_seq' (by kernel_rfl) (by kernel_rfl) (by kernel_rfl)
theorem f17r32_f17e19 {R : Type} (call : CallF R) (N : Nat) (y0 : Option (Nat × Nat)) (y1 : Option (Nat × Nat)) (y2 : Nat) (y3 : Bool) (J : KF R) (σ : St) :
    runK Try.prog call N f17c32 f17a32 J (f17e19 y0 y1 y2 y3) σ =
Option.bind (St.ld σ y2 (1 : Nat)) fun v0 =>
  Option.bind (AV.toInt IntKind.i64 v0) fun v1 =>
    call (18 : Nat) [AV.ptr y1, AV.int IntKind.i64 v1] σ fun v2 v3 =>
      Option.bind (AV.toTuple v2) fun v4 =>
        if List.length v4 = (2 : Nat) then
          Option.bind (List.head? v4) fun v5 =>
            Option.bind (AV.toAgg v5) fun v6 =>
              if List.length v6 = (4 : Nat) then
                Option.bind (List.head? v6) fun v7 =>
                  Option.bind (AV.toInt IntKind.i64 v7) fun v8 =>
                    Option.bind (List.head? (List.tail v6)) fun v9 =>
                      Option.bind (AV.toInt IntKind.i64 v9) fun v10 =>
                        Option.bind (List.head? (List.tail (List.tail v6))) fun v11 =>
                          Option.bind (AV.toInt IntKind.i64 v11) fun v12 =>
                            Option.bind (List.head? (List.tail (List.tail (List.tail v6)))) fun v13 =>
                              Option.bind (AV.toStr v13) fun v14 =>
                                Option.bind (List.head? (List.tail v4)) fun v15 =>
                                  Option.bind (AV.toInt IntKind.i64 v15) fun v16 =>
                                    Option.bind
                                      (St.st
                                        (St.new v3
                                          (Blk.cells
                                            [AV.int IntKind.i64 (0 : Int), AV.int IntKind.i64 (0 : Int), AV.int IntKind.i64 (0 : Int),
                                              AV.str (ByteArray.mk #[])]
                                            true))
                                        (St.next v3) (0 : Nat) [AV.int IntKind.i64 v8, AV.int IntKind.i64 v10, AV.int IntKind.i64 v12, AV.str v14])
                                      fun v17 =>
                                      J Ex.normal
                                        (f17e20 y0 y1 y2 (St.next v3) v16 y3 v8 v10 v12 v14 v16 y1 y2 v1 v8 v10 v12 v14 v16 v8 v10 v12 v14 v16) v17
              else none
        else none := hide (by kernel_rfl)
theorem f17z30_f17e20 (y0 : Option (Nat × Nat)) (y1 : Option (Nat × Nat)) (y2 : Nat) (y3 : Nat) (y4 : Int) (y5 : Bool) (y6 : Int) (y7 : Int) (y8 : Int) (y9 : ByteArray) (y10 : Int) (y11 : Option (Nat × Nat)) (y12 : Nat) (y13 : Int) (y14 : Int) (y15 : Int) (y16 : Int) (y17 : ByteArray) (y18 : Int) (y19 : Int) (y20 : Int) (y21 : Int) (y22 : ByteArray) (y23 : Int) : Ann.clr f17a30 (f17e20 y0 y1 y2 y3 y4 y5 y6 y7 y8 y9 y10 y11 y12 y13 y14 y15 y16 y17 y18 y19 y20 y21 y22 y23) = f17e21 y0 y1 y2 y3 y4 := hide (by kernel_rfl)
theorem f17n33 {R : Type} (call : CallF R) (N : Nat) (J : KF R) (e : Env) (σ : St) : runK Try.prog call N f17c33 f17a33 J e σ = runK Try.prog call N f17c34 f17a34 (seqC (fun K e σ => runK Try.prog call N f17c35 f17a35 K e σ) f17a33 J) e σ := runK_seq' (by kernel_rfl) (by kernel_rfl) (by kernel_rfl)
theorem f17n34 {R : Type} (call : CallF R) (N : Nat) (J : KF R) (e : Env) (σ : St) : runK Try.prog call N f17c34 f17a34 J e σ = runK Try.prog call N f17c36 f17a36 (seqC (fun K e σ => runK Try.prog call N f17c37 f17a37 K e σ) f17a34 J) e σ := runK_seq' (by kernel_rfl) (by kernel_rfl) (by kernel_rfl)
theorem f17r36_f17e21 {R : Type} (call : CallF R) (N : Nat) (y0 : Option (Nat × Nat)) (y1 : Option (Nat × Nat)) (y2 : Nat) (y3 : Nat) (y4 : Int) (J : KF R) (σ : St) :
    runK Try.prog call N f17c36 f17a36 J (f17e21 y0 y1 y2 y3 y4) σ =
J Ex.normal (f17e22 y0 y1 y2 y3 y4 y4 (y4 == (0 : Int))) σ := hide (by kernel_rfl)
theorem f17z34_f17e22 (y0 : Option (Nat × Nat)) (y1 : Option (Nat × Nat)) (y2 : Nat) (y3 : Nat) (y4 : Int) (y5 : Int) (y6 : Bool) : Ann.clr f17a34 (f17e22 y0 y1 y2 y3 y4 y5 y6) = f17e23 y0 y1 y2 y3 y4 y6 := hide (by kernel_rfl)
theorem f17x37_f17e23 {R : Type} (call : CallF R) (N : Nat) (y0 : Option (Nat × Nat)) (y1 : Option (Nat × Nat)) (y2 : Nat) (y3 : Nat) (y4 : Int) (y5 : Bool) (J : KF R) (σ : St) : runK Try.prog call N f17c37 f17a37 J (f17e23 y0 y1 y2 y3 y4 y5) σ = if y5 = true then runK Try.prog call N f17c38 f17a38 (condC f17a37 J) (f17e23 y0 y1 y2 y3 y4 y5) σ else runK Try.prog call N f17c39 f17a39 (condC f17a37 J) (f17e23 y0 y1 y2 y3 y4 y5) σ := runK_cond' (o := Operand.tmp (63 : Nat)) (by kernel_rfl) (by kernel_rfl) (by kernel_rfl) (by kernel_rfl)
theorem f17r38_f17e23 {R : Type} (call : CallF R) (N : Nat) (y0 : Option (Nat × Nat)) (y1 : Option (Nat × Nat)) (y2 : Nat) (y3 : Nat) (y4 : Int) (y5 : Bool) (J : KF R) (σ : St) :
    runK Try.prog call N f17c38 f17a38 J (f17e23 y0 y1 y2 y3 y4 y5) σ =
Option.bind (St.ld σ y3 (0 : Nat)) fun v0 =>
  Option.bind (AV.toInt IntKind.i64 v0) fun v1 =>
    Option.bind (St.ld σ y3 (1 : Nat)) fun v2 =>
      Option.bind (AV.toInt IntKind.i64 v2) fun v3 =>
        Option.bind (St.ld σ y3 (2 : Nat)) fun v4 =>
          Option.bind (AV.toInt IntKind.i64 v4) fun v5 =>
            Option.bind (St.ld σ y3 (3 : Nat)) fun v6 =>
              Option.bind (AV.toStr v6) fun v7 =>
                call (22 : Nat) [AV.ptr y1, AV.agg [AV.int IntKind.i64 v1, AV.int IntKind.i64 v3, AV.int IntKind.i64 v5, AV.str v7]] σ fun v8 v9 =>
                  Option.bind (AV.toInt IntKind.i64 v8) fun v10 => J Ex.normal (f17e24 y0 y1 y2 y3 v10 y5 y1 v1 v3 v5 v7 v10) v9 := hide (by kernel_rfl)
theorem f17z37_f17e24 (y0 : Option (Nat × Nat)) (y1 : Option (Nat × Nat)) (y2 : Nat) (y3 : Nat) (y4 : Int) (y5 : Bool) (y6 : Option (Nat × Nat)) (y7 : Int) (y8 : Int) (y9 : Int) (y10 : ByteArray) (y11 : Int) : Ann.clr f17a37 (f17e24 y0 y1 y2 y3 y4 y5 y6 y7 y8 y9 y10 y11) = f17e25 y0 y2 y4 := hide (by kernel_rfl)
theorem f17n39 {R : Type} (call : CallF R) (N : Nat) (J : KF R) (e : Env) (σ : St) : runK Try.prog call N f17c39 f17a39 J e σ = J .normal e σ := runK_skip' (by kernel_rfl)
theorem f17z37_f17e23 (y0 : Option (Nat × Nat)) (y1 : Option (Nat × Nat)) (y2 : Nat) (y3 : Nat) (y4 : Int) (y5 : Bool) : Ann.clr f17a37 (f17e23 y0 y1 y2 y3 y4 y5) = f17e25 y0 y2 y4 := hide (by kernel_rfl)
theorem f17z33_f17e25 (y0 : Option (Nat × Nat)) (y1 : Nat) (y2 : Int) : Ann.clr f17a33 (f17e25 y0 y1 y2) = f17e25 y0 y1 y2 := hide (by kernel_rfl)
theorem f17n35 {R : Type} (call : CallF R) (N : Nat) (J : KF R) (e : Env) (σ : St) : runK Try.prog call N f17c35 f17a35 J e σ = runK Try.prog call N f17c40 f17a40 (seqC (fun K e σ => runK Try.prog call N f17c41 f17a41 K e σ) f17a35 J) e σ := runK_seq' (by kernel_rfl) (by kernel_rfl) (by kernel_rfl)
theorem f17r40_f17e25 {R : Type} (call : CallF R) (N : Nat) (y0 : Option (Nat × Nat)) (y1 : Nat) (y2 : Int) (J : KF R) (σ : St) :
    runK Try.prog call N f17c40 f17a40 J (f17e25 y0 y1 y2) σ =
Option.bind (St.ld σ y1 (1 : Nat)) fun v0 =>
  Option.bind (AV.toInt IntKind.i64 v0) fun v1 =>
    call (14 : Nat) [AV.ptr y0, AV.int IntKind.i64 v1] σ fun v2 v3 =>
      Option.bind (AV.toInt IntKind.i64 v2) fun v4 => J Ex.normal (f17e26 y0 y1 (v4 == y2) y2 y0 y1 v1 v4 y2 (v4 == y2)) v3 := hide (by kernel_rfl)
theorem f17z35_f17e26 (y0 : Option (Nat × Nat)) (y1 : Nat) (y2 : Bool) (y3 : Int) (y4 : Option (Nat × Nat)) (y5 : Nat) (y6 : Int) (y7 : Int) (y8 : Int) (y9 : Bool) : Ann.clr f17a35 (f17e26 y0 y1 y2 y3 y4 y5 y6 y7 y8 y9) = f17e9 y2 := hide (by kernel_rfl)
theorem f17y41_f17e9 {R : Type} (call : CallF R) (N : Nat) (y0 : Bool) (J : KF R) (σ : St) : runK Try.prog call N f17c41 f17a41 J (f17e9 y0) σ = J .ret (f17e9 y0) σ := runK_ret' (by kernel_rfl) (by kernel_rfl)
theorem f17n31 {R : Type} (call : CallF R) (N : Nat) (J : KF R) (e : Env) (σ : St) : runK Try.prog call N f17c31 f17a31 J e σ = J .normal e σ := runK_skip' (by kernel_rfl)
theorem f17z29_f17e19 (y0 : Option (Nat × Nat)) (y1 : Option (Nat × Nat)) (y2 : Nat) (y3 : Bool) : Ann.clr f17a29 (f17e19 y0 y1 y2 y3) = f17e27 := hide (by kernel_rfl)
theorem f17z19_f17e27 : Ann.clr f17a19 (f17e27) = f17e27 := hide (by kernel_rfl)
theorem f17z9_f17e27 : Ann.clr f17a9 (f17e27) = f17e27 := hide (by kernel_rfl)
theorem f17z6_f17e27 : Ann.clr f17a6 (f17e27) = f17e27 := hide (by kernel_rfl)
theorem f17z2_f17e27 : Ann.clr f17a2 (f17e27) = f17e27 := hide (by kernel_rfl)
theorem f17n4 {R : Type} (call : CallF R) (N : Nat) (J : KF R) (e : Env) (σ : St) : runK Try.prog call N f17c4 f17a4 J e σ = runK Try.prog call N f17c42 f17a42 (seqC (fun K e σ => runK Try.prog call N f17c43 f17a43 K e σ) f17a4 J) e σ := runK_seq' (by kernel_rfl) (by kernel_rfl) (by kernel_rfl)
theorem f17r42_f17e27 {R : Type} (call : CallF R) (N : Nat) (J : KF R) (σ : St) :
    runK Try.prog call N f17c42 f17a42 J (f17e27) σ =
J Ex.normal (f17e9 true) σ := hide (by kernel_rfl)
theorem f17z4_f17e9 (y0 : Bool) : Ann.clr f17a4 (f17e9 y0) = f17e9 y0 := hide (by kernel_rfl)
theorem f17y43_f17e9 {R : Type} (call : CallF R) (N : Nat) (y0 : Bool) (J : KF R) (σ : St) : runK Try.prog call N f17c43 f17a43 J (f17e9 y0) σ = J .ret (f17e9 y0) σ := runK_ret' (by kernel_rfl) (by kernel_rfl)
theorem f17b_f17e9_r {R : Type} (y0 : Bool) (σ : St) (K : AV → St → Option R) : bodyC Try.prog f17rs K (Ex.ret) (f17e9 y0) σ =
K (AV.bool y0) σ := hide (by kernel_rfl)
attribute [go_sem] f17_eq f17n0 f17r1_f17e0 f17z0_f17e1 f17n2 f17n3 f17r5_f17e2 f17z3_f17e3 f17n6 f17n7 f17n8 f17r10_f17e4 f17z8_f17e5 f17x11_f17e6 f17n12 f17z11_f17e6 f17r13_f17e6 f17z11_f17e7 f17z7_f17e6 f17x9_f17e6 f17n14 f17r16_f17e6 f17z14_f17e8 f17y17_f17e9 f17n15 f17r18_f17e6 f17z15_f17e10 f17x19_f17e11 f17n20 f17r22_f17e11 f17z20_f17e12 f17n23 f17r24_f17e13 f17z23_f17e14 f17n25 f17r26_f17e15 f17z25_f17e16 f17y27_f17e9 f17z25_f17e17 f17n21 f17r28_f17e11 f17z21_f17e18 f17x29_f17e19 f17n30 f17r32_f17e19 f17z30_f17e20 f17n33 f17n34 f17r36_f17e21 f17z34_f17e22 f17x37_f17e23 f17r38_f17e23 f17z37_f17e24 f17n39 f17z37_f17e23 f17z33_f17e25 f17n35 f17r40_f17e25 f17z35_f17e26 f17y41_f17e9 f17n31 f17z29_f17e19 f17z19_f17e27 f17z9_f17e27 f17z6_f17e27 f17z2_f17e27 f17n4 f17r42_f17e27 f17z4_f17e9 f17y43_f17e9 f17b_f17e9_r

noncomputable def f18rs : List ResultVar := [ResultVar.cell (4 : Nat) (47 : Nat), ResultVar.tmp (5 : Nat)]
noncomputable def f18c0 : Code := subCode [] (bodyOf Try.prog 18)
def f18a0 : Ann := subAnn [] ann18
noncomputable def f18c1 : Code := subCode [0] (bodyOf Try.prog 18)
def f18a1 : Ann := subAnn [0] ann18
noncomputable def f18c2 : Code := subCode [1] (bodyOf Try.prog 18)
def f18a2 : Ann := subAnn [1] ann18
noncomputable def f18c3 : Code := subCode [1, 0] (bodyOf Try.prog 18)
def f18a3 : Ann := subAnn [1, 0] ann18
noncomputable def f18c4 : Code := subCode [1, 1] (bodyOf Try.prog 18)
def f18a4 : Ann := subAnn [1, 1] ann18
noncomputable def f18c5 : Code := subCode [1, 0, 0] (bodyOf Try.prog 18)
def f18a5 : Ann := subAnn [1, 0, 0] ann18
noncomputable def f18c6 : Code := subCode [1, 0, 1] (bodyOf Try.prog 18)
def f18a6 : Ann := subAnn [1, 0, 1] ann18
noncomputable def f18c7 : Code := subCode [1, 0, 1, 0] (bodyOf Try.prog 18)
def f18a7 : Ann := subAnn [1, 0, 1, 0] ann18
noncomputable def f18c8 : Code := subCode [1, 0, 1, 1] (bodyOf Try.prog 18)
def f18a8 : Ann := subAnn [1, 0, 1, 1] ann18
noncomputable def f18c9 : Code := subCode [1, 0, 1, 0, 0] (bodyOf Try.prog 18)
def f18a9 : Ann := subAnn [1, 0, 1, 0, 0] ann18
noncomputable def f18c10 : Code := subCode [1, 0, 1, 0, 1] (bodyOf Try.prog 18)
def f18a10 : Ann := subAnn [1, 0, 1, 0, 1] ann18
noncomputable def f18c11 : Code := subCode [1, 1, 0] (bodyOf Try.prog 18)
def f18a11 : Ann := subAnn [1, 1, 0] ann18
noncomputable def f18c12 : Code := subCode [1, 1, 1] (bodyOf Try.prog 18)
def f18a12 : Ann := subAnn [1, 1, 1] ann18
def f18e0 (y0 : Option (Nat × Nat)) (y1 : Int) : Env := AV.ptr y0 :: AV.int IntKind.i64 y1 :: Env.sp 23 []
def f18e1 (y0 : Option (Nat × Nat)) (y1 : Int) (y2 : Nat) (y3 : Int) : Env := AV.ptr y0 :: AV.int IntKind.i64 y1 :: Env.sp 2 (AV.ptr (some (y2, (0 : Nat))) :: AV.int IntKind.i64 y3 :: Env.sp 19 [])
def f18e2 (y0 : Option (Nat × Nat)) (y1 : Int) (y2 : Nat) : Env := AV.ptr y0 :: AV.int IntKind.i64 y1 :: Env.sp 2 (AV.ptr (some (y2, (0 : Nat))) :: Env.sp 20 [])
def f18e3 (y0 : Option (Nat × Nat)) (y1 : Int) (y2 : Nat) (y3 : Int) (y4 : Bool) (y5 : Bool) (y6 : Bool) : Env := AV.ptr y0 :: AV.int IntKind.i64 y1 :: Env.sp 2 (AV.ptr (some (y2, (0 : Nat))) :: Env.sp 1 (AV.int IntKind.i64 y3 :: AV.bool y4 :: AV.bool y5 :: AV.tuple [] :: AV.tuple [] :: AV.tuple [] :: AV.tuple [] :: AV.tuple [] :: AV.tuple [] :: AV.tuple [] :: AV.bool y6 :: Env.sp 8 []))
def f18e4 (y0 : Option (Nat × Nat)) (y1 : Int) (y2 : Nat) (y3 : Int) (y4 : Bool) (y5 : Bool) (y6 : Int) (y7 : Option (Nat × Nat)) (y8 : Option (Nat × Nat)) (y9 : Option (Nat × Nat)) (y10 : Option (Nat × Nat)) (y11 : Nat) (y12 : Option Nat) (y13 : Int) (y14 : Bool) (y15 : Bool) : Env := AV.ptr y0 :: AV.int IntKind.i64 y1 :: Env.sp 2 (AV.ptr (some (y2, (0 : Nat))) :: Env.sp 1 (AV.int IntKind.i64 y3 :: AV.bool y4 :: AV.bool y5 :: AV.int IntKind.i64 y6 :: AV.ptr y7 :: AV.ptr y8 :: AV.ptr y9 :: AV.slice y10 y11 y12 (4 : Nat) :: AV.int IntKind.i64 y13 :: AV.bool y14 :: AV.bool y15 :: Env.sp 8 []))
def f18e5 (y0 : Option (Nat × Nat)) (y1 : Int) (y2 : Nat) (y3 : Bool) : Env := AV.ptr y0 :: AV.int IntKind.i64 y1 :: Env.sp 2 (AV.ptr (some (y2, (0 : Nat))) :: Env.sp 11 (AV.bool y3 :: Env.sp 8 []))
def f18e6 (y0 : Option (Nat × Nat)) (y1 : Int) (y2 : Nat) (y3 : Int) (y4 : Bool) (y5 : Int) (y6 : Int) (y7 : Int) (y8 : ByteArray) : Env := AV.ptr y0 :: AV.int IntKind.i64 y1 :: Env.sp 2 (AV.ptr (some (y2, (0 : Nat))) :: AV.int IntKind.i64 y3 :: Env.sp 10 (AV.bool y4 :: AV.agg [AV.int IntKind.i64 y5, AV.int IntKind.i64 y6, AV.int IntKind.i64 y7, AV.str y8] :: Env.sp 7 []))
def f18e7 (y0 : Nat) (y1 : Int) : Env := Env.sp 4 (AV.ptr (some (y0, (0 : Nat))) :: AV.int IntKind.i64 y1 :: Env.sp 19 [])
def f18e8 (y0 : Option (Nat × Nat)) (y1 : Int) (y2 : Nat) (y3 : Int) (y4 : Option (Nat × Nat)) (y5 : Option (Nat × Nat)) (y6 : Option (Nat × Nat)) (y7 : Option (Nat × Nat)) (y8 : Nat) (y9 : Option Nat) (y10 : Int) (y11 : Option (Nat × Nat)) (y12 : Int) (y13 : Int) (y14 : Int) (y15 : ByteArray) : Env := AV.ptr y0 :: AV.int IntKind.i64 y1 :: Env.sp 2 (AV.ptr (some (y2, (0 : Nat))) :: AV.int IntKind.i64 y3 :: Env.sp 12 (AV.ptr y4 :: AV.ptr y5 :: AV.ptr y6 :: AV.slice y7 y8 y9 (4 : Nat) :: AV.int IntKind.i64 y10 :: AV.ptr y11 :: AV.agg [AV.int IntKind.i64 y12, AV.int IntKind.i64 y13, AV.int IntKind.i64 y14, AV.str y15] :: []))

/- function 18 -/
theorem f18_eq {R : Type} (call : CallF R) (N : Nat) (y0 : Option (Nat × Nat)) (y1 : Int) (σ : St) (K : AV → St → Option R) :
    bodyK Try.prog call N ann 18 [AV.ptr y0, AV.int IntKind.i64 y1] σ K = runK Try.prog call N f18c0 f18a0 (bodyC Try.prog f18rs K) (f18e0 y0 y1) σ := bodyK_of (fn := ((Try.prog.funcs[18]?).get rfl)) (by kernel_rfl) (by kernel_rfl) (by kernel_rfl) (by kernel_rfl) (by kernel_rfl) (by kernel_rfl)
theorem f18n0 {R : Type} (call : CallF R) (N : Nat) (J : KF R) (e : Env) (σ : St) : runK Try.prog call N f18c0 f18a0 J e σ = runK Try.prog call N f18c1 f18a1 (seqC (fun K e σ => runK Try.prog call N f18c2 f18a2 K e σ) f18a0 J) e σ := runK_seq' (by kernel_rfl) (by kernel_rfl) (by kernel_rfl)
theorem f18r1_f18e0 {R : Type} (call : CallF R) (N : Nat) (y0 : Option (Nat × Nat)) (y1 : Int) (J : KF R) (σ : St) :
    runK Try.prog call N f18c1 f18a1 J (f18e0 y0 y1) σ =
J Ex.normal (f18e1 y0 y1 (St.next σ) (0 : Int))
  (St.new σ (Blk.cells [AV.int IntKind.i64 (0 : Int), AV.int IntKind.i64 (0 : Int), AV.int IntKind.i64 (0 : Int), AV.str (ByteArray.mk #[])] true)) := hide (by kernel_rfl)
theorem f18z0_f18e1 (y0 : Option (Nat × Nat)) (y1 : Int) (y2 : Nat) (y3 : Int) : Ann.clr f18a0 (f18e1 y0 y1 y2 y3) = f18e2 y0 y1 y2 := hide (by kernel_rfl)
theorem f18n2 {R : Type} (call : CallF R) (N : Nat) (J : KF R) (e : Env) (σ : St) : runK Try.prog call N f18c2 f18a2 J e σ = runK Try.prog call N f18c3 f18a3 (seqC (fun K e σ => runK Try.prog call N f18c4 f18a4 K e σ) f18a2 J) e σ := runK_seq' (by kernel_rfl) (by kernel_rfl) (by kernel_rfl)
theorem f18n3 {R : Type} (call : CallF R) (N : Nat) (J : KF R) (e : Env) (σ : St) : runK Try.prog call N f18c3 f18a3 J e σ = runK Try.prog call N f18c5 f18a5 (seqC (fun K e σ => runK Try.prog call N f18c6 f18a6 K e σ) f18a3 J) e σ := runK_seq' (by kernel_rfl) (by kernel_rfl) (by kernel_rfl)
theorem f18r5_f18e2 {R : Type} (call : CallF R) (N : Nat) (y0 : Option (Nat × Nat)) (y1 : Int) (y2 : Nat) (J : KF R) (σ : St) :
    runK Try.prog call N f18c5 f18a5 J (f18e2 y0 y1 y2) σ =
if decide (y1 < (0 : Int)) = true then J Ex.normal (f18e3 y0 y1 y2 y1 (decide (y1 < (0 : Int))) true true) σ
else
  Option.bind y0 fun v0 =>
    Option.bind (St.ld σ (Prod.fst v0) (Prod.snd v0)) fun v1 =>
      Option.bind (AV.toSl (4 : Nat) v1) fun v2 =>
        J Ex.normal
          (f18e4 y0 y1 y2 y1 (decide (y1 < (0 : Int))) false y1 y0 (some v0) (some (Prod.fst v0, Prod.snd v0)) (Sl.o v2) (Sl.len v2) (Sl.cap v2)
            (↑(Sl.len v2) : Int) (decide (y1 ≥ (↑(Sl.len v2) : Int))) (decide (y1 ≥ (↑(Sl.len v2) : Int))))
          σ := hide (by kernel_rfl)
theorem f18z3_f18e3 (y0 : Option (Nat × Nat)) (y1 : Int) (y2 : Nat) (y3 : Int) (y4 : Bool) (y5 : Bool) (y6 : Bool) : Ann.clr f18a3 (f18e3 y0 y1 y2 y3 y4 y5 y6) = f18e5 y0 y1 y2 y6 := hide (by kernel_rfl)
theorem f18x6_f18e5 {R : Type} (call : CallF R) (N : Nat) (y0 : Option (Nat × Nat)) (y1 : Int) (y2 : Nat) (y3 : Bool) (J : KF R) (σ : St) : runK Try.prog call N f18c6 f18a6 J (f18e5 y0 y1 y2 y3) σ = if y3 = true then runK Try.prog call N f18c7 f18a7 (condC f18a6 J) (f18e5 y0 y1 y2 y3) σ else runK Try.prog call N f18c8 f18a8 (condC f18a6 J) (f18e5 y0 y1 y2 y3) σ := runK_cond' (o := Operand.tmp (16 : Nat)) (by kernel_rfl) (by kernel_rfl) (by kernel_rfl) (by kernel_rfl)
theorem f18n7 {R : Type} (call : CallF R) (N : Nat) (J : KF R) (e : Env) (σ : St) : runK Try.prog call N f18c7 f18a7 J e σ = runK Try.prog call N f18c9 f18a9 (seqC (fun K e σ => runK Try.prog call N f18c10 f18a10 K e σ) f18a7 J) e σ := runK_seq' (by kernel_rfl) (by kernel_rfl) (by kernel_rfl)
theorem f18r9_f18e5 {R : Type} (call : CallF R) (N : Nat) (y0 : Option (Nat × Nat)) (y1 : Int) (y2 : Nat) (y3 : Bool) (J : KF R) (σ : St) :
    runK Try.prog call N f18c9 f18a9 J (f18e5 y0 y1 y2 y3) σ =
Option.bind
  (St.st σ y2 (0 : Nat) [AV.int IntKind.i64 (0 : Int), AV.int IntKind.i64 (0 : Int), AV.int IntKind.i64 (0 : Int), AV.str (ByteArray.mk #[])])
  fun v0 => J Ex.normal (f18e6 y0 y1 y2 (6 : Int) y3 (0 : Int) (0 : Int) (0 : Int) (ByteArray.mk #[])) v0 := hide (by kernel_rfl)
theorem f18z7_f18e6 (y0 : Option (Nat × Nat)) (y1 : Int) (y2 : Nat) (y3 : Int) (y4 : Bool) (y5 : Int) (y6 : Int) (y7 : Int) (y8 : ByteArray) : Ann.clr f18a7 (f18e6 y0 y1 y2 y3 y4 y5 y6 y7 y8) = f18e7 y2 y3 := hide (by kernel_rfl)
theorem f18y10_f18e7 {R : Type} (call : CallF R) (N : Nat) (y0 : Nat) (y1 : Int) (J : KF R) (σ : St) : runK Try.prog call N f18c10 f18a10 J (f18e7 y0 y1) σ = J .ret (f18e7 y0 y1) σ := runK_ret' (by kernel_rfl) (by kernel_rfl)
theorem f18n8 {R : Type} (call : CallF R) (N : Nat) (J : KF R) (e : Env) (σ : St) : runK Try.prog call N f18c8 f18a8 J e σ = J .normal e σ := runK_skip' (by kernel_rfl)
theorem f18z6_f18e5 (y0 : Option (Nat × Nat)) (y1 : Int) (y2 : Nat) (y3 : Bool) : Ann.clr f18a6 (f18e5 y0 y1 y2 y3) = f18e2 y0 y1 y2 := hide (by kernel_rfl)
theorem f18z3_f18e4 (y0 : Option (Nat × Nat)) (y1 : Int) (y2 : Nat) (y3 : Int) (y4 : Bool) (y5 : Bool) (y6 : Int) (y7 : Option (Nat × Nat)) (y8 : Option (Nat × Nat)) (y9 : Option (Nat × Nat)) (y10 : Option (Nat × Nat)) (y11 : Nat) (y12 : Option Nat) (y13 : Int) (y14 : Bool) (y15 : Bool) : Ann.clr f18a3 (f18e4 y0 y1 y2 y3 y4 y5 y6 y7 y8 y9 y10 y11 y12 y13 y14 y15) = f18e5 y0 y1 y2 y15 := hide (by kernel_rfl)
theorem f18z2_f18e2 (y0 : Option (Nat × Nat)) (y1 : Int) (y2 : Nat) : Ann.clr f18a2 (f18e2 y0 y1 y2) = f18e2 y0 y1 y2 := hide (by kernel_rfl)
theorem f18n4 {R : Type} (call : CallF R) (N : Nat) (J : KF R) (e : Env) (σ : St) : runK Try.prog call N f18c4 f18a4 J e σ = runK Try.prog call N f18c11 f18a11 (seqC (fun K e σ => runK Try.prog call N f18c12 f18a12 K e σ) f18a4 J) e σ := runK_seq' (by kernel_rfl) (by kernel_rfl) (by kernel_rfl)
theorem f18r11_f18e2 {R : Type} (call : CallF R) (N : Nat) (y0 : Option (Nat × Nat)) (y1 : Int) (y2 : Nat) (J : KF R) (σ : St) :
    runK Try.prog call N f18c11 f18a11 J (f18e2 y0 y1 y2) σ =
Option.bind y0 fun v0 =>
  Option.bind (St.ld σ (Prod.fst v0) (Prod.snd v0)) fun v1 =>
    Option.bind (AV.toSl (4 : Nat) v1) fun v2 =>
      if (0 : Int) ≤ y1 ∧ y1 < (↑(Sl.len v2) : Int) then
        Option.bind (Sl.o v2) fun v3 =>
          Option.bind (St.ld σ (Prod.fst v3) (Prod.snd v3 + Int.toNat y1 * (4 : Nat))) fun v4 =>
            Option.bind (AV.toInt IntKind.i64 v4) fun v5 =>
              Option.bind (St.ld σ (Prod.fst v3) (Prod.snd v3 + Int.toNat y1 * (4 : Nat) + (1 : Nat))) fun v6 =>
                Option.bind (AV.toInt IntKind.i64 v6) fun v7 =>
                  Option.bind (St.ld σ (Prod.fst v3) (Prod.snd v3 + Int.toNat y1 * (4 : Nat) + (2 : Nat))) fun v8 =>
                    Option.bind (AV.toInt IntKind.i64 v8) fun v9 =>
                      Option.bind (St.ld σ (Prod.fst v3) (Prod.snd v3 + Int.toNat y1 * (4 : Nat) + (3 : Nat))) fun v10 =>
                        Option.bind (AV.toStr v10) fun v11 =>
                          Option.bind (St.st σ y2 (0 : Nat) [AV.int IntKind.i64 v5, AV.int IntKind.i64 v7, AV.int IntKind.i64 v9, AV.str v11])
                            fun v12 =>
                            J Ex.normal
                              (f18e8 y0 y1 y2 (0 : Int) y0 (some v0) (some (Prod.fst v0, Prod.snd v0)) (Sl.o v2) (Sl.len v2) (Sl.cap v2) y1
                                (some (Prod.fst v3, Prod.snd v3 + Int.toNat y1 * (4 : Nat))) v5 v7 v9 v11)
                              v12
      else none := hide (by kernel_rfl)
theorem f18z4_f18e8 (y0 : Option (Nat × Nat)) (y1 : Int) (y2 : Nat) (y3 : Int) (y4 : Option (Nat × Nat)) (y5 : Option (Nat × Nat)) (y6 : Option (Nat × Nat)) (y7 : Option (Nat × Nat)) (y8 : Nat) (y9 : Option Nat) (y10 : Int) (y11 : Option (Nat × Nat)) (y12 : Int) (y13 : Int) (y14 : Int) (y15 : ByteArray) : Ann.clr f18a4 (f18e8 y0 y1 y2 y3 y4 y5 y6 y7 y8 y9 y10 y11 y12 y13 y14 y15) = f18e7 y2 y3 := hide (by kernel_rfl)
theorem f18y12_f18e7 {R : Type} (call : CallF R) (N : Nat) (y0 : Nat) (y1 : Int) (J : KF R) (σ : St) : runK Try.prog call N f18c12 f18a12 J (f18e7 y0 y1) σ = J .ret (f18e7 y0 y1) σ := runK_ret' (by kernel_rfl) (by kernel_rfl)
theorem f18b_f18e7_r {R : Type} (y0 : Nat) (y1 : Int) (σ : St) (K : AV → St → Option R) : bodyC Try.prog f18rs K (Ex.ret) (f18e7 y0 y1) σ =
Option.bind (St.ld σ y0 (0 : Nat)) fun v0 =>
  Option.bind (AV.toInt IntKind.i64 v0) fun v1 =>
    Option.bind (St.ld σ y0 (1 : Nat)) fun v2 =>
      Option.bind (AV.toInt IntKind.i64 v2) fun v3 =>
        Option.bind (St.ld σ y0 (2 : Nat)) fun v4 =>
          Option.bind (AV.toInt IntKind.i64 v4) fun v5 =>
            Option.bind (St.ld σ y0 (3 : Nat)) fun v6 =>
              Option.bind (AV.toStr v6) fun v7 =>
                K (AV.tuple [AV.agg [AV.int IntKind.i64 v1, AV.int IntKind.i64 v3, AV.int IntKind.i64 v5, AV.str v7], AV.int IntKind.i64 y1]) σ := hide (by kernel_rfl)
attribute [go_sem] f18_eq f18n0 f18r1_f18e0 f18z0_f18e1 f18n2 f18n3 f18r5_f18e2 f18z3_f18e3 f18x6_f18e5 f18n7 f18r9_f18e5 f18z7_f18e6 f18y10_f18e7 f18n8 f18z6_f18e5 f18z3_f18e4 f18z2_f18e2 f18n4 f18r11_f18e2 f18z4_f18e8 f18y12_f18e7 f18b_f18e7_r

noncomputable def f19rs : List ResultVar := [ResultVar.cell (2 : Nat) (47 : Nat)]
noncomputable def f19c0 : Code := subCode [] (bodyOf Try.prog 19)
def f19a0 : Ann := subAnn [] ann19
noncomputable def f19c1 : Code := subCode [0] (bodyOf Try.prog 19)
def f19a1 : Ann := subAnn [0] ann19
noncomputable def f19c2 : Code := subCode [1] (bodyOf Try.prog 19)
def f19a2 : Ann := subAnn [1] ann19
noncomputable def f19c3 : Code := subCode [1, 0] (bodyOf Try.prog 19)
def f19a3 : Ann := subAnn [1, 0] ann19
noncomputable def f19c4 : Code := subCode [1, 1] (bodyOf Try.prog 19)
def f19a4 : Ann := subAnn [1, 1] ann19
def f19e0 (y0 : Int) (y1 : Int) (y2 : Int) (y3 : ByteArray) : Env := AV.agg [AV.int IntKind.i64 y0, AV.int IntKind.i64 y1, AV.int IntKind.i64 y2, AV.str y3] :: Env.sp 11 []
def f19e1 (y0 : Int) (y1 : Int) (y2 : Int) (y3 : ByteArray) (y4 : Nat) (y5 : Nat) : Env := AV.agg [AV.int IntKind.i64 y0, AV.int IntKind.i64 y1, AV.int IntKind.i64 y2, AV.str y3] :: AV.ptr (some (y4, (0 : Nat))) :: AV.ptr (some (y5, (0 : Nat))) :: Env.sp 9 []
def f19e2 (y0 : Nat) (y1 : Nat) : Env := Env.sp 1 (AV.ptr (some (y0, (0 : Nat))) :: AV.ptr (some (y1, (0 : Nat))) :: Env.sp 9 [])
def f19e3 (y0 : Nat) (y1 : Nat) (y2 : Nat) (y3 : Int) (y4 : Nat) (y5 : Int) (y6 : Nat) (y7 : Int) (y8 : Nat) (y9 : ByteArray) (y10 : Int) (y11 : Int) (y12 : Int) (y13 : ByteArray) : Env := Env.sp 1 (AV.ptr (some (y0, (0 : Nat))) :: AV.ptr (some (y1, (0 : Nat))) :: AV.ptr (some (y2, (0 : Nat))) :: AV.int IntKind.i64 y3 :: AV.ptr (some (y4, (1 : Nat))) :: AV.int IntKind.i64 y5 :: AV.ptr (some (y6, (2 : Nat))) :: AV.int IntKind.i64 y7 :: AV.ptr (some (y8, (3 : Nat))) :: AV.str y9 :: AV.agg [AV.int IntKind.i64 y10, AV.int IntKind.i64 y11, AV.int IntKind.i64 y12, AV.str y13] :: [])
def f19e4 (y0 : Nat) : Env := Env.sp 2 (AV.ptr (some (y0, (0 : Nat))) :: Env.sp 9 [])

/- function 19 -/
theorem f19_eq {R : Type} (call : CallF R) (N : Nat) (y0 : Int) (y1 : Int) (y2 : Int) (y3 : ByteArray) (σ : St) (K : AV → St → Option R) :
    bodyK Try.prog call N ann 19 [AV.agg [AV.int IntKind.i64 y0, AV.int IntKind.i64 y1, AV.int IntKind.i64 y2, AV.str y3]] σ K = runK Try.prog call N f19c0 f19a0 (bodyC Try.prog f19rs K) (f19e0 y0 y1 y2 y3) σ := bodyK_of (fn := ((Try.prog.funcs[19]?).get rfl)) (by kernel_rfl) (by kernel_rfl) (by kernel_rfl) (by kernel_rfl) (by kernel_rfl) (by kernel_rfl)
theorem f19n0 {R : Type} (call : CallF R) (N : Nat) (J : KF R) (e : Env) (σ : St) : runK Try.prog call N f19c0 f19a0 J e σ = runK Try.prog call N f19c1 f19a1 (seqC (fun K e σ => runK Try.prog call N f19c2 f19a2 K e σ) f19a0 J) e σ := runK_seq' (by kernel_rfl) (by kernel_rfl) (by kernel_rfl)
theorem f19r1_f19e0 {R : Type} (call : CallF R) (N : Nat) (y0 : Int) (y1 : Int) (y2 : Int) (y3 : ByteArray) (J : KF R) (σ : St) :
    runK Try.prog call N f19c1 f19a1 J (f19e0 y0 y1 y2 y3) σ =
J Ex.normal
  (f19e1 y0 y1 y2 y3 (St.next σ)
    (St.next (St.new σ (Blk.cells [AV.int IntKind.i64 y0, AV.int IntKind.i64 y1, AV.int IntKind.i64 y2, AV.str y3] true))))
  (St.new (St.new σ (Blk.cells [AV.int IntKind.i64 y0, AV.int IntKind.i64 y1, AV.int IntKind.i64 y2, AV.str y3] true))
    (Blk.cells [AV.int IntKind.i64 (0 : Int), AV.int IntKind.i64 (0 : Int), AV.int IntKind.i64 (0 : Int), AV.str (ByteArray.mk #[])] true)) := hide (by kernel_rfl)
theorem f19z0_f19e1 (y0 : Int) (y1 : Int) (y2 : Int) (y3 : ByteArray) (y4 : Nat) (y5 : Nat) : Ann.clr f19a0 (f19e1 y0 y1 y2 y3 y4 y5) = f19e2 y4 y5 := hide (by kernel_rfl)
theorem f19n2 {R : Type} (call : CallF R) (N : Nat) (J : KF R) (e : Env) (σ : St) : runK Try.prog call N f19c2 f19a2 J e σ = runK Try.prog call N f19c3 f19a3 (seqC (fun K e σ => runK Try.prog call N f19c4 f19a4 K e σ) f19a2 J) e σ := runK_seq' (by kernel_rfl) (by kernel_rfl) (by kernel_rfl)
theorem f19r3_f19e2 {R : Type} (call : CallF R) (N : Nat) (y0 : Nat) (y1 : Nat) (J : KF R) (σ : St) :
    runK Try.prog call N f19c3 f19a3 J (f19e2 y0 y1) σ =
Option.bind (St.ld σ y0 (0 : Nat)) fun v0 =>
  Option.bind (AV.toInt IntKind.i64 v0) fun v1 =>
    Option.bind (St.ld σ y0 (1 : Nat)) fun v2 =>
      Option.bind (AV.toInt IntKind.i64 v2) fun v3 =>
        Option.bind (St.ld σ y0 (2 : Nat)) fun v4 =>
          Option.bind (AV.toInt IntKind.i64 v4) fun v5 =>
            Option.bind (St.ld σ y0 (3 : Nat)) fun v6 =>
              Option.bind (AV.toStr v6) fun v7 =>
                Option.bind (St.st σ y1 (0 : Nat) [AV.int IntKind.i64 v1, AV.int IntKind.i64 v3, AV.int IntKind.i64 v5, AV.str v7]) fun v8 =>
                  J Ex.normal (f19e3 y0 y1 y0 v1 y0 v3 y0 v5 y0 v7 v1 v3 v5 v7) v8 := hide (by kernel_rfl)
theorem f19z2_f19e3 (y0 : Nat) (y1 : Nat) (y2 : Nat) (y3 : Int) (y4 : Nat) (y5 : Int) (y6 : Nat) (y7 : Int) (y8 : Nat) (y9 : ByteArray) (y10 : Int) (y11 : Int) (y12 : Int) (y13 : ByteArray) : Ann.clr f19a2 (f19e3 y0 y1 y2 y3 y4 y5 y6 y7 y8 y9 y10 y11 y12 y13) = f19e4 y1 := hide (by kernel_rfl)
theorem f19y4_f19e4 {R : Type} (call : CallF R) (N : Nat) (y0 : Nat) (J : KF R) (σ : St) : runK Try.prog call N f19c4 f19a4 J (f19e4 y0) σ = J .ret (f19e4 y0) σ := runK_ret' (by kernel_rfl) (by kernel_rfl)
theorem f19b_f19e4_r {R : Type} (y0 : Nat) (σ : St) (K : AV → St → Option R) : bodyC Try.prog f19rs K (Ex.ret) (f19e4 y0) σ =
Option.bind (St.ld σ y0 (0 : Nat)) fun v0 =>
  Option.bind (AV.toInt IntKind.i64 v0) fun v1 =>
    Option.bind (St.ld σ y0 (1 : Nat)) fun v2 =>
      Option.bind (AV.toInt IntKind.i64 v2) fun v3 =>
        Option.bind (St.ld σ y0 (2 : Nat)) fun v4 =>
          Option.bind (AV.toInt IntKind.i64 v4) fun v5 =>
            Option.bind (St.ld σ y0 (3 : Nat)) fun v6 =>
              Option.bind (AV.toStr v6) fun v7 => K (AV.agg [AV.int IntKind.i64 v1, AV.int IntKind.i64 v3, AV.int IntKind.i64 v5, AV.str v7]) σ := hide (by kernel_rfl)
attribute [go_sem] f19_eq f19n0 f19r1_f19e0 f19z0_f19e1 f19n2 f19r3_f19e2 f19z2_f19e3 f19y4_f19e4 f19b_f19e4_r

noncomputable def f22rs : List ResultVar := [ResultVar.tmp (4 : Nat)]
noncomputable def f22c0 : Code := subCode [] (bodyOf Try.prog 22)
def f22a0 : Ann := subAnn [] ann22
noncomputable def f22c1 : Code := subCode [0] (bodyOf Try.prog 22)
def f22a1 : Ann := subAnn [0] ann22
noncomputable def f22c2 : Code := subCode [1] (bodyOf Try.prog 22)
def f22a2 : Ann := subAnn [1] ann22
noncomputable def f22c3 : Code := subCode [1, 0] (bodyOf Try.prog 22)
def f22a3 : Ann := subAnn [1, 0] ann22
noncomputable def f22c4 : Code := subCode [1, 1] (bodyOf Try.prog 22)
def f22a4 : Ann := subAnn [1, 1] ann22
noncomputable def f22c5 : Code := subCode [1, 0, 0] (bodyOf Try.prog 22)
def f22a5 : Ann := subAnn [1, 0, 0] ann22
noncomputable def f22c6 : Code := subCode [1, 0, 1] (bodyOf Try.prog 22)
def f22a6 : Ann := subAnn [1, 0, 1] ann22
noncomputable def f22c7 : Code := subCode [1, 0, 1, 0] (bodyOf Try.prog 22)
def f22a7 : Ann := subAnn [1, 0, 1, 0] ann22
noncomputable def f22c8 : Code := subCode [1, 0, 1, 1] (bodyOf Try.prog 22)
def f22a8 : Ann := subAnn [1, 0, 1, 1] ann22
noncomputable def f22c9 : Code := subCode [1, 0, 1, 0, 0] (bodyOf Try.prog 22)
def f22a9 : Ann := subAnn [1, 0, 1, 0, 0] ann22
noncomputable def f22c10 : Code := subCode [1, 0, 1, 0, 1] (bodyOf Try.prog 22)
def f22a10 : Ann := subAnn [1, 0, 1, 0, 1] ann22
noncomputable def f22c11 : Code := subCode [1, 1, 0] (bodyOf Try.prog 22)
def f22a11 : Ann := subAnn [1, 1, 0] ann22
noncomputable def f22c12 : Code := subCode [1, 1, 1] (bodyOf Try.prog 22)
def f22a12 : Ann := subAnn [1, 1, 1] ann22
noncomputable def f22c13 : Code := subCode [1, 1, 0, 0] (bodyOf Try.prog 22)
def f22a13 : Ann := subAnn [1, 1, 0, 0] ann22
noncomputable def f22c14 : Code := subCode [1, 1, 0, 1] (bodyOf Try.prog 22)
def f22a14 : Ann := subAnn [1, 1, 0, 1] ann22
noncomputable def f22c15 : Code := subCode [1, 1, 0, 1, 0] (bodyOf Try.prog 22)
def f22a15 : Ann := subAnn [1, 1, 0, 1, 0] ann22
noncomputable def f22c16 : Code := subCode [1, 1, 0, 1, 1] (bodyOf Try.prog 22)
def f22a16 : Ann := subAnn [1, 1, 0, 1, 1] ann22
noncomputable def f22c17 : Code := subCode [1, 1, 0, 1, 0, 0] (bodyOf Try.prog 22)
def f22a17 : Ann := subAnn [1, 1, 0, 1, 0, 0] ann22
noncomputable def f22c18 : Code := subCode [1, 1, 0, 1, 0, 1] (bodyOf Try.prog 22)
def f22a18 : Ann := subAnn [1, 1, 0, 1, 0, 1] ann22
noncomputable def f22c19 : Code := subCode [1, 1, 1, 0] (bodyOf Try.prog 22)
def f22a19 : Ann := subAnn [1, 1, 1, 0] ann22
noncomputable def f22c20 : Code := subCode [1, 1, 1, 1] (bodyOf Try.prog 22)
def f22a20 : Ann := subAnn [1, 1, 1, 1] ann22
noncomputable def f22c21 : Code := subCode [1, 1, 1, 0, 0] (bodyOf Try.prog 22)
def f22a21 : Ann := subAnn [1, 1, 1, 0, 0] ann22
noncomputable def f22c22 : Code := subCode [1, 1, 1, 0, 1] (bodyOf Try.prog 22)
def f22a22 : Ann := subAnn [1, 1, 1, 0, 1] ann22
noncomputable def f22c23 : Code := subCode [1, 1, 1, 0, 1, 0] (bodyOf Try.prog 22)
def f22a23 : Ann := subAnn [1, 1, 1, 0, 1, 0] ann22
noncomputable def f22c24 : Code := subCode [1, 1, 1, 0, 1, 1] (bodyOf Try.prog 22)
def f22a24 : Ann := subAnn [1, 1, 1, 0, 1, 1] ann22
noncomputable def f22c25 : Code := subCode [1, 1, 1, 0, 1, 0, 0] (bodyOf Try.prog 22)
def f22a25 : Ann := subAnn [1, 1, 1, 0, 1, 0, 0] ann22
noncomputable def f22c26 : Code := subCode [1, 1, 1, 0, 1, 0, 1] (bodyOf Try.prog 22)
def f22a26 : Ann := subAnn [1, 1, 1, 0, 1, 0, 1] ann22
noncomputable def f22c27 : Code := subCode [1, 1, 1, 0, 1, 0, 1, 0] (bodyOf Try.prog 22)
def f22a27 : Ann := subAnn [1, 1, 1, 0, 1, 0, 1, 0] ann22
noncomputable def f22c28 : Code := subCode [1, 1, 1, 0, 1, 0, 1, 1] (bodyOf Try.prog 22)
def f22a28 : Ann := subAnn [1, 1, 1, 0, 1, 0, 1, 1] ann22
noncomputable def f22c29 : Code := subCode [1, 1, 1, 1, 0] (bodyOf Try.prog 22)
def f22a29 : Ann := subAnn [1, 1, 1, 1, 0] ann22
noncomputable def f22c30 : Code := subCode [1, 1, 1, 1, 1] (bodyOf Try.prog 22)
def f22a30 : Ann := subAnn [1, 1, 1, 1, 1] ann22
noncomputable def f22c31 : Code := subCode [1, 1, 1, 1, 1, 0] (bodyOf Try.prog 22)
def f22a31 : Ann := subAnn [1, 1, 1, 1, 1, 0] ann22
noncomputable def f22c32 : Code := subCode [1, 1, 1, 1, 1, 1] (bodyOf Try.prog 22)
def f22a32 : Ann := subAnn [1, 1, 1, 1, 1, 1] ann22
def f22e0 (y0 : Option (Nat × Nat)) (y1 : Int) (y2 : Int) (y3 : Int) (y4 : ByteArray) : Env := AV.ptr y0 :: AV.agg [AV.int IntKind.i64 y1, AV.int IntKind.i64 y2, AV.int IntKind.i64 y3, AV.str y4] :: Env.sp 54 []
def f22e1 (y0 : Option (Nat × Nat)) (y1 : Int) (y2 : Int) (y3 : Int) (y4 : ByteArray) (y5 : Nat) (y6 : Int) : Env := AV.ptr y0 :: AV.agg [AV.int IntKind.i64 y1, AV.int IntKind.i64 y2, AV.int IntKind.i64 y3, AV.str y4] :: Env.sp 1 (AV.ptr (some (y5, (0 : Nat))) :: AV.int IntKind.i64 y6 :: Env.sp 51 [])
def f22e2 (y0 : Option (Nat × Nat)) (y1 : Nat) : Env := AV.ptr y0 :: Env.sp 2 (AV.ptr (some (y1, (0 : Nat))) :: Env.sp 52 [])
def f22e3 (y0 : Option (Nat × Nat)) (y1 : Nat) (y2 : Nat) (y3 : Int) (y4 : Bool) (y5 : Bool) (y6 : Bool) (y7 : Bool) (y8 : Bool) (y9 : Bool) (y10 : Bool) (y11 : Bool) (y12 : Bool) : Env := AV.ptr y0 :: Env.sp 2 (AV.ptr (some (y1, (0 : Nat))) :: Env.sp 1 (AV.ptr (some (y2, (0 : Nat))) :: AV.int IntKind.i64 y3 :: AV.bool y4 :: AV.bool y5 :: AV.tuple [] :: AV.tuple [] :: AV.tuple [] :: AV.bool y6 :: AV.bool y7 :: AV.tuple [] :: AV.tuple [] :: AV.tuple [] :: AV.bool y8 :: AV.bool y9 :: AV.tuple [] :: AV.tuple [] :: AV.tuple [] :: AV.bool y10 :: AV.bool y11 :: AV.tuple [] :: AV.tuple [] :: AV.tuple [] :: AV.bool y12 :: Env.sp 28 []))
def f22e4 (y0 : Option (Nat × Nat)) (y1 : Nat) (y2 : Nat) (y3 : Int) (y4 : Bool) (y5 : Bool) (y6 : Nat) (y7 : Int) (y8 : Bool) (y9 : Bool) (y10 : Bool) (y11 : Bool) (y12 : Bool) (y13 : Bool) (y14 : Bool) (y15 : Bool) : Env := AV.ptr y0 :: Env.sp 2 (AV.ptr (some (y1, (0 : Nat))) :: Env.sp 1 (AV.ptr (some (y2, (0 : Nat))) :: AV.int IntKind.i64 y3 :: AV.bool y4 :: AV.bool y5 :: AV.ptr (some (y6, (0 : Nat))) :: AV.int IntKind.i64 y7 :: AV.bool y8 :: AV.bool y9 :: AV.bool y10 :: AV.tuple [] :: AV.tuple [] :: AV.tuple [] :: AV.bool y11 :: AV.bool y12 :: AV.tuple [] :: AV.tuple [] :: AV.tuple [] :: AV.bool y13 :: AV.bool y14 :: AV.tuple [] :: AV.tuple [] :: AV.tuple [] :: AV.bool y15 :: Env.sp 28 []))
def f22e5 (y0 : Option (Nat × Nat)) (y1 : Nat) (y2 : Nat) (y3 : Int) (y4 : Bool) (y5 : Bool) (y6 : Nat) (y7 : Int) (y8 : Bool) (y9 : Bool) (y10 : Bool) (y11 : Nat) (y12 : Int) (y13 : Bool) (y14 : Bool) (y15 : Bool) (y16 : Bool) (y17 : Bool) (y18 : Bool) : Env := AV.ptr y0 :: Env.sp 2 (AV.ptr (some (y1, (0 : Nat))) :: Env.sp 1 (AV.ptr (some (y2, (0 : Nat))) :: AV.int IntKind.i64 y3 :: AV.bool y4 :: AV.bool y5 :: AV.ptr (some (y6, (0 : Nat))) :: AV.int IntKind.i64 y7 :: AV.bool y8 :: AV.bool y9 :: AV.bool y10 :: AV.ptr (some (y11, (1 : Nat))) :: AV.int IntKind.i64 y12 :: AV.bool y13 :: AV.bool y14 :: AV.bool y15 :: AV.tuple [] :: AV.tuple [] :: AV.tuple [] :: AV.bool y16 :: AV.bool y17 :: AV.tuple [] :: AV.tuple [] :: AV.tuple [] :: AV.bool y18 :: Env.sp 28 []))
def f22e6 (y0 : Option (Nat × Nat)) (y1 : Nat) (y2 : Nat) (y3 : Int) (y4 : Bool) (y5 : Bool) (y6 : Nat) (y7 : Int) (y8 : Bool) (y9 : Bool) (y10 : Bool) (y11 : Nat) (y12 : Int) (y13 : Bool) (y14 : Bool) (y15 : Bool) (y16 : Nat) (y17 : Int) (y18 : Bool) (y19 : Bool) (y20 : Bool) (y21 : Bool) : Env := AV.ptr y0 :: Env.sp 2 (AV.ptr (some (y1, (0 : Nat))) :: Env.sp 1 (AV.ptr (some (y2, (0 : Nat))) :: AV.int IntKind.i64 y3 :: AV.bool y4 :: AV.bool y5 :: AV.ptr (some (y6, (0 : Nat))) :: AV.int IntKind.i64 y7 :: AV.bool y8 :: AV.bool y9 :: AV.bool y10 :: AV.ptr (some (y11, (1 : Nat))) :: AV.int IntKind.i64 y12 :: AV.bool y13 :: AV.bool y14 :: AV.bool y15 :: AV.ptr (some (y16, (1 : Nat))) :: AV.int IntKind.i64 y17 :: AV.bool y18 :: AV.bool y19 :: AV.bool y20 :: AV.tuple [] :: AV.tuple [] :: AV.tuple [] :: AV.bool y21 :: Env.sp 28 []))
def f22e7 (y0 : Option (Nat × Nat)) (y1 : Nat) (y2 : Nat) (y3 : Int) (y4 : Bool) (y5 : Bool) (y6 : Nat) (y7 : Int) (y8 : Bool) (y9 : Bool) (y10 : Bool) (y11 : Nat) (y12 : Int) (y13 : Bool) (y14 : Bool) (y15 : Bool) (y16 : Nat) (y17 : Int) (y18 : Bool) (y19 : Bool) (y20 : Bool) (y21 : Nat) (y22 : Int) (y23 : Bool) (y24 : Bool) : Env := AV.ptr y0 :: Env.sp 2 (AV.ptr (some (y1, (0 : Nat))) :: Env.sp 1 (AV.ptr (some (y2, (0 : Nat))) :: AV.int IntKind.i64 y3 :: AV.bool y4 :: AV.bool y5 :: AV.ptr (some (y6, (0 : Nat))) :: AV.int IntKind.i64 y7 :: AV.bool y8 :: AV.bool y9 :: AV.bool y10 :: AV.ptr (some (y11, (1 : Nat))) :: AV.int IntKind.i64 y12 :: AV.bool y13 :: AV.bool y14 :: AV.bool y15 :: AV.ptr (some (y16, (1 : Nat))) :: AV.int IntKind.i64 y17 :: AV.bool y18 :: AV.bool y19 :: AV.bool y20 :: AV.ptr (some (y21, (2 : Nat))) :: AV.int IntKind.i64 y22 :: AV.bool y23 :: AV.bool y24 :: Env.sp 28 []))
def f22e8 (y0 : Option (Nat × Nat)) (y1 : Nat) (y2 : Bool) : Env := AV.ptr y0 :: Env.sp 2 (AV.ptr (some (y1, (0 : Nat))) :: Env.sp 23 (AV.bool y2 :: Env.sp 28 []))
def f22e9 (y0 : Option (Nat × Nat)) (y1 : Nat) (y2 : Int) (y3 : Bool) : Env := AV.ptr y0 :: Env.sp 2 (AV.ptr (some (y1, (0 : Nat))) :: AV.int IntKind.i64 y2 :: Env.sp 22 (AV.bool y3 :: Env.sp 28 []))
def f22e10 (y0 : Int) : Env := Env.sp 4 (AV.int IntKind.i64 y0 :: Env.sp 51 [])
def f22e11 (y0 : Option (Nat × Nat)) (y1 : Nat) (y2 : Nat) (y3 : ByteArray) (y4 : Int) (y5 : Bool) : Env := AV.ptr y0 :: Env.sp 2 (AV.ptr (some (y1, (0 : Nat))) :: Env.sp 24 (AV.ptr (some (y2, (3 : Nat))) :: AV.str y3 :: AV.int IntKind.i64 y4 :: AV.bool y5 :: Env.sp 24 []))
def f22e12 (y0 : Option (Nat × Nat)) (y1 : Nat) (y2 : Bool) : Env := AV.ptr y0 :: Env.sp 2 (AV.ptr (some (y1, (0 : Nat))) :: Env.sp 27 (AV.bool y2 :: Env.sp 24 []))
def f22e13 (y0 : Option (Nat × Nat)) (y1 : Nat) (y2 : Int) (y3 : Bool) : Env := AV.ptr y0 :: Env.sp 2 (AV.ptr (some (y1, (0 : Nat))) :: AV.int IntKind.i64 y2 :: Env.sp 26 (AV.bool y3 :: Env.sp 24 []))
def f22e14 (y0 : Option (Nat × Nat)) (y1 : Nat) (y2 : Option (Nat × Nat)) (y3 : Option (Nat × Nat)) (y4 : Option (Nat × Nat)) (y5 : Option (Nat × Nat)) (y6 : Nat) (y7 : Option Nat) (y8 : Int) (y9 : Bool) : Env := AV.ptr y0 :: Env.sp 2 (AV.ptr (some (y1, (0 : Nat))) :: Env.sp 28 (AV.ptr y2 :: AV.ptr y3 :: AV.ptr y4 :: AV.slice y5 y6 y7 (4 : Nat) :: AV.int IntKind.i64 y8 :: AV.bool y9 :: Env.sp 18 []))
def f22e15 (y0 : Option (Nat × Nat)) (y1 : Nat) (y2 : Bool) : Env := AV.ptr y0 :: Env.sp 2 (AV.ptr (some (y1, (0 : Nat))) :: Env.sp 33 (AV.bool y2 :: Env.sp 18 []))
def f22e16 (y0 : Option (Nat × Nat)) (y1 : Nat) (y2 : Bool) (y3 : Option (Nat × Nat)) (y4 : Option (Nat × Nat)) (y5 : Option (Nat × Nat)) (y6 : Option (Nat × Nat)) (y7 : Int) (y8 : Int) (y9 : Option (Nat × Nat)) (y10 : Option (Nat × Nat)) : Env := AV.ptr y0 :: Env.sp 2 (AV.ptr (some (y1, (0 : Nat))) :: Env.sp 33 (AV.bool y2 :: AV.ptr y3 :: AV.ptr y4 :: AV.ptr y5 :: AV.ptr y6 :: AV.int IntKind.i64 y7 :: AV.int IntKind.i64 y8 :: AV.ptr y9 :: AV.ptr y10 :: Env.sp 10 []))
def f22e17 : Env := Env.sp 56 []
def f22e18 (y0 : Option (Nat × Nat)) (y1 : Nat) (y2 : Option (Nat × Nat)) (y3 : Option (Nat × Nat)) (y4 : Option (Nat × Nat)) (y5 : Option (Nat × Nat)) (y6 : Option (Nat × Nat)) (y7 : Nat) (y8 : Option Nat) (y9 : Int) (y10 : Int) (y11 : Int) (y12 : ByteArray) (y13 : Option (Nat × Nat)) (y14 : Nat) (y15 : Option Nat) (y16 : Option (Nat × Nat)) (y17 : Nat) (y18 : Option Nat) (y19 : Option (Nat × Nat)) (y20 : Option (Nat × Nat)) : Env := AV.ptr y0 :: Env.sp 2 (AV.ptr (some (y1, (0 : Nat))) :: Env.sp 42 (AV.ptr y2 :: AV.ptr y3 :: AV.ptr y4 :: AV.ptr y5 :: AV.slice y6 y7 y8 (4 : Nat) :: AV.agg [AV.int IntKind.i64 y9, AV.int IntKind.i64 y10, AV.int IntKind.i64 y11, AV.str y12] :: AV.slice y13 y14 y15 (4 : Nat) :: AV.slice y16 y17 y18 (4 : Nat) :: AV.ptr y19 :: AV.ptr y20 :: []))

/- function 22 -/
theorem f22_eq {R : Type} (call : CallF R) (N : Nat) (y0 : Option (Nat × Nat)) (y1 : Int) (y2 : Int) (y3 : Int) (y4 : ByteArray) (σ : St) (K : AV → St → Option R) :
    bodyK Try.prog call N ann 22 [AV.ptr y0, AV.agg [AV.int IntKind.i64 y1, AV.int IntKind.i64 y2, AV.int IntKind.i64 y3, AV.str y4]] σ K = runK Try.prog call N f22c0 f22a0 (bodyC Try.prog f22rs K) (f22e0 y0 y1 y2 y3 y4) σ := bodyK_of (fn := ((Try.prog.funcs[22]?).get rfl)) (by kernel_rfl) (by kernel_rfl) (by kernel_rfl) (by kernel_rfl) (by kernel_rfl) (by kernel_rfl)
theorem f22n0 {R : Type} (call : CallF R) (N : Nat) (J : KF R) (e : Env) (σ : St) : runK Try.prog call N f22c0 f22a0 J e σ = runK Try.prog call N f22c1 f22a1 (seqC (fun K e σ => runK Try.prog call N f22c2 f22a2 K e σ) f22a0 J) e σ := runK_seq' (by kernel_rfl) (by kernel_rfl) (by kernel_rfl)
theorem f22r1_f22e0 {R : Type} (call : CallF R) (N : Nat) (y0 : Option (Nat × Nat)) (y1 : Int) (y2 : Int) (y3 : Int) (y4 : ByteArray) (J : KF R) (σ : St) :
    runK Try.prog call N f22c1 f22a1 J (f22e0 y0 y1 y2 y3 y4) σ =
J Ex.normal (f22e1 y0 y1 y2 y3 y4 (St.next σ) (0 : Int))
  (St.new σ (Blk.cells [AV.int IntKind.i64 y1, AV.int IntKind.i64 y2, AV.int IntKind.i64 y3, AV.str y4] true)) := hide (by kernel_rfl)
theorem f22z0_f22e1 (y0 : Option (Nat × Nat)) (y1 : Int) (y2 : Int) (y3 : Int) (y4 : ByteArray) (y5 : Nat) (y6 : Int) : Ann.clr f22a0 (f22e1 y0 y1 y2 y3 y4 y5 y6) = f22e2 y0 y5 := hide (by kernel_rfl)
theorem f22n2 {R : Type} (call : CallF R) (N : Nat) (J : KF R) (e : Env) (σ : St) : runK Try.prog call N f22c2 f22a2 J e σ = runK Try.prog call N f22c3 f22a3 (seqC (fun K e σ => runK Try.prog call N f22c4 f22a4 K e σ) f22a2 J) e σ := runK_seq' (by kernel_rfl) (by kernel_rfl) (by kernel_rfl)
theorem f22n3 {R : Type} (call : CallF R) (N : Nat) (J : KF R) (e : Env) (σ : St) : runK Try.prog call N f22c3 f22a3 J e σ = runK Try.prog call N f22c5 f22a5 (seqC (fun K e σ => runK Try.prog call N f22c6 f22a6 K e σ) f22a3 J) e σ := runK_seq' (by kernel_rfl) (by kernel_rfl) (by kernel_rfl)
theorem f22r5_f22e2 {R : Type} (call : CallF R) (N : Nat) (y0 : Option (Nat × Nat)) (y1 : Nat) (J : KF R) (σ : St) :
    runK Try.prog call N f22c5 f22a5 J (f22e2 y0 y1) σ =
Option.bind (St.ld σ y1 (0 : Nat)) fun v0 =>
  Option.bind (AV.toInt IntKind.i64 v0) fun v1 =>
    if decide (v1 < (0 : Int)) = true then J Ex.normal (f22e3 y0 y1 y1 v1 (decide (v1 < (0 : Int))) true true true true true true true true) σ
    else
      Option.bind (St.ld σ y1 (0 : Nat)) fun v2 =>
        Option.bind (AV.toInt IntKind.i64 v2) fun v3 =>
          if decide (v3 > (63 : Int)) = true then
            J Ex.normal
              (f22e4 y0 y1 y1 v1 (decide (v1 < (0 : Int))) false y1 v3 (decide (v3 > (63 : Int))) (decide (v3 > (63 : Int))) true true true true true
                true)
              σ
          else
            Option.bind (St.ld σ y1 (1 : Nat)) fun v4 =>
              Option.bind (AV.toInt IntKind.i64 v4) fun v5 =>
                if decide (v5 < (0 : Int)) = true then
                  J Ex.normal
                    (f22e5 y0 y1 y1 v1 (decide (v1 < (0 : Int))) false y1 v3 (decide (v3 > (63 : Int))) (decide (v3 > (63 : Int))) false y1 v5
                      (decide (v5 < (0 : Int))) (decide (v5 < (0 : Int))) true true true true)
                    σ
                else
                  Option.bind (St.ld σ y1 (1 : Nat)) fun v6 =>
                    Option.bind (AV.toInt IntKind.i64 v6) fun v7 =>
                      if decide (v7 > (63 : Int)) = true then
                        J Ex.normal
                          (f22e6 y0 y1 y1 v1 (decide (v1 < (0 : Int))) false y1 v3 (decide (v3 > (63 : Int))) (decide (v3 > (63 : Int))) false y1 v5
                            (decide (v5 < (0 : Int))) (decide (v5 < (0 : Int))) false y1 v7 (decide (v7 > (63 : Int))) (decide (v7 > (63 : Int))) true
                            true)
                          σ
                      else
                        Option.bind (St.ld σ y1 (2 : Nat)) fun v8 =>
                          Option.bind (AV.toInt IntKind.i64 v8) fun v9 =>
                            J Ex.normal
                              (f22e7 y0 y1 y1 v1 (decide (v1 < (0 : Int))) false y1 v3 (decide (v3 > (63 : Int))) (decide (v3 > (63 : Int))) false y1
                                v5 (decide (v5 < (0 : Int))) (decide (v5 < (0 : Int))) false y1 v7 (decide (v7 > (63 : Int)))
                                (decide (v7 > (63 : Int))) false y1 v9 (decide (v9 < (0 : Int))) (decide (v9 < (0 : Int))))
                              σ := hide (by kernel_rfl)
theorem f22z3_f22e3 (y0 : Option (Nat × Nat)) (y1 : Nat) (y2 : Nat) (y3 : Int) (y4 : Bool) (y5 : Bool) (y6 : Bool) (y7 : Bool) (y8 : Bool) (y9 : Bool) (y10 : Bool) (y11 : Bool) (y12 : Bool) : Ann.clr f22a3 (f22e3 y0 y1 y2 y3 y4 y5 y6 y7 y8 y9 y10 y11 y12) = f22e8 y0 y1 y12 := hide (by kernel_rfl)
theorem f22x6_f22e8 {R : Type} (call : CallF R) (N : Nat) (y0 : Option (Nat × Nat)) (y1 : Nat) (y2 : Bool) (J : KF R) (σ : St) : runK Try.prog call N f22c6 f22a6 J (f22e8 y0 y1 y2) σ = if y2 = true then runK Try.prog call N f22c7 f22a7 (condC f22a6 J) (f22e8 y0 y1 y2) σ else runK Try.prog call N f22c8 f22a8 (condC f22a6 J) (f22e8 y0 y1 y2) σ := runK_cond' (o := Operand.tmp (27 : Nat)) (by kernel_rfl) (by kernel_rfl) (by kernel_rfl) (by kernel_rfl)
theorem f22n7 {R : Type} (call : CallF R) (N : Nat) (J : KF R) (e : Env) (σ : St) : runK Try.prog call N f22c7 f22a7 J e σ = runK Try.prog call N f22c9 f22a9 (seqC (fun K e σ => runK Try.prog call N f22c10 f22a10 K e σ) f22a7 J) e σ := runK_seq' (by kernel_rfl) (by kernel_rfl) (by kernel_rfl)
theorem f22r9_f22e8 {R : Type} (call : CallF R) (N : Nat) (y0 : Option (Nat × Nat)) (y1 : Nat) (y2 : Bool) (J : KF R) (σ : St) :
    runK Try.prog call N f22c9 f22a9 J (f22e8 y0 y1 y2) σ =
J Ex.normal (f22e9 y0 y1 (1 : Int) y2) σ := hide (by kernel_rfl)
theorem f22z7_f22e9 (y0 : Option (Nat × Nat)) (y1 : Nat) (y2 : Int) (y3 : Bool) : Ann.clr f22a7 (f22e9 y0 y1 y2 y3) = f22e10 y2 := hide (by kernel_rfl)
theorem f22y10_f22e10 {R : Type} (call : CallF R) (N : Nat) (y0 : Int) (J : KF R) (σ : St) : runK Try.prog call N f22c10 f22a10 J (f22e10 y0) σ = J .ret (f22e10 y0) σ := runK_ret' (by kernel_rfl) (by kernel_rfl)
theorem f22n8 {R : Type} (call : CallF R) (N : Nat) (J : KF R) (e : Env) (σ : St) : runK Try.prog call N f22c8 f22a8 J e σ = J .normal e σ := runK_skip' (by kernel_rfl)
theorem f22z6_f22e8 (y0 : Option (Nat × Nat)) (y1 : Nat) (y2 : Bool) : Ann.clr f22a6 (f22e8 y0 y1 y2) = f22e2 y0 y1 := hide (by kernel_rfl)
theorem f22z3_f22e4 (y0 : Option (Nat × Nat)) (y1 : Nat) (y2 : Nat) (y3 : Int) (y4 : Bool) (y5 : Bool) (y6 : Nat) (y7 : Int) (y8 : Bool) (y9 : Bool) (y10 : Bool) (y11 : Bool) (y12 : Bool) (y13 : Bool) (y14 : Bool) (y15 : Bool) : Ann.clr f22a3 (f22e4 y0 y1 y2 y3 y4 y5 y6 y7 y8 y9 y10 y11 y12 y13 y14 y15) = f22e8 y0 y1 y15 := hide (by kernel_rfl)
theorem f22z3_f22e5 (y0 : Option (Nat × Nat)) (y1 : Nat) (y2 : Nat) (y3 : Int) (y4 : Bool) (y5 : Bool) (y6 : Nat) (y7 : Int) (y8 : Bool) (y9 : Bool) (y10 : Bool) (y11 : Nat) (y12 : Int) (y13 : Bool) (y14 : Bool) (y15 : Bool) (y16 : Bool) (y17 : Bool) (y18 : Bool) : Ann.clr f22a3 (f22e5 y0 y1 y2 y3 y4 y5 y6 y7 y8 y9 y10 y11 y12 y13 y14 y15 y16 y17 y18) = f22e8 y0 y1 y18 := hide (by kernel_rfl)
theorem f22z3_f22e6 (y0 : Option (Nat × Nat)) (y1 : Nat) (y2 : Nat) (y3 : Int) (y4 : Bool) (y5 : Bool) (y6 : Nat) (y7 : Int) (y8 : Bool) (y9 : Bool) (y10 : Bool) (y11 : Nat) (y12 : Int) (y13 : Bool) (y14 : Bool) (y15 : Bool) (y16 : Nat) (y17 : Int) (y18 : Bool) (y19 : Bool) (y20 : Bool) (y21 : Bool) : Ann.clr f22a3 (f22e6 y0 y1 y2 y3 y4 y5 y6 y7 y8 y9 y10 y11 y12 y13 y14 y15 y16 y17 y18 y19 y20 y21) = f22e8 y0 y1 y21 := hide (by kernel_rfl)
theorem f22z3_f22e7 (y0 : Option (Nat × Nat)) (y1 : Nat) (y2 : Nat) (y3 : Int) (y4 : Bool) (y5 : Bool) (y6 : Nat) (y7 : Int) (y8 : Bool) (y9 : Bool) (y10 : Bool) (y11 : Nat) (y12 : Int) (y13 : Bool) (y14 : Bool) (y15 : Bool) (y16 : Nat) (y17 : Int) (y18 : Bool) (y19 : Bool) (y20 : Bool) (y21 : Nat) (y22 : Int) (y23 : Bool) (y24 : Bool) : Ann.clr f22a3 (f22e7 y0 y1 y2 y3 y4 y5 y6 y7 y8 y9 y10 y11 y12 y13 y14 y15 y16 y17 y18 y19 y20 y21 y22 y23 y24) = f22e8 y0 y1 y24 := hide (by kernel_rfl)
theorem f22z2_f22e2 (y0 : Option (Nat × Nat)) (y1 : Nat) : Ann.clr f22a2 (f22e2 y0 y1) = f22e2 y0 y1 := hide (by kernel_rfl)
theorem f22n4 {R : Type} (call : CallF R) (N : Nat) (J : KF R) (e : Env) (σ : St) : runK Try.prog call N f22c4 f22a4 J e σ = runK Try.prog call N f22c11 f22a11 (seqC (fun K e σ => runK Try.prog call N f22c12 f22a12 K e σ) f22a4 J) e σ := runK_seq' (by kernel_rfl) (by kernel_rfl) (by kernel_rfl)
theorem f22n11 {R : Type} (call : CallF R) (N : Nat) (J : KF R) (e : Env) (σ : St) : runK Try.prog call N f22c11 f22a11 J e σ = runK Try.prog call N f22c13 f22a13 (seqC (fun K e σ => runK Try.prog call N f22c14 f22a14 K e σ) f22a11 J) e σ := runK_seq' (by kernel_rfl) (by kernel_rfl) (by kernel_rfl)
theorem f22r13_f22e2 {R : Type} (call : CallF R) (N : Nat) (y0 : Option (Nat × Nat)) (y1 : Nat) (J : KF R) (σ : St) :
    runK Try.prog call N f22c13 f22a13 J (f22e2 y0 y1) σ =
Option.bind (St.ld σ y1 (3 : Nat)) fun v0 =>
  Option.bind (AV.toStr v0) fun v1 =>
    J Ex.normal (f22e11 y0 y1 y1 v1 (↑(ByteArray.size v1) : Int) (decide ((↑(ByteArray.size v1) : Int) > (1048576 : Int)))) σ := hide (by kernel_rfl)
theorem f22z11_f22e11 (y0 : Option (Nat × Nat)) (y1 : Nat) (y2 : Nat) (y3 : ByteArray) (y4 : Int) (y5 : Bool) : Ann.clr f22a11 (f22e11 y0 y1 y2 y3 y4 y5) = f22e12 y0 y1 y5 := hide (by kernel_rfl)
theorem f22x14_f22e12 {R : Type} (call : CallF R) (N : Nat) (y0 : Option (Nat × Nat)) (y1 : Nat) (y2 : Bool) (J : KF R) (σ : St) : runK Try.prog call N f22c14 f22a14 J (f22e12 y0 y1 y2) σ = if y2 = true then runK Try.prog call N f22c15 f22a15 (condC f22a14 J) (f22e12 y0 y1 y2) σ else runK Try.prog call N f22c16 f22a16 (condC f22a14 J) (f22e12 y0 y1 y2) σ := runK_cond' (o := Operand.tmp (31 : Nat)) (by kernel_rfl) (by kernel_rfl) (by kernel_rfl) (by kernel_rfl)
theorem f22n15 {R : Type} (call : CallF R) (N : Nat) (J : KF R) (e : Env) (σ : St) : runK Try.prog call N f22c15 f22a15 J e σ = runK Try.prog call N f22c17 f22a17 (seqC (fun K e σ => runK Try.prog call N f22c18 f22a18 K e σ) f22a15 J) e σ := runK_seq' (by kernel_rfl) (by kernel_rfl) (by kernel_rfl)
theorem f22r17_f22e12 {R : Type} (call : CallF R) (N : Nat) (y0 : Option (Nat × Nat)) (y1 : Nat) (y2 : Bool) (J : KF R) (σ : St) :
    runK Try.prog call N f22c17 f22a17 J (f22e12 y0 y1 y2) σ =
J Ex.normal (f22e13 y0 y1 (2 : Int) y2) σ := hide (by kernel_rfl)
theorem f22z15_f22e13 (y0 : Option (Nat × Nat)) (y1 : Nat) (y2 : Int) (y3 : Bool) : Ann.clr f22a15 (f22e13 y0 y1 y2 y3) = f22e10 y2 := hide (by kernel_rfl)
theorem f22y18_f22e10 {R : Type} (call : CallF R) (N : Nat) (y0 : Int) (J : KF R) (σ : St) : runK Try.prog call N f22c18 f22a18 J (f22e10 y0) σ = J .ret (f22e10 y0) σ := runK_ret' (by kernel_rfl) (by kernel_rfl)
theorem f22n16 {R : Type} (call : CallF R) (N : Nat) (J : KF R) (e : Env) (σ : St) : runK Try.prog call N f22c16 f22a16 J e σ = J .normal e σ := runK_skip' (by kernel_rfl)
theorem f22z14_f22e12 (y0 : Option (Nat × Nat)) (y1 : Nat) (y2 : Bool) : Ann.clr f22a14 (f22e12 y0 y1 y2) = f22e2 y0 y1 := hide (by kernel_rfl)
theorem f22z4_f22e2 (y0 : Option (Nat × Nat)) (y1 : Nat) : Ann.clr f22a4 (f22e2 y0 y1) = f22e2 y0 y1 := hide (by kernel_rfl)
theorem f22n12 {R : Type} (call : CallF R) (N : Nat) (J : KF R) (e : Env) (σ : St) : runK Try.prog call N f22c12 f22a12 J e σ = runK Try.prog call N f22c19 f22a19 (seqC (fun K e σ => runK Try.prog call N f22c20 f22a20 K e σ) f22a12 J) e σ := runK_seq' (by kernel_rfl) (by kernel_rfl) (by kernel_rfl)
theorem f22n19 {R : Type} (call : CallF R) (N : Nat) (J : KF R) (e : Env) (σ : St) : runK Try.prog call N f22c19 f22a19 J e σ = runK Try.prog call N f22c21 f22a21 (seqC (fun K e σ => runK Try.prog call N f22c22 f22a22 K e σ) f22a19 J) e σ := runK_seq' (by kernel_rfl) (by kernel_rfl) (by kernel_rfl)
theorem f22r21_f22e2 {R : Type} (call : CallF R) (N : Nat) (y0 : Option (Nat × Nat)) (y1 : Nat) (J : KF R) (σ : St) :
    runK Try.prog call N f22c21 f22a21 J (f22e2 y0 y1) σ =
Option.bind y0 fun v0 =>
  Option.bind (St.ld σ (Prod.fst v0) (Prod.snd v0)) fun v1 =>
    Option.bind (AV.toSl (4 : Nat) v1) fun v2 =>
      J Ex.normal
        (f22e14 y0 y1 y0 (some v0) (some (Prod.fst v0, Prod.snd v0)) (Sl.o v2) (Sl.len v2) (Sl.cap v2) (↑(Sl.len v2) : Int)
          (decide ((↑(Sl.len v2) : Int) ≥ (4096 : Int))))
        σ := hide (by kernel_rfl)
theorem f22z19_f22e14 (y0 : Option (Nat × Nat)) (y1 : Nat) (y2 : Option (Nat × Nat)) (y3 : Option (Nat × Nat)) (y4 : Option (Nat × Nat)) (y5 : Option (Nat × Nat)) (y6 : Nat) (y7 : Option Nat) (y8 : Int) (y9 : Bool) : Ann.clr f22a19 (f22e14 y0 y1 y2 y3 y4 y5 y6 y7 y8 y9) = f22e15 y0 y1 y9 := hide (by kernel_rfl)
theorem f22x22_f22e15 {R : Type} (call : CallF R) (N : Nat) (y0 : Option (Nat × Nat)) (y1 : Nat) (y2 : Bool) (J : KF R) (σ : St) : runK Try.prog call N f22c22 f22a22 J (f22e15 y0 y1 y2) σ = if y2 = true then runK Try.prog call N f22c23 f22a23 (condC f22a22 J) (f22e15 y0 y1 y2) σ else runK Try.prog call N f22c24 f22a24 (condC f22a22 J) (f22e15 y0 y1 y2) σ := runK_cond' (o := Operand.tmp (37 : Nat)) (by kernel_rfl) (by kernel_rfl) (by kernel_rfl) (by kernel_rfl)
theorem f22n23 {R : Type} (call : CallF R) (N : Nat) (J : KF R) (e : Env) (σ : St) : runK Try.prog call N f22c23 f22a23 J e σ = runK Try.prog call N f22c25 f22a25 (seqC (fun K e σ => runK Try.prog call N f22c26 f22a26 K e σ) f22a23 J) e σ := runK_seq' (by kernel_rfl) (by kernel_rfl) (by kernel_rfl)
theorem f22r25_f22e15 {R : Type} (call : CallF R) (N : Nat) (y0 : Option (Nat × Nat)) (y1 : Nat) (y2 : Bool) (J : KF R) (σ : St) :
    runK Try.prog call N f22c25 f22a25 J (f22e15 y0 y1 y2) σ =
Option.bind y0 fun v0 =>
  Option.bind (St.ld σ (Prod.fst v0) (Prod.snd v0 + (1 : Nat))) fun v1 =>
    Option.bind (AV.toInt IntKind.i64 v1) fun v2 =>
      Option.bind y0 fun v3 =>
        Option.bind (St.st σ (Prod.fst v3) (Prod.snd v3 + (1 : Nat)) [AV.int IntKind.i64 (IntKind.wrap IntKind.i64 (v2 + (1 : Int)))]) fun v4 =>
          J Ex.normal
            (f22e16 y0 y1 y2 y0 y0 (some v0) (some (Prod.fst v0, Prod.snd v0 + (1 : Nat))) v2 (IntKind.wrap IntKind.i64 (v2 + (1 : Int))) (some v3)
              (some (Prod.fst v3, Prod.snd v3 + (1 : Nat))))
            v4 := hide (by kernel_rfl)
theorem f22z23_f22e16 (y0 : Option (Nat × Nat)) (y1 : Nat) (y2 : Bool) (y3 : Option (Nat × Nat)) (y4 : Option (Nat × Nat)) (y5 : Option (Nat × Nat)) (y6 : Option (Nat × Nat)) (y7 : Int) (y8 : Int) (y9 : Option (Nat × Nat)) (y10 : Option (Nat × Nat)) : Ann.clr f22a23 (f22e16 y0 y1 y2 y3 y4 y5 y6 y7 y8 y9 y10) = f22e17 := hide (by kernel_rfl)
theorem f22n26 {R : Type} (call : CallF R) (N : Nat) (J : KF R) (e : Env) (σ : St) : runK Try.prog call N f22c26 f22a26 J e σ = runK Try.prog call N f22c27 f22a27 (seqC (fun K e σ => runK Try.prog call N f22c28 f22a28 K e σ) f22a26 J) e σ := runK_seq' (by kernel_rfl) (by kernel_rfl) (by kernel_rfl)
theorem f22r27_f22e17 {R : Type} (call : CallF R) (N : Nat) (J : KF R) (σ : St) :
    runK Try.prog call N f22c27 f22a27 J (f22e17) σ =
J Ex.normal (f22e10 (5 : Int)) σ := hide (by kernel_rfl)
theorem f22z26_f22e10 (y0 : Int) : Ann.clr f22a26 (f22e10 y0) = f22e10 y0 := hide (by kernel_rfl)
theorem f22y28_f22e10 {R : Type} (call : CallF R) (N : Nat) (y0 : Int) (J : KF R) (σ : St) : runK Try.prog call N f22c28 f22a28 J (f22e10 y0) σ = J .ret (f22e10 y0) σ := runK_ret' (by kernel_rfl) (by kernel_rfl)
theorem f22n24 {R : Type} (call : CallF R) (N : Nat) (J : KF R) (e : Env) (σ : St) : runK Try.prog call N f22c24 f22a24 J e σ = J .normal e σ := runK_skip' (by kernel_rfl)
theorem f22z22_f22e15 (y0 : Option (Nat × Nat)) (y1 : Nat) (y2 : Bool) : Ann.clr f22a22 (f22e15 y0 y1 y2) = f22e2 y0 y1 := hide (by kernel_rfl)
theorem f22z12_f22e2 (y0 : Option (Nat × Nat)) (y1 : Nat) : Ann.clr f22a12 (f22e2 y0 y1) = f22e2 y0 y1 := hide (by kernel_rfl)
theorem f22n20 {R : Type} (call : CallF R) (N : Nat) (J : KF R) (e : Env) (σ : St) : runK Try.prog call N f22c20 f22a20 J e σ = runK Try.prog call N f22c29 f22a29 (seqC (fun K e σ => runK Try.prog call N f22c30 f22a30 K e σ) f22a20 J) e σ := runK_seq' (by kernel_rfl) (by kernel_rfl) (by kernel_rfl)
theorem f22r29_f22e2 {R : Type} (call : CallF R) (N : Nat) (y0 : Option (Nat × Nat)) (y1 : Nat) (J : KF R) (σ : St) :
    runK Try.prog call N f22c29 f22a29 J (f22e2 y0 y1) σ =
Option.bind y0 fun v0 =>
  Option.bind (St.ld σ (Prod.fst v0) (Prod.snd v0)) fun v1 =>
    Option.bind (AV.toSl (4 : Nat) v1) fun v2 =>
      Option.bind (St.ld σ y1 (0 : Nat)) fun v3 =>
        Option.bind (AV.toInt IntKind.i64 v3) fun v4 =>
          Option.bind (St.ld σ y1 (1 : Nat)) fun v5 =>
            Option.bind (AV.toInt IntKind.i64 v5) fun v6 =>
              Option.bind (St.ld σ y1 (2 : Nat)) fun v7 =>
                Option.bind (AV.toInt IntKind.i64 v7) fun v8 =>
                  Option.bind (St.ld σ y1 (3 : Nat)) fun v9 =>
                    Option.bind (AV.toStr v9) fun v10 =>
                      if
                          St.same (St.new σ (Blk.cells [AV.int IntKind.i64 v4, AV.int IntKind.i64 v6, AV.int IntKind.i64 v8, AV.str v10] true))
                              (Prod.fst v0) (Prod.snd v0) [AV.slice (Sl.o v2) (Sl.len v2) (Sl.cap v2) (4 : Nat)] =
                            true then
                        Option.bind
                          (St.elems (St.new σ (Blk.cells [AV.int IntKind.i64 v4, AV.int IntKind.i64 v6, AV.int IntKind.i64 v8, AV.str v10] true))
                            (4 : Nat) (Sl.mk (some (St.next σ, (0 : Nat))) (1 : Nat) (some (1 : Nat))) (1 : Nat))
                          fun v11 =>
                          Option.bind
                            (St.app (St.new σ (Blk.cells [AV.int IntKind.i64 v4, AV.int IntKind.i64 v6, AV.int IntKind.i64 v8, AV.str v10] true))
                              (4 : Nat) (40 : Nat) (Sl.mk (Sl.o v2) (Sl.len v2) (Sl.cap v2)) (1 : Nat) v11)
                            fun v12 =>
                            Option.bind y0 fun v13 =>
                              Option.bind
                                (St.st (Prod.snd v12) (Prod.fst v13) (Prod.snd v13)
                                  [AV.slice (Sl.o (Prod.fst v12)) (Sl.len (Prod.fst v12)) (Sl.cap (Prod.fst v12)) (4 : Nat)])
                                fun v14 =>
                                J Ex.normal
                                  (f22e18 y0 y1 y0 y0 (some v0) (some (Prod.fst v0, Prod.snd v0)) (Sl.o v2) (Sl.len v2) (Sl.cap v2) v4 v6 v8 v10
                                    (some (St.next σ, (0 : Nat))) (1 : Nat) (some (1 : Nat)) (Sl.o (Prod.fst v12)) (Sl.len (Prod.fst v12))
                                    (Sl.cap (Prod.fst v12)) (some v13) (some (Prod.fst v13, Prod.snd v13)))
                                  v14
                      else none := hide (by kernel_rfl)
theorem f22z20_f22e18 (y0 : Option (Nat × Nat)) (y1 : Nat) (y2 : Option (Nat × Nat)) (y3 : Option (Nat × Nat)) (y4 : Option (Nat × Nat)) (y5 : Option (Nat × Nat)) (y6 : Option (Nat × Nat)) (y7 : Nat) (y8 : Option Nat) (y9 : Int) (y10 : Int) (y11 : Int) (y12 : ByteArray) (y13 : Option (Nat × Nat)) (y14 : Nat) (y15 : Option Nat) (y16 : Option (Nat × Nat)) (y17 : Nat) (y18 : Option Nat) (y19 : Option (Nat × Nat)) (y20 : Option (Nat × Nat)) : Ann.clr f22a20 (f22e18 y0 y1 y2 y3 y4 y5 y6 y7 y8 y9 y10 y11 y12 y13 y14 y15 y16 y17 y18 y19 y20) = f22e17 := hide (by kernel_rfl)
theorem f22n30 {R : Type} (call : CallF R) (N : Nat) (J : KF R) (e : Env) (σ : St) : runK Try.prog call N f22c30 f22a30 J e σ = runK Try.prog call N f22c31 f22a31 (seqC (fun K e σ => runK Try.prog call N f22c32 f22a32 K e σ) f22a30 J) e σ := runK_seq' (by kernel_rfl) (by kernel_rfl) (by kernel_rfl)
theorem f22r31_f22e17 {R : Type} (call : CallF R) (N : Nat) (J : KF R) (σ : St) :
    runK Try.prog call N f22c31 f22a31 J (f22e17) σ =
J Ex.normal (f22e10 (0 : Int)) σ := hide (by kernel_rfl)
theorem f22z30_f22e10 (y0 : Int) : Ann.clr f22a30 (f22e10 y0) = f22e10 y0 := hide (by kernel_rfl)
theorem f22y32_f22e10 {R : Type} (call : CallF R) (N : Nat) (y0 : Int) (J : KF R) (σ : St) : runK Try.prog call N f22c32 f22a32 J (f22e10 y0) σ = J .ret (f22e10 y0) σ := runK_ret' (by kernel_rfl) (by kernel_rfl)
theorem f22b_f22e10_r {R : Type} (y0 : Int) (σ : St) (K : AV → St → Option R) : bodyC Try.prog f22rs K (Ex.ret) (f22e10 y0) σ =
K (AV.int IntKind.i64 y0) σ := hide (by kernel_rfl)
attribute [go_sem] f22_eq f22n0 f22r1_f22e0 f22z0_f22e1 f22n2 f22n3 f22r5_f22e2 f22z3_f22e3 f22x6_f22e8 f22n7 f22r9_f22e8 f22z7_f22e9 f22y10_f22e10 f22n8 f22z6_f22e8 f22z3_f22e4 f22z3_f22e5 f22z3_f22e6 f22z3_f22e7 f22z2_f22e2 f22n4 f22n11 f22r13_f22e2 f22z11_f22e11 f22x14_f22e12 f22n15 f22r17_f22e12 f22z15_f22e13 f22y18_f22e10 f22n16 f22z14_f22e12 f22z4_f22e2 f22n12 f22n19 f22r21_f22e2 f22z19_f22e14 f22x22_f22e15 f22n23 f22r25_f22e15 f22z23_f22e16 f22n26 f22r27_f22e17 f22z26_f22e10 f22y28_f22e10 f22n24 f22z22_f22e15 f22z12_f22e2 f22n20 f22r29_f22e2 f22z20_f22e18 f22n30 f22r31_f22e17 f22z30_f22e10 f22y32_f22e10 f22b_f22e10_r

noncomputable def f23rs : List ResultVar := [ResultVar.cell (4 : Nat) (47 : Nat), ResultVar.tmp (5 : Nat)]
noncomputable def f23c0 : Code := subCode [] (bodyOf Try.prog 23)
def f23a0 : Ann := subAnn [] ann23
noncomputable def f23c1 : Code := subCode [0] (bodyOf Try.prog 23)
def f23a1 : Ann := subAnn [0] ann23
noncomputable def f23c2 : Code := subCode [1] (bodyOf Try.prog 23)
def f23a2 : Ann := subAnn [1] ann23
noncomputable def f23c3 : Code := subCode [1, 0] (bodyOf Try.prog 23)
def f23a3 : Ann := subAnn [1, 0] ann23
noncomputable def f23c4 : Code := subCode [1, 1] (bodyOf Try.prog 23)
def f23a4 : Ann := subAnn [1, 1] ann23
noncomputable def f23c5 : Code := subCode [1, 1, 0] (bodyOf Try.prog 23)
def f23a5 : Ann := subAnn [1, 1, 0] ann23
noncomputable def f23c6 : Code := subCode [1, 1, 1] (bodyOf Try.prog 23)
def f23a6 : Ann := subAnn [1, 1, 1] ann23
noncomputable def f23c7 : Code := subCode [1, 1, 0, 0] (bodyOf Try.prog 23)
def f23a7 : Ann := subAnn [1, 1, 0, 0] ann23
noncomputable def f23c8 : Code := subCode [1, 1, 0, 1] (bodyOf Try.prog 23)
def f23a8 : Ann := subAnn [1, 1, 0, 1] ann23
noncomputable def f23c9 : Code := subCode [1, 1, 0, 1, 0] (bodyOf Try.prog 23)
def f23a9 : Ann := subAnn [1, 1, 0, 1, 0] ann23
noncomputable def f23c10 : Code := subCode [1, 1, 0, 1, 1] (bodyOf Try.prog 23)
def f23a10 : Ann := subAnn [1, 1, 0, 1, 1] ann23
noncomputable def f23c11 : Code := subCode [1, 1, 0, 1, 0, 0] (bodyOf Try.prog 23)
def f23a11 : Ann := subAnn [1, 1, 0, 1, 0, 0] ann23
noncomputable def f23c12 : Code := subCode [1, 1, 0, 1, 0, 1] (bodyOf Try.prog 23)
def f23a12 : Ann := subAnn [1, 1, 0, 1, 0, 1] ann23
noncomputable def f23c13 : Code := subCode [1, 1, 1, 0] (bodyOf Try.prog 23)
def f23a13 : Ann := subAnn [1, 1, 1, 0] ann23
noncomputable def f23c14 : Code := subCode [1, 1, 1, 1] (bodyOf Try.prog 23)
def f23a14 : Ann := subAnn [1, 1, 1, 1] ann23
noncomputable def f23c15 : Code := subCode [1, 1, 1, 1, 0] (bodyOf Try.prog 23)
def f23a15 : Ann := subAnn [1, 1, 1, 1, 0] ann23
noncomputable def f23c16 : Code := subCode [1, 1, 1, 1, 1] (bodyOf Try.prog 23)
def f23a16 : Ann := subAnn [1, 1, 1, 1, 1] ann23
noncomputable def f23c17 : Code := subCode [1, 1, 1, 1, 0, 0] (bodyOf Try.prog 23)
def f23a17 : Ann := subAnn [1, 1, 1, 1, 0, 0] ann23
noncomputable def f23c18 : Code := subCode [1, 1, 1, 1, 0, 1] (bodyOf Try.prog 23)
def f23a18 : Ann := subAnn [1, 1, 1, 1, 0, 1] ann23
noncomputable def f23c19 : Code := subCode [1, 1, 1, 1, 0, 1, 0] (bodyOf Try.prog 23)
def f23a19 : Ann := subAnn [1, 1, 1, 1, 0, 1, 0] ann23
noncomputable def f23c20 : Code := subCode [1, 1, 1, 1, 0, 1, 0, 0] (bodyOf Try.prog 23)
def f23a20 : Ann := subAnn [1, 1, 1, 1, 0, 1, 0, 0] ann23
noncomputable def f23c21 : Code := subCode [1, 1, 1, 1, 0, 1, 0, 0, 0] (bodyOf Try.prog 23)
def f23a21 : Ann := subAnn [1, 1, 1, 1, 0, 1, 0, 0, 0] ann23
noncomputable def f23c22 : Code := subCode [1, 1, 1, 1, 0, 1, 0, 0, 1] (bodyOf Try.prog 23)
def f23a22 : Ann := subAnn [1, 1, 1, 1, 0, 1, 0, 0, 1] ann23
noncomputable def f23c23 : Code := subCode [1, 1, 1, 1, 0, 1, 0, 0, 1, 0] (bodyOf Try.prog 23)
def f23a23 : Ann := subAnn [1, 1, 1, 1, 0, 1, 0, 0, 1, 0] ann23
noncomputable def f23c24 : Code := subCode [1, 1, 1, 1, 0, 1, 0, 0, 1, 1] (bodyOf Try.prog 23)
def f23a24 : Ann := subAnn [1, 1, 1, 1, 0, 1, 0, 0, 1, 1] ann23
noncomputable def f23c25 : Code := subCode [1, 1, 1, 1, 0, 1, 0, 0, 1, 0, 0] (bodyOf Try.prog 23)
def f23a25 : Ann := subAnn [1, 1, 1, 1, 0, 1, 0, 0, 1, 0, 0] ann23
noncomputable def f23c26 : Code := subCode [1, 1, 1, 1, 0, 1, 0, 0, 1, 0, 1] (bodyOf Try.prog 23)
def f23a26 : Ann := subAnn [1, 1, 1, 1, 0, 1, 0, 0, 1, 0, 1] ann23
noncomputable def f23c27 : Code := subCode [1, 1, 1, 1, 0, 1, 0, 0, 1, 1, 0] (bodyOf Try.prog 23)
def f23a27 : Ann := subAnn [1, 1, 1, 1, 0, 1, 0, 0, 1, 1, 0] ann23
noncomputable def f23c28 : Code := subCode [1, 1, 1, 1, 0, 1, 0, 0, 1, 1, 1] (bodyOf Try.prog 23)
def f23a28 : Ann := subAnn [1, 1, 1, 1, 0, 1, 0, 0, 1, 1, 1] ann23
noncomputable def f23c29 : Code := subCode [1, 1, 1, 1, 0, 1, 0, 0, 1, 1, 0, 0] (bodyOf Try.prog 23)
def f23a29 : Ann := subAnn [1, 1, 1, 1, 0, 1, 0, 0, 1, 1, 0, 0] ann23
noncomputable def f23c30 : Code := subCode [1, 1, 1, 1, 0, 1, 0, 0, 1, 1, 0, 0, 0] (bodyOf Try.prog 23)
def f23a30 : Ann := subAnn [1, 1, 1, 1, 0, 1, 0, 0, 1, 1, 0, 0, 0] ann23
noncomputable def f23c31 : Code := subCode [1, 1, 1, 1, 0, 1, 0, 0, 1, 1, 0, 0, 1] (bodyOf Try.prog 23)
def f23a31 : Ann := subAnn [1, 1, 1, 1, 0, 1, 0, 0, 1, 1, 0, 0, 1] ann23
noncomputable def f23c32 : Code := subCode [1, 1, 1, 1, 0, 1, 0, 0, 1, 1, 0, 0, 1, 0] (bodyOf Try.prog 23)
def f23a32 : Ann := subAnn [1, 1, 1, 1, 0, 1, 0, 0, 1, 1, 0, 0, 1, 0] ann23
noncomputable def f23c33 : Code := subCode [1, 1, 1, 1, 0, 1, 0, 0, 1, 1, 0, 0, 1, 1] (bodyOf Try.prog 23)
def f23a33 : Ann := subAnn [1, 1, 1, 1, 0, 1, 0, 0, 1, 1, 0, 0, 1, 1] ann23
noncomputable def f23c34 : Code := subCode [1, 1, 1, 1, 0, 1, 0, 0, 1, 1, 0, 0, 1, 1, 0] (bodyOf Try.prog 23)
def f23a34 : Ann := subAnn [1, 1, 1, 1, 0, 1, 0, 0, 1, 1, 0, 0, 1, 1, 0] ann23
noncomputable def f23c35 : Code := subCode [1, 1, 1, 1, 0, 1, 0, 0, 1, 1, 0, 0, 1, 1, 1] (bodyOf Try.prog 23)
def f23a35 : Ann := subAnn [1, 1, 1, 1, 0, 1, 0, 0, 1, 1, 0, 0, 1, 1, 1] ann23
noncomputable def f23c36 : Code := subCode [1, 1, 1, 1, 1, 0] (bodyOf Try.prog 23)
def f23a36 : Ann := subAnn [1, 1, 1, 1, 1, 0] ann23
noncomputable def f23c37 : Code := subCode [1, 1, 1, 1, 1, 1] (bodyOf Try.prog 23)
def f23a37 : Ann := subAnn [1, 1, 1, 1, 1, 1] ann23
noncomputable def f23c38 : Code := subCode [1, 1, 1, 1, 1, 1, 0] (bodyOf Try.prog 23)
def f23a38 : Ann := subAnn [1, 1, 1, 1, 1, 1, 0] ann23
noncomputable def f23c39 : Code := subCode [1, 1, 1, 1, 1, 1, 1] (bodyOf Try.prog 23)
def f23a39 : Ann := subAnn [1, 1, 1, 1, 1, 1, 1] ann23
noncomputable def f23L19 {R : Type} (call : CallF R) (N : Nat) : KF R → Env → St → Option R := fun K e σ => runK Try.prog call N f23c20 f23a20 K e σ
def f23e0 (y0 : Option (Nat × Nat)) (y1 : Int) : Env := AV.ptr y0 :: AV.int IntKind.i64 y1 :: Env.sp 42 []
def f23e1 (y0 : Option (Nat × Nat)) (y1 : Int) (y2 : Nat) (y3 : Int) : Env := AV.ptr y0 :: AV.int IntKind.i64 y1 :: Env.sp 2 (AV.ptr (some (y2, (0 : Nat))) :: AV.int IntKind.i64 y3 :: Env.sp 38 [])
def f23e2 (y0 : Option (Nat × Nat)) (y1 : Int) (y2 : Nat) : Env := AV.ptr y0 :: AV.int IntKind.i64 y1 :: Env.sp 2 (AV.ptr (some (y2, (0 : Nat))) :: Env.sp 39 [])
def f23e3 (y0 : Option (Nat × Nat)) (y1 : Int) (y2 : Nat) (y3 : Nat) (y4 : Int) (y5 : Int) (y6 : Int) (y7 : Int) (y8 : ByteArray) (y9 : Int) (y10 : Option (Nat × Nat)) (y11 : Int) (y12 : Int) (y13 : Int) (y14 : Int) (y15 : ByteArray) (y16 : Int) (y17 : Int) (y18 : Int) (y19 : Int) (y20 : ByteArray) (y21 : Int) : Env := AV.ptr y0 :: AV.int IntKind.i64 y1 :: Env.sp 2 (AV.ptr (some (y2, (0 : Nat))) :: Env.sp 1 (AV.ptr (some (y3, (0 : Nat))) :: AV.int IntKind.i64 y4 :: Env.sp 3 (AV.tuple [AV.agg [AV.int IntKind.i64 y5, AV.int IntKind.i64 y6, AV.int IntKind.i64 y7, AV.str y8], AV.int IntKind.i64 y9] :: AV.ptr y10 :: AV.int IntKind.i64 y11 :: AV.tuple [AV.agg [AV.int IntKind.i64 y12, AV.int IntKind.i64 y13, AV.int IntKind.i64 y14, AV.str y15], AV.int IntKind.i64 y16] :: AV.agg [AV.int IntKind.i64 y17, AV.int IntKind.i64 y18, AV.int IntKind.i64 y19, AV.str y20] :: AV.int IntKind.i64 y21 :: Env.sp 27 [])))
def f23e4 (y0 : Option (Nat × Nat)) (y1 : Int) (y2 : Nat) (y3 : Nat) (y4 : Int) : Env := AV.ptr y0 :: AV.int IntKind.i64 y1 :: Env.sp 2 (AV.ptr (some (y2, (0 : Nat))) :: Env.sp 1 (AV.ptr (some (y3, (0 : Nat))) :: AV.int IntKind.i64 y4 :: Env.sp 36 []))
def f23e5 (y0 : Option (Nat × Nat)) (y1 : Int) (y2 : Nat) (y3 : Nat) (y4 : Int) (y5 : Int) (y6 : Bool) : Env := AV.ptr y0 :: AV.int IntKind.i64 y1 :: Env.sp 2 (AV.ptr (some (y2, (0 : Nat))) :: Env.sp 1 (AV.ptr (some (y3, (0 : Nat))) :: AV.int IntKind.i64 y4 :: Env.sp 9 (AV.int IntKind.i64 y5 :: AV.bool y6 :: Env.sp 25 [])))
def f23e6 (y0 : Option (Nat × Nat)) (y1 : Int) (y2 : Nat) (y3 : Nat) (y4 : Int) (y5 : Bool) : Env := AV.ptr y0 :: AV.int IntKind.i64 y1 :: Env.sp 2 (AV.ptr (some (y2, (0 : Nat))) :: Env.sp 1 (AV.ptr (some (y3, (0 : Nat))) :: AV.int IntKind.i64 y4 :: Env.sp 10 (AV.bool y5 :: Env.sp 25 [])))
def f23e7 (y0 : Option (Nat × Nat)) (y1 : Int) (y2 : Nat) (y3 : Int) (y4 : Nat) (y5 : Int) (y6 : Bool) (y7 : Int) (y8 : Int) (y9 : Int) (y10 : ByteArray) (y11 : Int) : Env := AV.ptr y0 :: AV.int IntKind.i64 y1 :: Env.sp 2 (AV.ptr (some (y2, (0 : Nat))) :: AV.int IntKind.i64 y3 :: AV.ptr (some (y4, (0 : Nat))) :: AV.int IntKind.i64 y5 :: Env.sp 10 (AV.bool y6 :: AV.agg [AV.int IntKind.i64 y7, AV.int IntKind.i64 y8, AV.int IntKind.i64 y9, AV.str y10] :: AV.int IntKind.i64 y11 :: Env.sp 23 []))
def f23e8 (y0 : Nat) (y1 : Int) : Env := Env.sp 4 (AV.ptr (some (y0, (0 : Nat))) :: AV.int IntKind.i64 y1 :: Env.sp 38 [])
def f23e9 (y0 : Option (Nat × Nat)) (y1 : Int) (y2 : Nat) (y3 : Nat) : Env := AV.ptr y0 :: AV.int IntKind.i64 y1 :: Env.sp 2 (AV.ptr (some (y2, (0 : Nat))) :: Env.sp 1 (AV.ptr (some (y3, (0 : Nat))) :: Env.sp 37 []))
def f23e10 (y0 : Option (Nat × Nat)) (y1 : Int) (y2 : Nat) (y3 : Nat) (y4 : Option (Nat × Nat)) (y5 : Nat) (y6 : Option Nat) : Env := AV.ptr y0 :: AV.int IntKind.i64 y1 :: Env.sp 2 (AV.ptr (some (y2, (0 : Nat))) :: Env.sp 1 (AV.ptr (some (y3, (0 : Nat))) :: Env.sp 1 (AV.slice y4 y5 y6 (4 : Nat) :: Env.sp 35 [])))
def f23e11 (y0 : Option (Nat × Nat)) (y1 : Int) (y2 : Nat) (y3 : Nat) (y4 : Option (Nat × Nat)) (y5 : Nat) (y6 : Option Nat) (y7 : Option (Nat × Nat)) (y8 : Option (Nat × Nat)) (y9 : Option (Nat × Nat)) (y10 : Option (Nat × Nat)) (y11 : Nat) (y12 : Option Nat) (y13 : Int) (y14 : Int) : Env := AV.ptr y0 :: AV.int IntKind.i64 y1 :: Env.sp 2 (AV.ptr (some (y2, (0 : Nat))) :: Env.sp 1 (AV.ptr (some (y3, (0 : Nat))) :: Env.sp 1 (AV.slice y4 y5 y6 (4 : Nat) :: Env.sp 12 (AV.ptr y7 :: AV.ptr y8 :: AV.ptr y9 :: AV.slice y10 y11 y12 (4 : Nat) :: AV.int IntKind.i64 y13 :: AV.int IntKind.i64 y14 :: Env.sp 17 []))))
def f23e12 (y0 : Option (Nat × Nat)) (y1 : Int) (y2 : Nat) (y3 : Nat) (y4 : Option (Nat × Nat)) (y5 : Nat) (y6 : Option Nat) (y7 : Option (Nat × Nat)) (y8 : Nat) (y9 : Option Nat) (y10 : Int) (y11 : Int) : Env := AV.ptr y0 :: AV.int IntKind.i64 y1 :: Env.sp 2 (AV.ptr (some (y2, (0 : Nat))) :: Env.sp 1 (AV.ptr (some (y3, (0 : Nat))) :: Env.sp 1 (AV.slice y4 y5 y6 (4 : Nat) :: Env.sp 15 (AV.slice y7 y8 y9 (4 : Nat) :: AV.int IntKind.i64 y10 :: AV.int IntKind.i64 y11 :: Env.sp 17 []))))
def f23e13 (y0 : Option (Nat × Nat)) (y1 : Int) (y2 : Nat) (y3 : Nat) (y4 : Option (Nat × Nat)) (y5 : Nat) (y6 : Option Nat) (y7 : Option (Nat × Nat)) (y8 : Nat) (y9 : Option Nat) (y10 : Int) (y11 : Int) (y12 : Bool) : Env := AV.ptr y0 :: AV.int IntKind.i64 y1 :: Env.sp 2 (AV.ptr (some (y2, (0 : Nat))) :: Env.sp 1 (AV.ptr (some (y3, (0 : Nat))) :: Env.sp 1 (AV.slice y4 y5 y6 (4 : Nat) :: Env.sp 15 (AV.slice y7 y8 y9 (4 : Nat) :: AV.int IntKind.i64 y10 :: AV.int IntKind.i64 y11 :: AV.bool y12 :: Env.sp 16 []))))
def f23e14 (y0 : Option (Nat × Nat)) (y1 : Nat) (y2 : Nat) (y3 : Option (Nat × Nat)) (y4 : Nat) (y5 : Option Nat) : Env := AV.ptr y0 :: Env.sp 3 (AV.ptr (some (y1, (0 : Nat))) :: Env.sp 1 (AV.ptr (some (y2, (0 : Nat))) :: Env.sp 1 (AV.slice y3 y4 y5 (4 : Nat) :: Env.sp 35 [])))
def f23e15 (y0 : Option (Nat × Nat)) (y1 : Int) (y2 : Nat) (y3 : Nat) (y4 : Option (Nat × Nat)) (y5 : Nat) (y6 : Option Nat) (y7 : Int) (y8 : Nat) (y9 : Option (Nat × Nat)) (y10 : Nat) (y11 : Option Nat) (y12 : Int) (y13 : Int) (y14 : Int) (y15 : Option (Nat × Nat)) (y16 : Int) (y17 : Int) (y18 : Int) (y19 : ByteArray) : Env := AV.ptr y0 :: AV.int IntKind.i64 y1 :: Env.sp 2 (AV.ptr (some (y2, (0 : Nat))) :: Env.sp 1 (AV.ptr (some (y3, (0 : Nat))) :: Env.sp 1 (AV.slice y4 y5 y6 (4 : Nat) :: AV.int IntKind.i64 y7 :: AV.ptr (some (y8, (0 : Nat))) :: Env.sp 13 (AV.slice y9 y10 y11 (4 : Nat) :: AV.int IntKind.i64 y12 :: AV.int IntKind.i64 y13 :: Env.sp 1 (AV.int IntKind.i64 y14 :: AV.ptr y15 :: AV.agg [AV.int IntKind.i64 y16, AV.int IntKind.i64 y17, AV.int IntKind.i64 y18, AV.str y19] :: Env.sp 13 [])))))
def f23e16 (y0 : Option (Nat × Nat)) (y1 : Int) (y2 : Nat) (y3 : Nat) (y4 : Option (Nat × Nat)) (y5 : Nat) (y6 : Option Nat) (y7 : Int) (y8 : Nat) (y9 : Option (Nat × Nat)) (y10 : Nat) (y11 : Option Nat) (y12 : Int) (y13 : Int) : Env := AV.ptr y0 :: AV.int IntKind.i64 y1 :: Env.sp 2 (AV.ptr (some (y2, (0 : Nat))) :: Env.sp 1 (AV.ptr (some (y3, (0 : Nat))) :: Env.sp 1 (AV.slice y4 y5 y6 (4 : Nat) :: AV.int IntKind.i64 y7 :: AV.ptr (some (y8, (0 : Nat))) :: Env.sp 13 (AV.slice y9 y10 y11 (4 : Nat) :: AV.int IntKind.i64 y12 :: AV.int IntKind.i64 y13 :: Env.sp 17 []))))
def f23e17 (y0 : Option (Nat × Nat)) (y1 : Int) (y2 : Nat) (y3 : Nat) (y4 : Option (Nat × Nat)) (y5 : Nat) (y6 : Option Nat) (y7 : Int) (y8 : Nat) (y9 : Option (Nat × Nat)) (y10 : Nat) (y11 : Option Nat) (y12 : Int) (y13 : Int) (y14 : Int) (y15 : Int) (y16 : Bool) : Env := AV.ptr y0 :: AV.int IntKind.i64 y1 :: Env.sp 2 (AV.ptr (some (y2, (0 : Nat))) :: Env.sp 1 (AV.ptr (some (y3, (0 : Nat))) :: Env.sp 1 (AV.slice y4 y5 y6 (4 : Nat) :: AV.int IntKind.i64 y7 :: AV.ptr (some (y8, (0 : Nat))) :: Env.sp 13 (AV.slice y9 y10 y11 (4 : Nat) :: AV.int IntKind.i64 y12 :: AV.int IntKind.i64 y13 :: Env.sp 4 (AV.int IntKind.i64 y14 :: AV.int IntKind.i64 y15 :: AV.bool y16 :: Env.sp 10 [])))))
def f23e18 (y0 : Option (Nat × Nat)) (y1 : Int) (y2 : Nat) (y3 : Nat) (y4 : Option (Nat × Nat)) (y5 : Nat) (y6 : Option Nat) (y7 : Nat) (y8 : Option (Nat × Nat)) (y9 : Nat) (y10 : Option Nat) (y11 : Int) (y12 : Int) (y13 : Bool) : Env := AV.ptr y0 :: AV.int IntKind.i64 y1 :: Env.sp 2 (AV.ptr (some (y2, (0 : Nat))) :: Env.sp 1 (AV.ptr (some (y3, (0 : Nat))) :: Env.sp 1 (AV.slice y4 y5 y6 (4 : Nat) :: Env.sp 1 (AV.ptr (some (y7, (0 : Nat))) :: Env.sp 13 (AV.slice y8 y9 y10 (4 : Nat) :: AV.int IntKind.i64 y11 :: AV.int IntKind.i64 y12 :: Env.sp 6 (AV.bool y13 :: Env.sp 10 []))))))
def f23e19 (y0 : Option (Nat × Nat)) (y1 : Int) (y2 : Nat) (y3 : Nat) (y4 : Option (Nat × Nat)) (y5 : Nat) (y6 : Option Nat) (y7 : Nat) (y8 : Option (Nat × Nat)) (y9 : Nat) (y10 : Option Nat) (y11 : Int) (y12 : Int) (y13 : Bool) (y14 : Option (Nat × Nat)) (y15 : Nat) (y16 : Option Nat) (y17 : Int) (y18 : Int) (y19 : Int) (y20 : ByteArray) (y21 : Option (Nat × Nat)) (y22 : Nat) (y23 : Option Nat) (y24 : Option (Nat × Nat)) (y25 : Nat) (y26 : Option Nat) : Env := AV.ptr y0 :: AV.int IntKind.i64 y1 :: Env.sp 2 (AV.ptr (some (y2, (0 : Nat))) :: Env.sp 1 (AV.ptr (some (y3, (0 : Nat))) :: Env.sp 1 (AV.slice y4 y5 y6 (4 : Nat) :: Env.sp 1 (AV.ptr (some (y7, (0 : Nat))) :: Env.sp 13 (AV.slice y8 y9 y10 (4 : Nat) :: AV.int IntKind.i64 y11 :: AV.int IntKind.i64 y12 :: Env.sp 6 (AV.bool y13 :: AV.slice y14 y15 y16 (4 : Nat) :: AV.agg [AV.int IntKind.i64 y17, AV.int IntKind.i64 y18, AV.int IntKind.i64 y19, AV.str y20] :: AV.slice y21 y22 y23 (4 : Nat) :: AV.slice y24 y25 y26 (4 : Nat) :: Env.sp 6 []))))))
def f23e20 (y0 : Option (Nat × Nat)) (y1 : Int) (y2 : Nat) (y3 : Nat) (y4 : Option (Nat × Nat)) (y5 : Nat) (y6 : Option Nat) (y7 : Option (Nat × Nat)) (y8 : Nat) (y9 : Option Nat) (y10 : Int) (y11 : Int) (y12 : Int) : Env := AV.ptr y0 :: AV.int IntKind.i64 y1 :: Env.sp 2 (AV.ptr (some (y2, (0 : Nat))) :: Env.sp 1 (AV.ptr (some (y3, (0 : Nat))) :: Env.sp 1 (AV.slice y4 y5 y6 (4 : Nat) :: Env.sp 15 (AV.slice y7 y8 y9 (4 : Nat) :: AV.int IntKind.i64 y10 :: AV.int IntKind.i64 y11 :: Env.sp 11 (AV.int IntKind.i64 y12 :: Env.sp 5 [])))))
def f23e21 (y0 : Option (Nat × Nat)) (y1 : Nat) (y2 : Nat) (y3 : Option (Nat × Nat)) (y4 : Nat) (y5 : Option Nat) (y6 : Option (Nat × Nat)) (y7 : Option (Nat × Nat)) (y8 : Nat) (y9 : Option Nat) (y10 : Option (Nat × Nat)) (y11 : Option (Nat × Nat)) : Env := AV.ptr y0 :: Env.sp 3 (AV.ptr (some (y1, (0 : Nat))) :: Env.sp 1 (AV.ptr (some (y2, (0 : Nat))) :: Env.sp 1 (AV.slice y3 y4 y5 (4 : Nat) :: Env.sp 30 (AV.ptr y6 :: AV.slice y7 y8 y9 (4 : Nat) :: AV.ptr y10 :: AV.ptr y11 :: Env.sp 1 []))))
def f23e22 (y0 : Nat) (y1 : Nat) : Env := Env.sp 4 (AV.ptr (some (y0, (0 : Nat))) :: Env.sp 1 (AV.ptr (some (y1, (0 : Nat))) :: Env.sp 37 []))
def f23e23 (y0 : Nat) (y1 : Int) (y2 : Nat) (y3 : Int) (y4 : Int) (y5 : Int) (y6 : ByteArray) : Env := Env.sp 4 (AV.ptr (some (y0, (0 : Nat))) :: AV.int IntKind.i64 y1 :: AV.ptr (some (y2, (0 : Nat))) :: Env.sp 36 (AV.agg [AV.int IntKind.i64 y3, AV.int IntKind.i64 y4, AV.int IntKind.i64 y5, AV.str y6] :: []))

/- function 23 -/
theorem f23_eq {R : Type} (call : CallF R) (N : Nat) (y0 : Option (Nat × Nat)) (y1 : Int) (σ : St) (K : AV → St → Option R) :
    bodyK Try.prog call N ann 23 [AV.ptr y0, AV.int IntKind.i64 y1] σ K = runK Try.prog call N f23c0 f23a0 (bodyC Try.prog f23rs K) (f23e0 y0 y1) σ := bodyK_of (fn := ((Try.prog.funcs[23]?).get rfl)) (by kernel_rfl) (by kernel_rfl) (by kernel_rfl) (by kernel_rfl) (by kernel_rfl) (by kernel_rfl)
theorem f23n0 {R : Type} (call : CallF R) (N : Nat) (J : KF R) (e : Env) (σ : St) : runK Try.prog call N f23c0 f23a0 J e σ = runK Try.prog call N f23c1 f23a1 (seqC (fun K e σ => runK Try.prog call N f23c2 f23a2 K e σ) f23a0 J) e σ := runK_seq' (by kernel_rfl) (by kernel_rfl) (by kernel_rfl)
theorem f23r1_f23e0 {R : Type} (call : CallF R) (N : Nat) (y0 : Option (Nat × Nat)) (y1 : Int) (J : KF R) (σ : St) :
    runK Try.prog call N f23c1 f23a1 J (f23e0 y0 y1) σ =
J Ex.normal (f23e1 y0 y1 (St.next σ) (0 : Int))
  (St.new σ (Blk.cells [AV.int IntKind.i64 (0 : Int), AV.int IntKind.i64 (0 : Int), AV.int IntKind.i64 (0 : Int), AV.str (ByteArray.mk #[])] true)) := hide (by kernel_rfl)
theorem f23z0_f23e1 (y0 : Option (Nat × Nat)) (y1 : Int) (y2 : Nat) (y3 : Int) : Ann.clr f23a0 (f23e1 y0 y1 y2 y3) = f23e2 y0 y1 y2 := hide (by kernel_rfl)
theorem f23n2 {R : Type} (call : CallF R) (N : Nat) (J : KF R) (e : Env) (σ : St) : runK Try.prog call N f23c2 f23a2 J e σ = runK Try.prog call N f23c3 f23a3 (seqC (fun K e σ => runK Try.prog call N f23c4 f23a4 K e σ) f23a2 J) e σ := runK_seq' (by kernel_rfl) (by kernel_rfl) (by kernel_rfl)
theorem f23r3_f23e2 {R : Type} (call : CallF R) (N : Nat) (y0 : Option (Nat × Nat)) (y1 : Int) (y2 : Nat) (J : KF R) (σ : St) :
    runK Try.prog call N f23c3 f23a3 J (f23e2 y0 y1 y2) σ =
call (18 : Nat) [AV.ptr y0, AV.int IntKind.i64 y1] σ fun v0 v1 =>
  Option.bind (AV.toTuple v0) fun v2 =>
    if List.length v2 = (2 : Nat) then
      Option.bind (List.head? v2) fun v3 =>
        Option.bind (AV.toAgg v3) fun v4 =>
          if List.length v4 = (4 : Nat) then
            Option.bind (List.head? v4) fun v5 =>
              Option.bind (AV.toInt IntKind.i64 v5) fun v6 =>
                Option.bind (List.head? (List.tail v4)) fun v7 =>
                  Option.bind (AV.toInt IntKind.i64 v7) fun v8 =>
                    Option.bind (List.head? (List.tail (List.tail v4))) fun v9 =>
                      Option.bind (AV.toInt IntKind.i64 v9) fun v10 =>
                        Option.bind (List.head? (List.tail (List.tail (List.tail v4)))) fun v11 =>
                          Option.bind (AV.toStr v11) fun v12 =>
                            Option.bind (List.head? (List.tail v2)) fun v13 =>
                              Option.bind (AV.toInt IntKind.i64 v13) fun v14 =>
                                Option.bind
                                  (St.st
                                    (St.new v1
                                      (Blk.cells
                                        [AV.int IntKind.i64 (0 : Int), AV.int IntKind.i64 (0 : Int), AV.int IntKind.i64 (0 : Int),
                                          AV.str (ByteArray.mk #[])]
                                        true))
                                    (St.next v1) (0 : Nat) [AV.int IntKind.i64 v6, AV.int IntKind.i64 v8, AV.int IntKind.i64 v10, AV.str v12])
                                  fun v15 =>
                                  J Ex.normal (f23e3 y0 y1 y2 (St.next v1) v14 v6 v8 v10 v12 v14 y0 y1 v6 v8 v10 v12 v14 v6 v8 v10 v12 v14) v15
          else none
    else none := hide (by kernel_rfl)
theorem f23z2_f23e3 (y0 : Option (Nat × Nat)) (y1 : Int) (y2 : Nat) (y3 : Nat) (y4 : Int) (y5 : Int) (y6 : Int) (y7 : Int) (y8 : ByteArray) (y9 : Int) (y10 : Option (Nat × Nat)) (y11 : Int) (y12 : Int) (y13 : Int) (y14 : Int) (y15 : ByteArray) (y16 : Int) (y17 : Int) (y18 : Int) (y19 : Int) (y20 : ByteArray) (y21 : Int) : Ann.clr f23a2 (f23e3 y0 y1 y2 y3 y4 y5 y6 y7 y8 y9 y10 y11 y12 y13 y14 y15 y16 y17 y18 y19 y20 y21) = f23e4 y0 y1 y2 y3 y4 := hide (by kernel_rfl)
theorem f23n4 {R : Type} (call : CallF R) (N : Nat) (J : KF R) (e : Env) (σ : St) : runK Try.prog call N f23c4 f23a4 J e σ = runK Try.prog call N f23c5 f23a5 (seqC (fun K e σ => runK Try.prog call N f23c6 f23a6 K e σ) f23a4 J) e σ := runK_seq' (by kernel_rfl) (by kernel_rfl) (by kernel_rfl)
theorem f23n5 {R : Type} (call : CallF R) (N : Nat) (J : KF R) (e : Env) (σ : St) : runK Try.prog call N f23c5 f23a5 J e σ = runK Try.prog call N f23c7 f23a7 (seqC (fun K e σ => runK Try.prog call N f23c8 f23a8 K e σ) f23a5 J) e σ := runK_seq' (by kernel_rfl) (by kernel_rfl) (by kernel_rfl)
theorem f23r7_f23e4 {R : Type} (call : CallF R) (N : Nat) (y0 : Option (Nat × Nat)) (y1 : Int) (y2 : Nat) (y3 : Nat) (y4 : Int) (J : KF R) (σ : St) :
    runK Try.prog call N f23c7 f23a7 J (f23e4 y0 y1 y2 y3 y4) σ =
J Ex.normal (f23e5 y0 y1 y2 y3 y4 y4 (y4 != (0 : Int))) σ := hide (by kernel_rfl)
theorem f23z5_f23e5 (y0 : Option (Nat × Nat)) (y1 : Int) (y2 : Nat) (y3 : Nat) (y4 : Int) (y5 : Int) (y6 : Bool) : Ann.clr f23a5 (f23e5 y0 y1 y2 y3 y4 y5 y6) = f23e6 y0 y1 y2 y3 y4 y6 := hide (by kernel_rfl)
theorem f23x8_f23e6 {R : Type} (call : CallF R) (N : Nat) (y0 : Option (Nat × Nat)) (y1 : Int) (y2 : Nat) (y3 : Nat) (y4 : Int) (y5 : Bool) (J : KF R) (σ : St) : runK Try.prog call N f23c8 f23a8 J (f23e6 y0 y1 y2 y3 y4 y5) σ = if y5 = true then runK Try.prog call N f23c9 f23a9 (condC f23a8 J) (f23e6 y0 y1 y2 y3 y4 y5) σ else runK Try.prog call N f23c10 f23a10 (condC f23a8 J) (f23e6 y0 y1 y2 y3 y4 y5) σ := runK_cond' (o := Operand.tmp (18 : Nat)) (by kernel_rfl) (by kernel_rfl) (by kernel_rfl) (by kernel_rfl)
theorem f23n9 {R : Type} (call : CallF R) (N : Nat) (J : KF R) (e : Env) (σ : St) : runK Try.prog call N f23c9 f23a9 J e σ = runK Try.prog call N f23c11 f23a11 (seqC (fun K e σ => runK Try.prog call N f23c12 f23a12 K e σ) f23a9 J) e σ := runK_seq' (by kernel_rfl) (by kernel_rfl) (by kernel_rfl)
theorem f23r11_f23e6 {R : Type} (call : CallF R) (N : Nat) (y0 : Option (Nat × Nat)) (y1 : Int) (y2 : Nat) (y3 : Nat) (y4 : Int) (y5 : Bool) (J : KF R) (σ : St) :
    runK Try.prog call N f23c11 f23a11 J (f23e6 y0 y1 y2 y3 y4 y5) σ =
Option.bind (St.ld σ y3 (0 : Nat)) fun v0 =>
  Option.bind (AV.toInt IntKind.i64 v0) fun v1 =>
    Option.bind (St.ld σ y3 (1 : Nat)) fun v2 =>
      Option.bind (AV.toInt IntKind.i64 v2) fun v3 =>
        Option.bind (St.ld σ y3 (2 : Nat)) fun v4 =>
          Option.bind (AV.toInt IntKind.i64 v4) fun v5 =>
            Option.bind (St.ld σ y3 (3 : Nat)) fun v6 =>
              Option.bind (AV.toStr v6) fun v7 =>
                Option.bind (St.st σ y2 (0 : Nat) [AV.int IntKind.i64 v1, AV.int IntKind.i64 v3, AV.int IntKind.i64 v5, AV.str v7]) fun v8 =>
                  J Ex.normal (f23e7 y0 y1 y2 y4 y3 y4 y5 v1 v3 v5 v7 y4) v8 := hide (by kernel_rfl)
theorem f23z9_f23e7 (y0 : Option (Nat × Nat)) (y1 : Int) (y2 : Nat) (y3 : Int) (y4 : Nat) (y5 : Int) (y6 : Bool) (y7 : Int) (y8 : Int) (y9 : Int) (y10 : ByteArray) (y11 : Int) : Ann.clr f23a9 (f23e7 y0 y1 y2 y3 y4 y5 y6 y7 y8 y9 y10 y11) = f23e8 y2 y3 := hide (by kernel_rfl)
theorem f23y12_f23e8 {R : Type} (call : CallF R) (N : Nat) (y0 : Nat) (y1 : Int) (J : KF R) (σ : St) : runK Try.prog call N f23c12 f23a12 J (f23e8 y0 y1) σ = J .ret (f23e8 y0 y1) σ := runK_ret' (by kernel_rfl) (by kernel_rfl)
theorem f23n10 {R : Type} (call : CallF R) (N : Nat) (J : KF R) (e : Env) (σ : St) : runK Try.prog call N f23c10 f23a10 J e σ = J .normal e σ := runK_skip' (by kernel_rfl)
theorem f23z8_f23e6 (y0 : Option (Nat × Nat)) (y1 : Int) (y2 : Nat) (y3 : Nat) (y4 : Int) (y5 : Bool) : Ann.clr f23a8 (f23e6 y0 y1 y2 y3 y4 y5) = f23e9 y0 y1 y2 y3 := hide (by kernel_rfl)
theorem f23z4_f23e9 (y0 : Option (Nat × Nat)) (y1 : Int) (y2 : Nat) (y3 : Nat) : Ann.clr f23a4 (f23e9 y0 y1 y2 y3) = f23e9 y0 y1 y2 y3 := hide (by kernel_rfl)
theorem f23n6 {R : Type} (call : CallF R) (N : Nat) (J : KF R) (e : Env) (σ : St) : runK Try.prog call N f23c6 f23a6 J e σ = runK Try.prog call N f23c13 f23a13 (seqC (fun K e σ => runK Try.prog call N f23c14 f23a14 K e σ) f23a6 J) e σ := runK_seq' (by kernel_rfl) (by kernel_rfl) (by kernel_rfl)
theorem f23r13_f23e9 {R : Type} (call : CallF R) (N : Nat) (y0 : Option (Nat × Nat)) (y1 : Int) (y2 : Nat) (y3 : Nat) (J : KF R) (σ : St) :
    runK Try.prog call N f23c13 f23a13 J (f23e9 y0 y1 y2 y3) σ =
J Ex.normal (f23e10 y0 y1 y2 y3 none (0 : Nat) (some (0 : Nat))) σ := hide (by kernel_rfl)
theorem f23z6_f23e10 (y0 : Option (Nat × Nat)) (y1 : Int) (y2 : Nat) (y3 : Nat) (y4 : Option (Nat × Nat)) (y5 : Nat) (y6 : Option Nat) : Ann.clr f23a6 (f23e10 y0 y1 y2 y3 y4 y5 y6) = f23e10 y0 y1 y2 y3 y4 y5 y6 := hide (by kernel_rfl)
theorem f23n14 {R : Type} (call : CallF R) (N : Nat) (J : KF R) (e : Env) (σ : St) : runK Try.prog call N f23c14 f23a14 J e σ = runK Try.prog call N f23c15 f23a15 (seqC (fun K e σ => runK Try.prog call N f23c16 f23a16 K e σ) f23a14 J) e σ := runK_seq' (by kernel_rfl) (by kernel_rfl) (by kernel_rfl)
theorem f23n15 {R : Type} (call : CallF R) (N : Nat) (J : KF R) (e : Env) (σ : St) : runK Try.prog call N f23c15 f23a15 J e σ = runK Try.prog call N f23c17 f23a17 (seqC (fun K e σ => runK Try.prog call N f23c18 f23a18 K e σ) f23a15 J) e σ := runK_seq' (by kernel_rfl) (by kernel_rfl) (by kernel_rfl)
theorem f23r17_f23e10 {R : Type} (call : CallF R) (N : Nat) (y0 : Option (Nat × Nat)) (y1 : Int) (y2 : Nat) (y3 : Nat) (y4 : Option (Nat × Nat)) (y5 : Nat) (y6 : Option Nat) (J : KF R) (σ : St) :
    runK Try.prog call N f23c17 f23a17 J (f23e10 y0 y1 y2 y3 y4 y5 y6) σ =
Option.bind y0 fun v0 =>
  Option.bind (St.ld σ (Prod.fst v0) (Prod.snd v0)) fun v1 =>
    Option.bind (AV.toSl (4 : Nat) v1) fun v2 =>
      J Ex.normal
        (f23e11 y0 y1 y2 y3 y4 y5 y6 y0 (some v0) (some (Prod.fst v0, Prod.snd v0)) (Sl.o v2) (Sl.len v2) (Sl.cap v2) (↑(Sl.len v2) : Int) (0 : Int))
        σ := hide (by kernel_rfl)
theorem f23z15_f23e11 (y0 : Option (Nat × Nat)) (y1 : Int) (y2 : Nat) (y3 : Nat) (y4 : Option (Nat × Nat)) (y5 : Nat) (y6 : Option Nat) (y7 : Option (Nat × Nat)) (y8 : Option (Nat × Nat)) (y9 : Option (Nat × Nat)) (y10 : Option (Nat × Nat)) (y11 : Nat) (y12 : Option Nat) (y13 : Int) (y14 : Int) : Ann.clr f23a15 (f23e11 y0 y1 y2 y3 y4 y5 y6 y7 y8 y9 y10 y11 y12 y13 y14) = f23e12 y0 y1 y2 y3 y4 y5 y6 y10 y11 y12 y13 y14 := hide (by kernel_rfl)
theorem f23n18 {R : Type} (call : CallF R) (N : Nat) (J : KF R) (e : Env) (σ : St) : runK Try.prog call N f23c18 f23a18 J e σ = runK Try.prog call N f23c19 f23a19 (blockC 0 f23a18 J) e σ := runK_block' (by kernel_rfl) (by kernel_rfl)
theorem f23L19_eq {R : Type} (call : CallF R) (N : Nat) (J : KF R) (e : Env) (σ : St) : f23L19 call N J e σ = runK Try.prog call N f23c20 f23a20 J e σ := hide rfl
theorem f23z19_f23e12 (y0 : Option (Nat × Nat)) (y1 : Int) (y2 : Nat) (y3 : Nat) (y4 : Option (Nat × Nat)) (y5 : Nat) (y6 : Option Nat) (y7 : Option (Nat × Nat)) (y8 : Nat) (y9 : Option Nat) (y10 : Int) (y11 : Int) : Ann.clr f23a19 (f23e12 y0 y1 y2 y3 y4 y5 y6 y7 y8 y9 y10 y11) = f23e12 y0 y1 y2 y3 y4 y5 y6 y7 y8 y9 y10 y11 := hide (by kernel_rfl)
theorem f23l19_f23e12 {R : Type} (call : CallF R) (N : Nat) (y0 : Option (Nat × Nat)) (y1 : Int) (y2 : Nat) (y3 : Nat) (y4 : Option (Nat × Nat)) (y5 : Nat) (y6 : Option Nat) (y7 : Option (Nat × Nat)) (y8 : Nat) (y9 : Option Nat) (y10 : Int) (y11 : Int) (J : KF R) (σ : St) : runK Try.prog call N f23c19 f23a19 J (f23e12 y0 y1 y2 y3 y4 y5 y6 y7 y8 y9 y10 y11) σ = loopK (f23L19 call N) f23a19 N J (f23e12 y0 y1 y2 y3 y4 y5 y6 y7 y8 y9 y10 y11) σ := runK_loop' (by kernel_rfl) (by kernel_rfl) (by kernel_rfl)
theorem f23n20 {R : Type} (call : CallF R) (N : Nat) (J : KF R) (e : Env) (σ : St) : runK Try.prog call N f23c20 f23a20 J e σ = runK Try.prog call N f23c21 f23a21 (seqC (fun K e σ => runK Try.prog call N f23c22 f23a22 K e σ) f23a20 J) e σ := runK_seq' (by kernel_rfl) (by kernel_rfl) (by kernel_rfl)
theorem f23r21_f23e12 {R : Type} (call : CallF R) (N : Nat) (y0 : Option (Nat × Nat)) (y1 : Int) (y2 : Nat) (y3 : Nat) (y4 : Option (Nat × Nat)) (y5 : Nat) (y6 : Option Nat) (y7 : Option (Nat × Nat)) (y8 : Nat) (y9 : Option Nat) (y10 : Int) (y11 : Int) (J : KF R) (σ : St) :
    runK Try.prog call N f23c21 f23a21 J (f23e12 y0 y1 y2 y3 y4 y5 y6 y7 y8 y9 y10 y11) σ =
J Ex.normal (f23e13 y0 y1 y2 y3 y4 y5 y6 y7 y8 y9 y10 y11 (decide (y11 < y10))) σ := hide (by kernel_rfl)
theorem f23z20_f23e13 (y0 : Option (Nat × Nat)) (y1 : Int) (y2 : Nat) (y3 : Nat) (y4 : Option (Nat × Nat)) (y5 : Nat) (y6 : Option Nat) (y7 : Option (Nat × Nat)) (y8 : Nat) (y9 : Option Nat) (y10 : Int) (y11 : Int) (y12 : Bool) : Ann.clr f23a20 (f23e13 y0 y1 y2 y3 y4 y5 y6 y7 y8 y9 y10 y11 y12) = f23e13 y0 y1 y2 y3 y4 y5 y6 y7 y8 y9 y10 y11 y12 := hide (by kernel_rfl)
theorem f23n22 {R : Type} (call : CallF R) (N : Nat) (J : KF R) (e : Env) (σ : St) : runK Try.prog call N f23c22 f23a22 J e σ = runK Try.prog call N f23c23 f23a23 (seqC (fun K e σ => runK Try.prog call N f23c24 f23a24 K e σ) f23a22 J) e σ := runK_seq' (by kernel_rfl) (by kernel_rfl) (by kernel_rfl)
theorem f23x23_f23e13 {R : Type} (call : CallF R) (N : Nat) (y0 : Option (Nat × Nat)) (y1 : Int) (y2 : Nat) (y3 : Nat) (y4 : Option (Nat × Nat)) (y5 : Nat) (y6 : Option Nat) (y7 : Option (Nat × Nat)) (y8 : Nat) (y9 : Option Nat) (y10 : Int) (y11 : Int) (y12 : Bool) (J : KF R) (σ : St) : runK Try.prog call N f23c23 f23a23 J (f23e13 y0 y1 y2 y3 y4 y5 y6 y7 y8 y9 y10 y11 y12) σ = if y12 = true then runK Try.prog call N f23c25 f23a25 (condC f23a23 J) (f23e13 y0 y1 y2 y3 y4 y5 y6 y7 y8 y9 y10 y11 y12) σ else runK Try.prog call N f23c26 f23a26 (condC f23a23 J) (f23e13 y0 y1 y2 y3 y4 y5 y6 y7 y8 y9 y10 y11 y12) σ := runK_cond' (o := Operand.tmp (27 : Nat)) (by kernel_rfl) (by kernel_rfl) (by kernel_rfl) (by kernel_rfl)
theorem f23n25 {R : Type} (call : CallF R) (N : Nat) (J : KF R) (e : Env) (σ : St) : runK Try.prog call N f23c25 f23a25 J e σ = J .normal e σ := runK_skip' (by kernel_rfl)
theorem f23z23_f23e13 (y0 : Option (Nat × Nat)) (y1 : Int) (y2 : Nat) (y3 : Nat) (y4 : Option (Nat × Nat)) (y5 : Nat) (y6 : Option Nat) (y7 : Option (Nat × Nat)) (y8 : Nat) (y9 : Option Nat) (y10 : Int) (y11 : Int) (y12 : Bool) : Ann.clr f23a23 (f23e13 y0 y1 y2 y3 y4 y5 y6 y7 y8 y9 y10 y11 y12) = f23e12 y0 y1 y2 y3 y4 y5 y6 y7 y8 y9 y10 y11 := hide (by kernel_rfl)
theorem f23y26_f23e13 {R : Type} (call : CallF R) (N : Nat) (y0 : Option (Nat × Nat)) (y1 : Int) (y2 : Nat) (y3 : Nat) (y4 : Option (Nat × Nat)) (y5 : Nat) (y6 : Option Nat) (y7 : Option (Nat × Nat)) (y8 : Nat) (y9 : Option Nat) (y10 : Int) (y11 : Int) (y12 : Bool) (J : KF R) (σ : St) : runK Try.prog call N f23c26 f23a26 J (f23e13 y0 y1 y2 y3 y4 y5 y6 y7 y8 y9 y10 y11 y12) σ = J (.exit 0) (f23e14 y0 y2 y3 y4 y5 y6) σ := runK_exit' (by kernel_rfl) (by kernel_rfl)
theorem f23z22_f23e12 (y0 : Option (Nat × Nat)) (y1 : Int) (y2 : Nat) (y3 : Nat) (y4 : Option (Nat × Nat)) (y5 : Nat) (y6 : Option Nat) (y7 : Option (Nat × Nat)) (y8 : Nat) (y9 : Option Nat) (y10 : Int) (y11 : Int) : Ann.clr f23a22 (f23e12 y0 y1 y2 y3 y4 y5 y6 y7 y8 y9 y10 y11) = f23e12 y0 y1 y2 y3 y4 y5 y6 y7 y8 y9 y10 y11 := hide (by kernel_rfl)
theorem f23n24 {R : Type} (call : CallF R) (N : Nat) (J : KF R) (e : Env) (σ : St) : runK Try.prog call N f23c24 f23a24 J e σ = runK Try.prog call N f23c27 f23a27 (seqC (fun K e σ => runK Try.prog call N f23c28 f23a28 K e σ) f23a24 J) e σ := runK_seq' (by kernel_rfl) (by kernel_rfl) (by kernel_rfl)
theorem f23n27 {R : Type} (call : CallF R) (N : Nat) (J : KF R) (e : Env) (σ : St) : runK Try.prog call N f23c27 f23a27 J e σ = runK Try.prog call N f23c29 f23a29 (blockC 1 f23a27 J) e σ := runK_block' (by kernel_rfl) (by kernel_rfl)
theorem f23n29 {R : Type} (call : CallF R) (N : Nat) (J : KF R) (e : Env) (σ : St) : runK Try.prog call N f23c29 f23a29 J e σ = runK Try.prog call N f23c30 f23a30 (seqC (fun K e σ => runK Try.prog call N f23c31 f23a31 K e σ) f23a29 J) e σ := runK_seq' (by kernel_rfl) (by kernel_rfl) (by kernel_rfl)
theorem f23r30_f23e12 {R : Type} (call : CallF R) (N : Nat) (y0 : Option (Nat × Nat)) (y1 : Int) (y2 : Nat) (y3 : Nat) (y4 : Option (Nat × Nat)) (y5 : Nat) (y6 : Option Nat) (y7 : Option (Nat × Nat)) (y8 : Nat) (y9 : Option Nat) (y10 : Int) (y11 : Int) (J : KF R) (σ : St) :
    runK Try.prog call N f23c30 f23a30 J (f23e12 y0 y1 y2 y3 y4 y5 y6 y7 y8 y9 y10 y11) σ =
if (0 : Int) ≤ y11 ∧ y11 < (↑y8 : Int) then
  Option.bind y7 fun v0 =>
    Option.bind (St.ld σ (Prod.fst v0) (Prod.snd v0 + Int.toNat y11 * (4 : Nat))) fun v1 =>
      Option.bind (AV.toInt IntKind.i64 v1) fun v2 =>
        Option.bind (St.ld σ (Prod.fst v0) (Prod.snd v0 + Int.toNat y11 * (4 : Nat) + (1 : Nat))) fun v3 =>
          Option.bind (AV.toInt IntKind.i64 v3) fun v4 =>
            Option.bind (St.ld σ (Prod.fst v0) (Prod.snd v0 + Int.toNat y11 * (4 : Nat) + (2 : Nat))) fun v5 =>
              Option.bind (AV.toInt IntKind.i64 v5) fun v6 =>
                Option.bind (St.ld σ (Prod.fst v0) (Prod.snd v0 + Int.toNat y11 * (4 : Nat) + (3 : Nat))) fun v7 =>
                  Option.bind (AV.toStr v7) fun v8 =>
                    Option.bind
                      (St.st
                        (St.new σ
                          (Blk.cells
                            [AV.int IntKind.i64 (0 : Int), AV.int IntKind.i64 (0 : Int), AV.int IntKind.i64 (0 : Int), AV.str (ByteArray.mk #[])]
                            true))
                        (St.next σ) (0 : Nat) [AV.int IntKind.i64 v2, AV.int IntKind.i64 v4, AV.int IntKind.i64 v6, AV.str v8])
                      fun v9 =>
                      J Ex.normal
                        (f23e15 y0 y1 y2 y3 y4 y5 y6 y11 (St.next σ) y7 y8 y9 y10 y11 y11
                          (some (Prod.fst v0, Prod.snd v0 + Int.toNat y11 * (4 : Nat))) v2 v4 v6 v8)
                        v9
else none := hide (by kernel_rfl)
theorem f23z29_f23e15 (y0 : Option (Nat × Nat)) (y1 : Int) (y2 : Nat) (y3 : Nat) (y4 : Option (Nat × Nat)) (y5 : Nat) (y6 : Option Nat) (y7 : Int) (y8 : Nat) (y9 : Option (Nat × Nat)) (y10 : Nat) (y11 : Option Nat) (y12 : Int) (y13 : Int) (y14 : Int) (y15 : Option (Nat × Nat)) (y16 : Int) (y17 : Int) (y18 : Int) (y19 : ByteArray) : Ann.clr f23a29 (f23e15 y0 y1 y2 y3 y4 y5 y6 y7 y8 y9 y10 y11 y12 y13 y14 y15 y16 y17 y18 y19) = f23e16 y0 y1 y2 y3 y4 y5 y6 y7 y8 y9 y10 y11 y12 y13 := hide (by kernel_rfl)
theorem f23n31 {R : Type} (call : CallF R) (N : Nat) (J : KF R) (e : Env) (σ : St) : runK Try.prog call N f23c31 f23a31 J e σ = runK Try.prog call N f23c32 f23a32 (seqC (fun K e σ => runK Try.prog call N f23c33 f23a33 K e σ) f23a31 J) e σ := runK_seq' (by kernel_rfl) (by kernel_rfl) (by kernel_rfl)
theorem f23r32_f23e16 {R : Type} (call : CallF R) (N : Nat) (y0 : Option (Nat × Nat)) (y1 : Int) (y2 : Nat) (y3 : Nat) (y4 : Option (Nat × Nat)) (y5 : Nat) (y6 : Option Nat) (y7 : Int) (y8 : Nat) (y9 : Option (Nat × Nat)) (y10 : Nat) (y11 : Option Nat) (y12 : Int) (y13 : Int) (J : KF R) (σ : St) :
    runK Try.prog call N f23c32 f23a32 J (f23e16 y0 y1 y2 y3 y4 y5 y6 y7 y8 y9 y10 y11 y12 y13) σ =
J Ex.normal (f23e17 y0 y1 y2 y3 y4 y5 y6 y7 y8 y9 y10 y11 y12 y13 y7 y1 (y7 != y1)) σ := hide (by kernel_rfl)
theorem f23z31_f23e17 (y0 : Option (Nat × Nat)) (y1 : Int) (y2 : Nat) (y3 : Nat) (y4 : Option (Nat × Nat)) (y5 : Nat) (y6 : Option Nat) (y7 : Int) (y8 : Nat) (y9 : Option (Nat × Nat)) (y10 : Nat) (y11 : Option Nat) (y12 : Int) (y13 : Int) (y14 : Int) (y15 : Int) (y16 : Bool) : Ann.clr f23a31 (f23e17 y0 y1 y2 y3 y4 y5 y6 y7 y8 y9 y10 y11 y12 y13 y14 y15 y16) = f23e18 y0 y1 y2 y3 y4 y5 y6 y8 y9 y10 y11 y12 y13 y16 := hide (by kernel_rfl)
theorem f23x33_f23e18 {R : Type} (call : CallF R) (N : Nat) (y0 : Option (Nat × Nat)) (y1 : Int) (y2 : Nat) (y3 : Nat) (y4 : Option (Nat × Nat)) (y5 : Nat) (y6 : Option Nat) (y7 : Nat) (y8 : Option (Nat × Nat)) (y9 : Nat) (y10 : Option Nat) (y11 : Int) (y12 : Int) (y13 : Bool) (J : KF R) (σ : St) : runK Try.prog call N f23c33 f23a33 J (f23e18 y0 y1 y2 y3 y4 y5 y6 y7 y8 y9 y10 y11 y12 y13) σ = if y13 = true then runK Try.prog call N f23c34 f23a34 (condC f23a33 J) (f23e18 y0 y1 y2 y3 y4 y5 y6 y7 y8 y9 y10 y11 y12 y13) σ else runK Try.prog call N f23c35 f23a35 (condC f23a33 J) (f23e18 y0 y1 y2 y3 y4 y5 y6 y7 y8 y9 y10 y11 y12 y13) σ := runK_cond' (o := Operand.tmp (33 : Nat)) (by kernel_rfl) (by kernel_rfl) (by kernel_rfl) (by kernel_rfl)
theorem f23r34_f23e18 {R : Type} (call : CallF R) (N : Nat) (y0 : Option (Nat × Nat)) (y1 : Int) (y2 : Nat) (y3 : Nat) (y4 : Option (Nat × Nat)) (y5 : Nat) (y6 : Option Nat) (y7 : Nat) (y8 : Option (Nat × Nat)) (y9 : Nat) (y10 : Option Nat) (y11 : Int) (y12 : Int) (y13 : Bool) (J : KF R) (σ : St) :
    runK Try.prog call N f23c34 f23a34 J (f23e18 y0 y1 y2 y3 y4 y5 y6 y7 y8 y9 y10 y11 y12 y13) σ =
Option.bind (St.ld σ y7 (0 : Nat)) fun v0 =>
  Option.bind (AV.toInt IntKind.i64 v0) fun v1 =>
    Option.bind (St.ld σ y7 (1 : Nat)) fun v2 =>
      Option.bind (AV.toInt IntKind.i64 v2) fun v3 =>
        Option.bind (St.ld σ y7 (2 : Nat)) fun v4 =>
          Option.bind (AV.toInt IntKind.i64 v4) fun v5 =>
            Option.bind (St.ld σ y7 (3 : Nat)) fun v6 =>
              Option.bind (AV.toStr v6) fun v7 =>
                Option.bind
                  (St.elems (St.new σ (Blk.cells [AV.int IntKind.i64 v1, AV.int IntKind.i64 v3, AV.int IntKind.i64 v5, AV.str v7] true)) (4 : Nat)
                    (Sl.mk (some (St.next σ, (0 : Nat))) (1 : Nat) (some (1 : Nat))) (1 : Nat))
                  fun v8 =>
                  Option.bind
                    (St.app (St.new σ (Blk.cells [AV.int IntKind.i64 v1, AV.int IntKind.i64 v3, AV.int IntKind.i64 v5, AV.str v7] true)) (4 : Nat)
                      (40 : Nat) (Sl.mk y4 y5 y6) (1 : Nat) v8)
                    fun v9 =>
                    J Ex.normal
                      (f23e19 y0 y1 y2 y3 (Sl.o (Prod.fst v9)) (Sl.len (Prod.fst v9)) (Sl.cap (Prod.fst v9)) y7 y8 y9 y10 y11 y12 y13 y4 y5 y6 v1 v3
                        v5 v7 (some (St.next σ, (0 : Nat))) (1 : Nat) (some (1 : Nat)) (Sl.o (Prod.fst v9)) (Sl.len (Prod.fst v9))
                        (Sl.cap (Prod.fst v9)))
                      (Prod.snd v9) := hide (by kernel_rfl)
theorem f23z33_f23e19 (y0 : Option (Nat × Nat)) (y1 : Int) (y2 : Nat) (y3 : Nat) (y4 : Option (Nat × Nat)) (y5 : Nat) (y6 : Option Nat) (y7 : Nat) (y8 : Option (Nat × Nat)) (y9 : Nat) (y10 : Option Nat) (y11 : Int) (y12 : Int) (y13 : Bool) (y14 : Option (Nat × Nat)) (y15 : Nat) (y16 : Option Nat) (y17 : Int) (y18 : Int) (y19 : Int) (y20 : ByteArray) (y21 : Option (Nat × Nat)) (y22 : Nat) (y23 : Option Nat) (y24 : Option (Nat × Nat)) (y25 : Nat) (y26 : Option Nat) : Ann.clr f23a33 (f23e19 y0 y1 y2 y3 y4 y5 y6 y7 y8 y9 y10 y11 y12 y13 y14 y15 y16 y17 y18 y19 y20 y21 y22 y23 y24 y25 y26) = f23e12 y0 y1 y2 y3 y4 y5 y6 y8 y9 y10 y11 y12 := hide (by kernel_rfl)
theorem f23n35 {R : Type} (call : CallF R) (N : Nat) (J : KF R) (e : Env) (σ : St) : runK Try.prog call N f23c35 f23a35 J e σ = J .normal e σ := runK_skip' (by kernel_rfl)
theorem f23z33_f23e18 (y0 : Option (Nat × Nat)) (y1 : Int) (y2 : Nat) (y3 : Nat) (y4 : Option (Nat × Nat)) (y5 : Nat) (y6 : Option Nat) (y7 : Nat) (y8 : Option (Nat × Nat)) (y9 : Nat) (y10 : Option Nat) (y11 : Int) (y12 : Int) (y13 : Bool) : Ann.clr f23a33 (f23e18 y0 y1 y2 y3 y4 y5 y6 y7 y8 y9 y10 y11 y12 y13) = f23e12 y0 y1 y2 y3 y4 y5 y6 y8 y9 y10 y11 y12 := hide (by kernel_rfl)
theorem f23z27_f23e12 (y0 : Option (Nat × Nat)) (y1 : Int) (y2 : Nat) (y3 : Nat) (y4 : Option (Nat × Nat)) (y5 : Nat) (y6 : Option Nat) (y7 : Option (Nat × Nat)) (y8 : Nat) (y9 : Option Nat) (y10 : Int) (y11 : Int) : Ann.clr f23a27 (f23e12 y0 y1 y2 y3 y4 y5 y6 y7 y8 y9 y10 y11) = f23e12 y0 y1 y2 y3 y4 y5 y6 y7 y8 y9 y10 y11 := hide (by kernel_rfl)
theorem f23z24_f23e12 (y0 : Option (Nat × Nat)) (y1 : Int) (y2 : Nat) (y3 : Nat) (y4 : Option (Nat × Nat)) (y5 : Nat) (y6 : Option Nat) (y7 : Option (Nat × Nat)) (y8 : Nat) (y9 : Option Nat) (y10 : Int) (y11 : Int) : Ann.clr f23a24 (f23e12 y0 y1 y2 y3 y4 y5 y6 y7 y8 y9 y10 y11) = f23e12 y0 y1 y2 y3 y4 y5 y6 y7 y8 y9 y10 y11 := hide (by kernel_rfl)
theorem f23r28_f23e12 {R : Type} (call : CallF R) (N : Nat) (y0 : Option (Nat × Nat)) (y1 : Int) (y2 : Nat) (y3 : Nat) (y4 : Option (Nat × Nat)) (y5 : Nat) (y6 : Option Nat) (y7 : Option (Nat × Nat)) (y8 : Nat) (y9 : Option Nat) (y10 : Int) (y11 : Int) (J : KF R) (σ : St) :
    runK Try.prog call N f23c28 f23a28 J (f23e12 y0 y1 y2 y3 y4 y5 y6 y7 y8 y9 y10 y11) σ =
J Ex.normal (f23e20 y0 y1 y2 y3 y4 y5 y6 y7 y8 y9 y10 (IntKind.wrap IntKind.i64 (y11 + (1 : Int))) (IntKind.wrap IntKind.i64 (y11 + (1 : Int)))) σ := hide (by kernel_rfl)
theorem f23z19_f23e20 (y0 : Option (Nat × Nat)) (y1 : Int) (y2 : Nat) (y3 : Nat) (y4 : Option (Nat × Nat)) (y5 : Nat) (y6 : Option Nat) (y7 : Option (Nat × Nat)) (y8 : Nat) (y9 : Option Nat) (y10 : Int) (y11 : Int) (y12 : Int) : Ann.clr f23a19 (f23e20 y0 y1 y2 y3 y4 y5 y6 y7 y8 y9 y10 y11 y12) = f23e12 y0 y1 y2 y3 y4 y5 y6 y7 y8 y9 y10 y11 := hide (by kernel_rfl)
theorem f23z18_f23e14 (y0 : Option (Nat × Nat)) (y1 : Nat) (y2 : Nat) (y3 : Option (Nat × Nat)) (y4 : Nat) (y5 : Option Nat) : Ann.clr f23a18 (f23e14 y0 y1 y2 y3 y4 y5) = f23e14 y0 y1 y2 y3 y4 y5 := hide (by kernel_rfl)
theorem f23z14_f23e14 (y0 : Option (Nat × Nat)) (y1 : Nat) (y2 : Nat) (y3 : Option (Nat × Nat)) (y4 : Nat) (y5 : Option Nat) : Ann.clr f23a14 (f23e14 y0 y1 y2 y3 y4 y5) = f23e14 y0 y1 y2 y3 y4 y5 := hide (by kernel_rfl)
theorem f23n16 {R : Type} (call : CallF R) (N : Nat) (J : KF R) (e : Env) (σ : St) : runK Try.prog call N f23c16 f23a16 J e σ = runK Try.prog call N f23c36 f23a36 (seqC (fun K e σ => runK Try.prog call N f23c37 f23a37 K e σ) f23a16 J) e σ := runK_seq' (by kernel_rfl) (by kernel_rfl) (by kernel_rfl)
theorem f23r36_f23e14 {R : Type} (call : CallF R) (N : Nat) (y0 : Option (Nat × Nat)) (y1 : Nat) (y2 : Nat) (y3 : Option (Nat × Nat)) (y4 : Nat) (y5 : Option Nat) (J : KF R) (σ : St) :
    runK Try.prog call N f23c36 f23a36 J (f23e14 y0 y1 y2 y3 y4 y5) σ =
Option.bind y0 fun v0 =>
  Option.bind (St.st σ (Prod.fst v0) (Prod.snd v0) [AV.slice y3 y4 y5 (4 : Nat)]) fun v1 =>
    J Ex.normal (f23e21 y0 y1 y2 y3 y4 y5 y0 y3 y4 y5 (some v0) (some (Prod.fst v0, Prod.snd v0))) v1 := hide (by kernel_rfl)
theorem f23z16_f23e21 (y0 : Option (Nat × Nat)) (y1 : Nat) (y2 : Nat) (y3 : Option (Nat × Nat)) (y4 : Nat) (y5 : Option Nat) (y6 : Option (Nat × Nat)) (y7 : Option (Nat × Nat)) (y8 : Nat) (y9 : Option Nat) (y10 : Option (Nat × Nat)) (y11 : Option (Nat × Nat)) : Ann.clr f23a16 (f23e21 y0 y1 y2 y3 y4 y5 y6 y7 y8 y9 y10 y11) = f23e22 y1 y2 := hide (by kernel_rfl)
theorem f23n37 {R : Type} (call : CallF R) (N : Nat) (J : KF R) (e : Env) (σ : St) : runK Try.prog call N f23c37 f23a37 J e σ = runK Try.prog call N f23c38 f23a38 (seqC (fun K e σ => runK Try.prog call N f23c39 f23a39 K e σ) f23a37 J) e σ := runK_seq' (by kernel_rfl) (by kernel_rfl) (by kernel_rfl)
theorem f23r38_f23e22 {R : Type} (call : CallF R) (N : Nat) (y0 : Nat) (y1 : Nat) (J : KF R) (σ : St) :
    runK Try.prog call N f23c38 f23a38 J (f23e22 y0 y1) σ =
Option.bind (St.ld σ y1 (0 : Nat)) fun v0 =>
  Option.bind (AV.toInt IntKind.i64 v0) fun v1 =>
    Option.bind (St.ld σ y1 (1 : Nat)) fun v2 =>
      Option.bind (AV.toInt IntKind.i64 v2) fun v3 =>
        Option.bind (St.ld σ y1 (2 : Nat)) fun v4 =>
          Option.bind (AV.toInt IntKind.i64 v4) fun v5 =>
            Option.bind (St.ld σ y1 (3 : Nat)) fun v6 =>
              Option.bind (AV.toStr v6) fun v7 =>
                Option.bind (St.st σ y0 (0 : Nat) [AV.int IntKind.i64 v1, AV.int IntKind.i64 v3, AV.int IntKind.i64 v5, AV.str v7]) fun v8 =>
                  J Ex.normal (f23e23 y0 (0 : Int) y1 v1 v3 v5 v7) v8 := hide (by kernel_rfl)
theorem f23z37_f23e23 (y0 : Nat) (y1 : Int) (y2 : Nat) (y3 : Int) (y4 : Int) (y5 : Int) (y6 : ByteArray) : Ann.clr f23a37 (f23e23 y0 y1 y2 y3 y4 y5 y6) = f23e8 y0 y1 := hide (by kernel_rfl)
theorem f23y39_f23e8 {R : Type} (call : CallF R) (N : Nat) (y0 : Nat) (y1 : Int) (J : KF R) (σ : St) : runK Try.prog call N f23c39 f23a39 J (f23e8 y0 y1) σ = J .ret (f23e8 y0 y1) σ := runK_ret' (by kernel_rfl) (by kernel_rfl)
theorem f23b_f23e8_r {R : Type} (y0 : Nat) (y1 : Int) (σ : St) (K : AV → St → Option R) : bodyC Try.prog f23rs K (Ex.ret) (f23e8 y0 y1) σ =
Option.bind (St.ld σ y0 (0 : Nat)) fun v0 =>
  Option.bind (AV.toInt IntKind.i64 v0) fun v1 =>
    Option.bind (St.ld σ y0 (1 : Nat)) fun v2 =>
      Option.bind (AV.toInt IntKind.i64 v2) fun v3 =>
        Option.bind (St.ld σ y0 (2 : Nat)) fun v4 =>
          Option.bind (AV.toInt IntKind.i64 v4) fun v5 =>
            Option.bind (St.ld σ y0 (3 : Nat)) fun v6 =>
              Option.bind (AV.toStr v6) fun v7 =>
                K (AV.tuple [AV.agg [AV.int IntKind.i64 v1, AV.int IntKind.i64 v3, AV.int IntKind.i64 v5, AV.str v7], AV.int IntKind.i64 y1]) σ := hide (by kernel_rfl)
attribute [go_sem] f23_eq f23n0 f23r1_f23e0 f23z0_f23e1 f23n2 f23r3_f23e2 f23z2_f23e3 f23n4 f23n5 f23r7_f23e4 f23z5_f23e5 f23x8_f23e6 f23n9 f23r11_f23e6 f23z9_f23e7 f23y12_f23e8 f23n10 f23z8_f23e6 f23z4_f23e9 f23n6 f23r13_f23e9 f23z6_f23e10 f23n14 f23n15 f23r17_f23e10 f23z15_f23e11 f23n18 f23L19_eq f23z19_f23e12 f23l19_f23e12 f23n20 f23r21_f23e12 f23z20_f23e13 f23n22 f23x23_f23e13 f23n25 f23z23_f23e13 f23y26_f23e13 f23z22_f23e12 f23n24 f23n27 f23n29 f23r30_f23e12 f23z29_f23e15 f23n31 f23r32_f23e16 f23z31_f23e17 f23x33_f23e18 f23r34_f23e18 f23z33_f23e19 f23n35 f23z33_f23e18 f23z27_f23e12 f23z24_f23e12 f23r28_f23e12 f23z19_f23e20 f23z18_f23e14 f23z14_f23e14 f23n16 f23r36_f23e14 f23z16_f23e21 f23n37 f23r38_f23e22 f23z37_f23e23 f23y39_f23e8 f23b_f23e8_r

end Go.Proofs.Ytdebkakkeaanaaa
