/- What the machine does with each piece of code, in plain text. PRINTED by a program of this workplace; Lean checks it. -/
import Derived.Test.YtmgacgonoodkfaaSlAnn
import Derived.Test.YtmgacgonoodkfaaProg
import Derived.KernelRfl
import Derived.Attr
namespace Go.Proofs.Ytmgacgonoodkfaa
open Go.AM
set_option maxRecDepth 100000
set_option linter.unusedVariables false
noncomputable def f19rs : List ResultVar := [ResultVar.tmp (0 : Nat)]
noncomputable def f19c0 : Code := subCode [] (bodyOf Try.prog 19)
def f19a0 : Ann := subAnn [] ann19
noncomputable def f19c1 : Code := subCode [0] (bodyOf Try.prog 19)
def f19a1 : Ann := subAnn [0] ann19
noncomputable def f19c2 : Code := subCode [1] (bodyOf Try.prog 19)
def f19a2 : Ann := subAnn [1] ann19
noncomputable def f19c3 : Code := subCode [1, 0] (bodyOf Try.prog 19)
def f19a3 : Ann := subAnn [1, 0] ann19
noncomputable def f19c4 : Code := subCode [1, 1] (bodyOf Try.prog 19)
def f19a4 : Ann := subAnn [1, 1] ann19
noncomputable def f19c5 : Code := subCode [1, 1, 0] (bodyOf Try.prog 19)
def f19a5 : Ann := subAnn [1, 1, 0] ann19
noncomputable def f19c6 : Code := subCode [1, 1, 1] (bodyOf Try.prog 19)
def f19a6 : Ann := subAnn [1, 1, 1] ann19
noncomputable def f19c7 : Code := subCode [1, 1, 0, 0] (bodyOf Try.prog 19)
def f19a7 : Ann := subAnn [1, 1, 0, 0] ann19
noncomputable def f19c8 : Code := subCode [1, 1, 0, 1] (bodyOf Try.prog 19)
def f19a8 : Ann := subAnn [1, 1, 0, 1] ann19
noncomputable def f19c9 : Code := subCode [1, 1, 0, 1, 0] (bodyOf Try.prog 19)
def f19a9 : Ann := subAnn [1, 1, 0, 1, 0] ann19
noncomputable def f19c10 : Code := subCode [1, 1, 0, 1, 1] (bodyOf Try.prog 19)
def f19a10 : Ann := subAnn [1, 1, 0, 1, 1] ann19
noncomputable def f19c11 : Code := subCode [1, 1, 0, 1, 0, 0] (bodyOf Try.prog 19)
def f19a11 : Ann := subAnn [1, 1, 0, 1, 0, 0] ann19
noncomputable def f19c12 : Code := subCode [1, 1, 0, 1, 0, 1] (bodyOf Try.prog 19)
def f19a12 : Ann := subAnn [1, 1, 0, 1, 0, 1] ann19
noncomputable def f19c13 : Code := subCode [1, 1, 1, 0] (bodyOf Try.prog 19)
def f19a13 : Ann := subAnn [1, 1, 1, 0] ann19
noncomputable def f19c14 : Code := subCode [1, 1, 1, 1] (bodyOf Try.prog 19)
def f19a14 : Ann := subAnn [1, 1, 1, 1] ann19
noncomputable def f19c15 : Code := subCode [1, 1, 1, 0, 0] (bodyOf Try.prog 19)
def f19a15 : Ann := subAnn [1, 1, 1, 0, 0] ann19
noncomputable def f19c16 : Code := subCode [1, 1, 1, 0, 1] (bodyOf Try.prog 19)
def f19a16 : Ann := subAnn [1, 1, 1, 0, 1] ann19
noncomputable def f19c17 : Code := subCode [1, 1, 1, 0, 1, 0] (bodyOf Try.prog 19)
def f19a17 : Ann := subAnn [1, 1, 1, 0, 1, 0] ann19
noncomputable def f19c18 : Code := subCode [1, 1, 1, 0, 1, 0, 0] (bodyOf Try.prog 19)
def f19a18 : Ann := subAnn [1, 1, 1, 0, 1, 0, 0] ann19
noncomputable def f19c19 : Code := subCode [1, 1, 1, 0, 1, 0, 0, 0] (bodyOf Try.prog 19)
def f19a19 : Ann := subAnn [1, 1, 1, 0, 1, 0, 0, 0] ann19
noncomputable def f19c20 : Code := subCode [1, 1, 1, 0, 1, 0, 0, 1] (bodyOf Try.prog 19)
def f19a20 : Ann := subAnn [1, 1, 1, 0, 1, 0, 0, 1] ann19
noncomputable def f19c21 : Code := subCode [1, 1, 1, 0, 1, 0, 0, 0, 0] (bodyOf Try.prog 19)
def f19a21 : Ann := subAnn [1, 1, 1, 0, 1, 0, 0, 0, 0] ann19
noncomputable def f19c22 : Code := subCode [1, 1, 1, 0, 1, 0, 0, 0, 1] (bodyOf Try.prog 19)
def f19a22 : Ann := subAnn [1, 1, 1, 0, 1, 0, 0, 0, 1] ann19
noncomputable def f19c23 : Code := subCode [1, 1, 1, 0, 1, 0, 0, 0, 1, 0] (bodyOf Try.prog 19)
def f19a23 : Ann := subAnn [1, 1, 1, 0, 1, 0, 0, 0, 1, 0] ann19
noncomputable def f19c24 : Code := subCode [1, 1, 1, 0, 1, 0, 0, 0, 1, 1] (bodyOf Try.prog 19)
def f19a24 : Ann := subAnn [1, 1, 1, 0, 1, 0, 0, 0, 1, 1] ann19
noncomputable def f19c25 : Code := subCode [1, 1, 1, 0, 1, 0, 0, 1, 0] (bodyOf Try.prog 19)
def f19a25 : Ann := subAnn [1, 1, 1, 0, 1, 0, 0, 1, 0] ann19
noncomputable def f19c26 : Code := subCode [1, 1, 1, 0, 1, 0, 0, 1, 1] (bodyOf Try.prog 19)
def f19a26 : Ann := subAnn [1, 1, 1, 0, 1, 0, 0, 1, 1] ann19
noncomputable def f19c27 : Code := subCode [1, 1, 1, 0, 1, 0, 0, 1, 0, 0] (bodyOf Try.prog 19)
def f19a27 : Ann := subAnn [1, 1, 1, 0, 1, 0, 0, 1, 0, 0] ann19
noncomputable def f19c28 : Code := subCode [1, 1, 1, 0, 1, 0, 0, 1, 0, 0, 0] (bodyOf Try.prog 19)
def f19a28 : Ann := subAnn [1, 1, 1, 0, 1, 0, 0, 1, 0, 0, 0] ann19
noncomputable def f19c29 : Code := subCode [1, 1, 1, 0, 1, 0, 0, 1, 0, 0, 1] (bodyOf Try.prog 19)
def f19a29 : Ann := subAnn [1, 1, 1, 0, 1, 0, 0, 1, 0, 0, 1] ann19
noncomputable def f19c30 : Code := subCode [1, 1, 1, 0, 1, 0, 0, 1, 0, 0, 1, 0] (bodyOf Try.prog 19)
def f19a30 : Ann := subAnn [1, 1, 1, 0, 1, 0, 0, 1, 0, 0, 1, 0] ann19
noncomputable def f19c31 : Code := subCode [1, 1, 1, 0, 1, 0, 0, 1, 0, 0, 1, 1] (bodyOf Try.prog 19)
def f19a31 : Ann := subAnn [1, 1, 1, 0, 1, 0, 0, 1, 0, 0, 1, 1] ann19
noncomputable def f19c32 : Code := subCode [1, 1, 1, 0, 1, 0, 0, 1, 0, 0, 1, 1, 0] (bodyOf Try.prog 19)
def f19a32 : Ann := subAnn [1, 1, 1, 0, 1, 0, 0, 1, 0, 0, 1, 1, 0] ann19
noncomputable def f19c33 : Code := subCode [1, 1, 1, 0, 1, 0, 0, 1, 0, 0, 1, 1, 1] (bodyOf Try.prog 19)
def f19a33 : Ann := subAnn [1, 1, 1, 0, 1, 0, 0, 1, 0, 0, 1, 1, 1] ann19
noncomputable def f19c34 : Code := subCode [1, 1, 1, 0, 1, 0, 0, 1, 0, 0, 1, 1, 0, 0] (bodyOf Try.prog 19)
def f19a34 : Ann := subAnn [1, 1, 1, 0, 1, 0, 0, 1, 0, 0, 1, 1, 0, 0] ann19
noncomputable def f19c35 : Code := subCode [1, 1, 1, 0, 1, 0, 0, 1, 0, 0, 1, 1, 0, 1] (bodyOf Try.prog 19)
def f19a35 : Ann := subAnn [1, 1, 1, 0, 1, 0, 0, 1, 0, 0, 1, 1, 0, 1] ann19
noncomputable def f19c36 : Code := subCode [1, 1, 1, 1, 0] (bodyOf Try.prog 19)
def f19a36 : Ann := subAnn [1, 1, 1, 1, 0] ann19
noncomputable def f19c37 : Code := subCode [1, 1, 1, 1, 1] (bodyOf Try.prog 19)
def f19a37 : Ann := subAnn [1, 1, 1, 1, 1] ann19
noncomputable def f19c38 : Code := subCode [1, 1, 1, 1, 1, 0] (bodyOf Try.prog 19)
def f19a38 : Ann := subAnn [1, 1, 1, 1, 1, 0] ann19
noncomputable def f19c39 : Code := subCode [1, 1, 1, 1, 1, 1] (bodyOf Try.prog 19)
def f19a39 : Ann := subAnn [1, 1, 1, 1, 1, 1] ann19
noncomputable def f19L17 {R : Type} (call : CallF R) (N : Nat) : KF R → Env → St → Option R := fun K e σ => runK Try.prog call N f19c18 f19a18 K e σ
def f19e0 : Env := Env.sp 62 []
def f19e1 (y0 : Bool) : Env := AV.bool y0 :: Env.sp 61 []
def f19e2 (y0 : Option (Nat × Nat)) (y1 : Int) (y2 : Option (Nat × Nat)) (y3 : Int) (y4 : Option (Nat × Nat)) (y5 : Int) (y6 : Option (Nat × Nat)) (y7 : Int) : Env := Env.sp 1 (AV.ptr y0 :: AV.int IntKind.i64 y1 :: Env.sp 5 (AV.tuple [AV.ptr y2, AV.int IntKind.i64 y3] :: AV.tuple [AV.ptr y4, AV.int IntKind.i64 y5] :: AV.ptr y6 :: AV.int IntKind.i64 y7 :: Env.sp 50 []))
def f19e3 (y0 : Option (Nat × Nat)) (y1 : Int) : Env := Env.sp 1 (AV.ptr y0 :: AV.int IntKind.i64 y1 :: Env.sp 59 [])
def f19e4 (y0 : Option (Nat × Nat)) (y1 : Int) (y2 : Int) (y3 : Bool) (y4 : Bool) (y5 : Bool) : Env := Env.sp 1 (AV.ptr y0 :: AV.int IntKind.i64 y1 :: Env.sp 9 (AV.int IntKind.i64 y2 :: AV.bool y3 :: AV.bool y4 :: AV.tuple [] :: AV.tuple [] :: AV.bool y5 :: Env.sp 44 []))
def f19e5 (y0 : Option (Nat × Nat)) (y1 : Int) (y2 : Int) (y3 : Bool) (y4 : Bool) (y5 : Option (Nat × Nat)) (y6 : Bool) (y7 : Bool) : Env := Env.sp 1 (AV.ptr y0 :: AV.int IntKind.i64 y1 :: Env.sp 9 (AV.int IntKind.i64 y2 :: AV.bool y3 :: AV.bool y4 :: AV.ptr y5 :: AV.bool y6 :: AV.bool y7 :: Env.sp 44 []))
def f19e6 (y0 : Option (Nat × Nat)) (y1 : Bool) : Env := Env.sp 1 (AV.ptr y0 :: Env.sp 15 (AV.bool y1 :: Env.sp 44 []))
def f19e7 (y0 : Bool) (y1 : Option (Nat × Nat)) (y2 : Bool) : Env := AV.bool y0 :: AV.ptr y1 :: Env.sp 15 (AV.bool y2 :: Env.sp 44 [])
def f19e8 (y0 : Option (Nat × Nat)) : Env := Env.sp 1 (AV.ptr y0 :: Env.sp 60 [])
def f19e9 (y0 : Option (Nat × Nat)) (y1 : Int) : Env := Env.sp 1 (AV.ptr y0 :: Env.sp 1 (AV.int IntKind.i64 y1 :: Env.sp 58 []))
def f19e10 (y0 : Option (Nat × Nat)) (y1 : Int) (y2 : Int) (y3 : Bool) : Env := Env.sp 1 (AV.ptr y0 :: Env.sp 1 (AV.int IntKind.i64 y1 :: Env.sp 14 (AV.int IntKind.i64 y2 :: AV.bool y3 :: Env.sp 42 [])))
def f19e11 (y0 : Option (Nat × Nat)) (y1 : Int) (y2 : Bool) : Env := Env.sp 1 (AV.ptr y0 :: Env.sp 1 (AV.int IntKind.i64 y1 :: Env.sp 15 (AV.bool y2 :: Env.sp 42 [])))
def f19e12 (y0 : Option (Nat × Nat)) (y1 : Int) (y2 : Bool) (y3 : Int) (y4 : Bool) (y5 : Int) (y6 : Option (Nat × Nat)) (y7 : Int) (y8 : ByteArray) (y9 : Bool) (y10 : Int) (y11 : Bool) (y12 : Int) : Env := Env.sp 1 (AV.ptr y0 :: Env.sp 1 (AV.int IntKind.i64 y1 :: AV.bool y2 :: AV.int IntKind.i64 y3 :: Env.sp 16 (AV.tuple [AV.bool y4, AV.int IntKind.i64 y5] :: AV.ptr y6 :: AV.int IntKind.i64 y7 :: AV.str y8 :: AV.tuple [AV.bool y9, AV.int IntKind.i64 y10] :: AV.bool y11 :: AV.int IntKind.i64 y12 :: Env.sp 33 [])))
def f19e13 (y0 : Option (Nat × Nat)) (y1 : Int) (y2 : Bool) (y3 : Int) : Env := Env.sp 1 (AV.ptr y0 :: Env.sp 1 (AV.int IntKind.i64 y1 :: AV.bool y2 :: AV.int IntKind.i64 y3 :: Env.sp 56 []))
def f19e14 (y0 : Option (Nat × Nat)) (y1 : Int) (y2 : Bool) (y3 : Int) (y4 : Bool) (y5 : Bool) (y6 : Bool) (y7 : Bool) : Env := Env.sp 1 (AV.ptr y0 :: Env.sp 1 (AV.int IntKind.i64 y1 :: AV.bool y2 :: AV.int IntKind.i64 y3 :: Env.sp 23 (AV.bool y4 :: AV.bool y5 :: AV.bool y6 :: AV.tuple [] :: AV.tuple [] :: AV.bool y7 :: Env.sp 27 [])))
def f19e15 (y0 : Option (Nat × Nat)) (y1 : Int) (y2 : Bool) (y3 : Int) (y4 : Bool) (y5 : Bool) (y6 : Bool) (y7 : Int) (y8 : Bool) (y9 : Bool) : Env := Env.sp 1 (AV.ptr y0 :: Env.sp 1 (AV.int IntKind.i64 y1 :: AV.bool y2 :: AV.int IntKind.i64 y3 :: Env.sp 23 (AV.bool y4 :: AV.bool y5 :: AV.bool y6 :: AV.int IntKind.i64 y7 :: AV.bool y8 :: AV.bool y9 :: Env.sp 27 [])))
def f19e16 (y0 : Option (Nat × Nat)) (y1 : Int) (y2 : Bool) : Env := Env.sp 1 (AV.ptr y0 :: Env.sp 1 (AV.int IntKind.i64 y1 :: Env.sp 30 (AV.bool y2 :: Env.sp 27 [])))
def f19e17 (y0 : Bool) (y1 : Option (Nat × Nat)) (y2 : Int) (y3 : Bool) : Env := AV.bool y0 :: AV.ptr y1 :: Env.sp 1 (AV.int IntKind.i64 y2 :: Env.sp 30 (AV.bool y3 :: Env.sp 27 []))
def f19e18 (y0 : Option (Nat × Nat)) (y1 : Int) (y2 : Int) (y3 : Int) : Env := Env.sp 1 (AV.ptr y0 :: Env.sp 1 (AV.int IntKind.i64 y1 :: Env.sp 16 (AV.int IntKind.i64 y2 :: AV.int IntKind.i64 y3 :: Env.sp 40 [])))
def f19e19 (y0 : Option (Nat × Nat)) (y1 : Nat) (y2 : Bool) (y3 : ByteArray) (y4 : Int) (y5 : Option (Nat × Nat)) (y6 : Nat) (y7 : Option Nat) (y8 : Bool) (y9 : Option (Nat × Nat)) (y10 : ByteArray) (y11 : Int) (y12 : Option (Nat × Nat)) (y13 : Nat) (y14 : Option Nat) (y15 : Bool) (y16 : ByteArray) (y17 : Int) (y18 : Option (Nat × Nat)) (y19 : Nat) (y20 : Option Nat) (y21 : Bool) : Env := Env.sp 1 (AV.ptr y0 :: Env.sp 4 (AV.ptr (some (y1, (0 : Nat))) :: AV.bool y2 :: Env.sp 27 (AV.tuple [AV.agg [AV.str y3, AV.int IntKind.i64 y4, AV.slice y5 y6 y7 (2 : Nat)], AV.bool y8] :: AV.ptr y9 :: AV.tuple [AV.agg [AV.str y10, AV.int IntKind.i64 y11, AV.slice y12 y13 y14 (2 : Nat)], AV.bool y15] :: AV.agg [AV.str y16, AV.int IntKind.i64 y17, AV.slice y18 y19 y20 (2 : Nat)] :: AV.bool y21 :: Env.sp 22 [])))
def f19e20 (y0 : Option (Nat × Nat)) (y1 : Nat) (y2 : Bool) : Env := Env.sp 1 (AV.ptr y0 :: Env.sp 4 (AV.ptr (some (y1, (0 : Nat))) :: AV.bool y2 :: Env.sp 54 []))
def f19e21 (y0 : Bool) (y1 : Option (Nat × Nat)) (y2 : Nat) (y3 : Bool) (y4 : Bool) (y5 : Bool) (y6 : Nat) (y7 : ByteArray) (y8 : Bool) (y9 : Bool) (y10 : Bool) (y11 : Nat) (y12 : Int) (y13 : Bool) (y14 : Bool) (y15 : Bool) (y16 : Nat) (y17 : Option (Nat × Nat)) (y18 : Nat) (y19 : Option Nat) (y20 : Int) (y21 : Bool) (y22 : Bool) (y23 : Bool) (y24 : Option (Nat × Nat)) (y25 : Int) (y26 : Bool) (y27 : Bool) : Env := AV.bool y0 :: AV.ptr y1 :: Env.sp 4 (AV.ptr (some (y2, (0 : Nat))) :: AV.bool y3 :: Env.sp 32 (AV.bool y4 :: AV.bool y5 :: AV.ptr (some (y6, (0 : Nat))) :: AV.str y7 :: AV.bool y8 :: AV.bool y9 :: AV.bool y10 :: AV.ptr (some (y11, (1 : Nat))) :: AV.int IntKind.i64 y12 :: AV.bool y13 :: AV.bool y14 :: AV.bool y15 :: AV.ptr (some (y16, (2 : Nat))) :: AV.slice y17 y18 y19 (2 : Nat) :: AV.int IntKind.i64 y20 :: AV.bool y21 :: AV.bool y22 :: AV.bool y23 :: AV.ptr y24 :: AV.int IntKind.i64 y25 :: AV.bool y26 :: AV.bool y27 :: []))
def f19e22 (y0 : Bool) (y1 : Option (Nat × Nat)) (y2 : Nat) (y3 : Bool) (y4 : Bool) (y5 : Bool) (y6 : Nat) (y7 : ByteArray) (y8 : Bool) (y9 : Bool) (y10 : Bool) (y11 : Nat) (y12 : Int) (y13 : Bool) (y14 : Bool) (y15 : Bool) (y16 : Nat) (y17 : Option (Nat × Nat)) (y18 : Nat) (y19 : Option Nat) (y20 : Int) (y21 : Bool) (y22 : Bool) (y23 : Bool) (y24 : Bool) : Env := AV.bool y0 :: AV.ptr y1 :: Env.sp 4 (AV.ptr (some (y2, (0 : Nat))) :: AV.bool y3 :: Env.sp 32 (AV.bool y4 :: AV.bool y5 :: AV.ptr (some (y6, (0 : Nat))) :: AV.str y7 :: AV.bool y8 :: AV.bool y9 :: AV.bool y10 :: AV.ptr (some (y11, (1 : Nat))) :: AV.int IntKind.i64 y12 :: AV.bool y13 :: AV.bool y14 :: AV.bool y15 :: AV.ptr (some (y16, (2 : Nat))) :: AV.slice y17 y18 y19 (2 : Nat) :: AV.int IntKind.i64 y20 :: AV.bool y21 :: AV.bool y22 :: AV.bool y23 :: AV.tuple [] :: AV.tuple [] :: AV.tuple [] :: AV.bool y24 :: []))
def f19e23 (y0 : Bool) (y1 : Option (Nat × Nat)) (y2 : Nat) (y3 : Bool) (y4 : Bool) (y5 : Bool) (y6 : Nat) (y7 : ByteArray) (y8 : Bool) (y9 : Bool) (y10 : Bool) (y11 : Nat) (y12 : Int) (y13 : Bool) (y14 : Bool) (y15 : Bool) (y16 : Bool) (y17 : Bool) (y18 : Bool) : Env := AV.bool y0 :: AV.ptr y1 :: Env.sp 4 (AV.ptr (some (y2, (0 : Nat))) :: AV.bool y3 :: Env.sp 32 (AV.bool y4 :: AV.bool y5 :: AV.ptr (some (y6, (0 : Nat))) :: AV.str y7 :: AV.bool y8 :: AV.bool y9 :: AV.bool y10 :: AV.ptr (some (y11, (1 : Nat))) :: AV.int IntKind.i64 y12 :: AV.bool y13 :: AV.bool y14 :: AV.bool y15 :: AV.tuple [] :: AV.tuple [] :: AV.tuple [] :: AV.tuple [] :: AV.bool y16 :: AV.bool y17 :: AV.tuple [] :: AV.tuple [] :: AV.tuple [] :: AV.bool y18 :: []))
def f19e24 (y0 : Bool) (y1 : Option (Nat × Nat)) (y2 : Nat) (y3 : Bool) (y4 : Bool) (y5 : Bool) (y6 : Nat) (y7 : ByteArray) (y8 : Bool) (y9 : Bool) (y10 : Bool) (y11 : Bool) (y12 : Bool) (y13 : Bool) (y14 : Bool) (y15 : Bool) : Env := AV.bool y0 :: AV.ptr y1 :: Env.sp 4 (AV.ptr (some (y2, (0 : Nat))) :: AV.bool y3 :: Env.sp 32 (AV.bool y4 :: AV.bool y5 :: AV.ptr (some (y6, (0 : Nat))) :: AV.str y7 :: AV.bool y8 :: AV.bool y9 :: AV.bool y10 :: AV.tuple [] :: AV.tuple [] :: AV.tuple [] :: AV.bool y11 :: AV.bool y12 :: AV.tuple [] :: AV.tuple [] :: AV.tuple [] :: AV.tuple [] :: AV.bool y13 :: AV.bool y14 :: AV.tuple [] :: AV.tuple [] :: AV.tuple [] :: AV.bool y15 :: []))
def f19e25 (y0 : Bool) (y1 : Option (Nat × Nat)) (y2 : Nat) (y3 : Bool) (y4 : Bool) (y5 : Bool) (y6 : Bool) (y7 : Bool) (y8 : Bool) (y9 : Bool) (y10 : Bool) (y11 : Bool) (y12 : Bool) : Env := AV.bool y0 :: AV.ptr y1 :: Env.sp 4 (AV.ptr (some (y2, (0 : Nat))) :: AV.bool y3 :: Env.sp 32 (AV.bool y4 :: AV.bool y5 :: AV.tuple [] :: AV.tuple [] :: AV.tuple [] :: AV.bool y6 :: AV.bool y7 :: AV.tuple [] :: AV.tuple [] :: AV.tuple [] :: AV.bool y8 :: AV.bool y9 :: AV.tuple [] :: AV.tuple [] :: AV.tuple [] :: AV.tuple [] :: AV.bool y10 :: AV.bool y11 :: AV.tuple [] :: AV.tuple [] :: AV.tuple [] :: AV.bool y12 :: []))

/- function 19 -/
theorem f19_eq {R : Type} (call : CallF R) (N : Nat) (σ : St) (K : AV → St → Option R) :
    bodyK Try.prog call N ann 19 [] σ K = runK Try.prog call N f19c0 f19a0 (bodyC Try.prog f19rs K) (f19e0) σ := bodyK_of (fn := ((Try.prog.funcs[19]?).get rfl)) (by kernel_rfl) (by kernel_rfl) (by kernel_rfl) (by kernel_rfl) (by kernel_rfl) (by kernel_rfl)
theorem f19n0 {R : Type} (call : CallF R) (N : Nat) (J : KF R) (e : Env) (σ : St) : runK Try.prog call N f19c0 f19a0 J e σ = runK Try.prog call N f19c1 f19a1 (seqC (fun K e σ => runK Try.prog call N f19c2 f19a2 K e σ) f19a0 J) e σ := runK_seq' (by kernel_rfl) (by kernel_rfl) (by kernel_rfl)
theorem f19r1_f19e0 {R : Type} (call : CallF R) (N : Nat) (J : KF R) (σ : St) :
    runK Try.prog call N f19c1 f19a1 J (f19e0) σ =
J Ex.normal (f19e1 false) σ := hide (by kernel_rfl)
theorem f19z0_f19e1 (y0 : Bool) : Ann.clr f19a0 (f19e1 y0) = f19e0 := hide (by kernel_rfl)
theorem f19n2 {R : Type} (call : CallF R) (N : Nat) (J : KF R) (e : Env) (σ : St) : runK Try.prog call N f19c2 f19a2 J e σ = runK Try.prog call N f19c3 f19a3 (seqC (fun K e σ => runK Try.prog call N f19c4 f19a4 K e σ) f19a2 J) e σ := runK_seq' (by kernel_rfl) (by kernel_rfl) (by kernel_rfl)
theorem f19r3_f19e0 {R : Type} (call : CallF R) (N : Nat) (J : KF R) (σ : St) :
    runK Try.prog call N f19c3 f19a3 J (f19e0) σ =
call (22 : Nat) [AV.int IntKind.i64 (2 : Int), AV.int IntKind.i64 (1 : Int), AV.int IntKind.i64 (0 : Int)] σ fun v0 v1 =>
  Option.bind (AV.toTuple v0) fun v2 =>
    if List.length v2 = (2 : Nat) then
      Option.bind (List.head? v2) fun v3 =>
        Option.bind (AV.toPtr v3) fun v4 =>
          Option.bind (List.head? (List.tail v2)) fun v5 =>
            Option.bind (AV.toInt IntKind.i64 v5) fun v6 => J Ex.normal (f19e2 v4 v6 v4 v6 v4 v6 v4 v6) v1
    else none := hide (by kernel_rfl)
theorem f19z2_f19e2 (y0 : Option (Nat × Nat)) (y1 : Int) (y2 : Option (Nat × Nat)) (y3 : Int) (y4 : Option (Nat × Nat)) (y5 : Int) (y6 : Option (Nat × Nat)) (y7 : Int) : Ann.clr f19a2 (f19e2 y0 y1 y2 y3 y4 y5 y6 y7) = f19e3 y0 y1 := hide (by kernel_rfl)
theorem f19n4 {R : Type} (call : CallF R) (N : Nat) (J : KF R) (e : Env) (σ : St) : runK Try.prog call N f19c4 f19a4 J e σ = runK Try.prog call N f19c5 f19a5 (seqC (fun K e σ => runK Try.prog call N f19c6 f19a6 K e σ) f19a4 J) e σ := runK_seq' (by kernel_rfl) (by kernel_rfl) (by kernel_rfl)
theorem f19n5 {R : Type} (call : CallF R) (N : Nat) (J : KF R) (e : Env) (σ : St) : runK Try.prog call N f19c5 f19a5 J e σ = runK Try.prog call N f19c7 f19a7 (seqC (fun K e σ => runK Try.prog call N f19c8 f19a8 K e σ) f19a5 J) e σ := runK_seq' (by kernel_rfl) (by kernel_rfl) (by kernel_rfl)
theorem f19r7_f19e3 {R : Type} (call : CallF R) (N : Nat) (y0 : Option (Nat × Nat)) (y1 : Int) (J : KF R) (σ : St) :
    runK Try.prog call N f19c7 f19a7 J (f19e3 y0 y1) σ =
if (y1 != (0 : Int)) = true then J Ex.normal (f19e4 y0 y1 y1 (y1 != (0 : Int)) true true) σ
else J Ex.normal (f19e5 y0 y1 y1 (y1 != (0 : Int)) false y0 (Option.isNone y0) (Option.isNone y0)) σ := hide (by kernel_rfl)
theorem f19z5_f19e4 (y0 : Option (Nat × Nat)) (y1 : Int) (y2 : Int) (y3 : Bool) (y4 : Bool) (y5 : Bool) : Ann.clr f19a5 (f19e4 y0 y1 y2 y3 y4 y5) = f19e6 y0 y5 := hide (by kernel_rfl)
theorem f19x8_f19e6 {R : Type} (call : CallF R) (N : Nat) (y0 : Option (Nat × Nat)) (y1 : Bool) (J : KF R) (σ : St) : runK Try.prog call N f19c8 f19a8 J (f19e6 y0 y1) σ = if y1 = true then runK Try.prog call N f19c9 f19a9 (condC f19a8 J) (f19e6 y0 y1) σ else runK Try.prog call N f19c10 f19a10 (condC f19a8 J) (f19e6 y0 y1) σ := runK_cond' (o := Operand.tmp (17 : Nat)) (by kernel_rfl) (by kernel_rfl) (by kernel_rfl) (by kernel_rfl)
theorem f19n9 {R : Type} (call : CallF R) (N : Nat) (J : KF R) (e : Env) (σ : St) : runK Try.prog call N f19c9 f19a9 J e σ = runK Try.prog call N f19c11 f19a11 (seqC (fun K e σ => runK Try.prog call N f19c12 f19a12 K e σ) f19a9 J) e σ := runK_seq' (by kernel_rfl) (by kernel_rfl) (by kernel_rfl)
theorem f19r11_f19e6 {R : Type} (call : CallF R) (N : Nat) (y0 : Option (Nat × Nat)) (y1 : Bool) (J : KF R) (σ : St) :
    runK Try.prog call N f19c11 f19a11 J (f19e6 y0 y1) σ =
J Ex.normal (f19e7 false y0 y1) σ := hide (by kernel_rfl)
theorem f19z9_f19e7 (y0 : Bool) (y1 : Option (Nat × Nat)) (y2 : Bool) : Ann.clr f19a9 (f19e7 y0 y1 y2) = f19e1 y0 := hide (by kernel_rfl)
theorem f19y12_f19e1 {R : Type} (call : CallF R) (N : Nat) (y0 : Bool) (J : KF R) (σ : St) : runK Try.prog call N f19c12 f19a12 J (f19e1 y0) σ = J .ret (f19e1 y0) σ := runK_ret' (by kernel_rfl) (by kernel_rfl)
theorem f19n10 {R : Type} (call : CallF R) (N : Nat) (J : KF R) (e : Env) (σ : St) : runK Try.prog call N f19c10 f19a10 J e σ = J .normal e σ := runK_skip' (by kernel_rfl)
theorem f19z8_f19e6 (y0 : Option (Nat × Nat)) (y1 : Bool) : Ann.clr f19a8 (f19e6 y0 y1) = f19e8 y0 := hide (by kernel_rfl)
theorem f19z5_f19e5 (y0 : Option (Nat × Nat)) (y1 : Int) (y2 : Int) (y3 : Bool) (y4 : Bool) (y5 : Option (Nat × Nat)) (y6 : Bool) (y7 : Bool) : Ann.clr f19a5 (f19e5 y0 y1 y2 y3 y4 y5 y6 y7) = f19e6 y0 y7 := hide (by kernel_rfl)
theorem f19z4_f19e8 (y0 : Option (Nat × Nat)) : Ann.clr f19a4 (f19e8 y0) = f19e8 y0 := hide (by kernel_rfl)
theorem f19n6 {R : Type} (call : CallF R) (N : Nat) (J : KF R) (e : Env) (σ : St) : runK Try.prog call N f19c6 f19a6 J e σ = runK Try.prog call N f19c13 f19a13 (seqC (fun K e σ => runK Try.prog call N f19c14 f19a14 K e σ) f19a6 J) e σ := runK_seq' (by kernel_rfl) (by kernel_rfl) (by kernel_rfl)
theorem f19n13 {R : Type} (call : CallF R) (N : Nat) (J : KF R) (e : Env) (σ : St) : runK Try.prog call N f19c13 f19a13 J e σ = runK Try.prog call N f19c15 f19a15 (seqC (fun K e σ => runK Try.prog call N f19c16 f19a16 K e σ) f19a13 J) e σ := runK_seq' (by kernel_rfl) (by kernel_rfl) (by kernel_rfl)
theorem f19r15_f19e8 {R : Type} (call : CallF R) (N : Nat) (y0 : Option (Nat × Nat)) (J : KF R) (σ : St) :
    runK Try.prog call N f19c15 f19a15 J (f19e8 y0) σ =
J Ex.normal (f19e9 y0 (0 : Int)) σ := hide (by kernel_rfl)
theorem f19z13_f19e9 (y0 : Option (Nat × Nat)) (y1 : Int) : Ann.clr f19a13 (f19e9 y0 y1) = f19e9 y0 y1 := hide (by kernel_rfl)
theorem f19n16 {R : Type} (call : CallF R) (N : Nat) (J : KF R) (e : Env) (σ : St) : runK Try.prog call N f19c16 f19a16 J e σ = runK Try.prog call N f19c17 f19a17 (blockC 0 f19a16 J) e σ := runK_block' (by kernel_rfl) (by kernel_rfl)
theorem f19L17_eq {R : Type} (call : CallF R) (N : Nat) (J : KF R) (e : Env) (σ : St) : f19L17 call N J e σ = runK Try.prog call N f19c18 f19a18 J e σ := hide rfl
theorem f19z17_f19e9 (y0 : Option (Nat × Nat)) (y1 : Int) : Ann.clr f19a17 (f19e9 y0 y1) = f19e9 y0 y1 := hide (by kernel_rfl)
theorem f19l17_f19e9 {R : Type} (call : CallF R) (N : Nat) (y0 : Option (Nat × Nat)) (y1 : Int) (J : KF R) (σ : St) : runK Try.prog call N f19c17 f19a17 J (f19e9 y0 y1) σ = loopK (f19L17 call N) f19a17 N J (f19e9 y0 y1) σ := runK_loop' (by kernel_rfl) (by kernel_rfl) (by kernel_rfl)
theorem f19n18 {R : Type} (call : CallF R) (N : Nat) (J : KF R) (e : Env) (σ : St) : runK Try.prog call N f19c18 f19a18 J e σ = runK Try.prog call N f19c19 f19a19 (seqC (fun K e σ => runK Try.prog call N f19c20 f19a20 K e σ) f19a18 J) e σ := runK_seq' (by kernel_rfl) (by kernel_rfl) (by kernel_rfl)
theorem f19n19 {R : Type} (call : CallF R) (N : Nat) (J : KF R) (e : Env) (σ : St) : runK Try.prog call N f19c19 f19a19 J e σ = runK Try.prog call N f19c21 f19a21 (seqC (fun K e σ => runK Try.prog call N f19c22 f19a22 K e σ) f19a19 J) e σ := runK_seq' (by kernel_rfl) (by kernel_rfl) (by kernel_rfl)
theorem f19r21_f19e9 {R : Type} (call : CallF R) (N : Nat) (y0 : Option (Nat × Nat)) (y1 : Int) (J : KF R) (σ : St) :
    runK Try.prog call N f19c21 f19a21 J (f19e9 y0 y1) σ =
J Ex.normal (f19e10 y0 y1 y1 (decide (y1 < (3 : Int)))) σ := hide (by kernel_rfl)
theorem f19z19_f19e10 (y0 : Option (Nat × Nat)) (y1 : Int) (y2 : Int) (y3 : Bool) : Ann.clr f19a19 (f19e10 y0 y1 y2 y3) = f19e11 y0 y1 y3 := hide (by kernel_rfl)
theorem f19x22_f19e11 {R : Type} (call : CallF R) (N : Nat) (y0 : Option (Nat × Nat)) (y1 : Int) (y2 : Bool) (J : KF R) (σ : St) : runK Try.prog call N f19c22 f19a22 J (f19e11 y0 y1 y2) σ = if y2 = true then runK Try.prog call N f19c23 f19a23 (condC f19a22 J) (f19e11 y0 y1 y2) σ else runK Try.prog call N f19c24 f19a24 (condC f19a22 J) (f19e11 y0 y1 y2) σ := runK_cond' (o := Operand.tmp (19 : Nat)) (by kernel_rfl) (by kernel_rfl) (by kernel_rfl) (by kernel_rfl)
theorem f19n23 {R : Type} (call : CallF R) (N : Nat) (J : KF R) (e : Env) (σ : St) : runK Try.prog call N f19c23 f19a23 J e σ = J .normal e σ := runK_skip' (by kernel_rfl)
theorem f19z22_f19e11 (y0 : Option (Nat × Nat)) (y1 : Int) (y2 : Bool) : Ann.clr f19a22 (f19e11 y0 y1 y2) = f19e9 y0 y1 := hide (by kernel_rfl)
theorem f19y24_f19e11 {R : Type} (call : CallF R) (N : Nat) (y0 : Option (Nat × Nat)) (y1 : Int) (y2 : Bool) (J : KF R) (σ : St) : runK Try.prog call N f19c24 f19a24 J (f19e11 y0 y1 y2) σ = J (.exit 0) (f19e8 y0) σ := runK_exit' (by kernel_rfl) (by kernel_rfl)
theorem f19z18_f19e9 (y0 : Option (Nat × Nat)) (y1 : Int) : Ann.clr f19a18 (f19e9 y0 y1) = f19e9 y0 y1 := hide (by kernel_rfl)
theorem f19n20 {R : Type} (call : CallF R) (N : Nat) (J : KF R) (e : Env) (σ : St) : runK Try.prog call N f19c20 f19a20 J e σ = runK Try.prog call N f19c25 f19a25 (seqC (fun K e σ => runK Try.prog call N f19c26 f19a26 K e σ) f19a20 J) e σ := runK_seq' (by kernel_rfl) (by kernel_rfl) (by kernel_rfl)
theorem f19n25 {R : Type} (call : CallF R) (N : Nat) (J : KF R) (e : Env) (σ : St) : runK Try.prog call N f19c25 f19a25 J e σ = runK Try.prog call N f19c27 f19a27 (blockC 1 f19a25 J) e σ := runK_block' (by kernel_rfl) (by kernel_rfl)
theorem f19n27 {R : Type} (call : CallF R) (N : Nat) (J : KF R) (e : Env) (σ : St) : runK Try.prog call N f19c27 f19a27 J e σ = runK Try.prog call N f19c28 f19a28 (seqC (fun K e σ => runK Try.prog call N f19c29 f19a29 K e σ) f19a27 J) e σ := runK_seq' (by kernel_rfl) (by kernel_rfl) (by kernel_rfl)
theorem f19r28_f19e9 {R : Type} (call : CallF R) (N : Nat) (y0 : Option (Nat × Nat)) (y1 : Int) (J : KF R) (σ : St) :
    runK Try.prog call N f19c28 f19a28 J (f19e9 y0 y1) σ =
call (44 : Nat) [] σ fun v0 v1 =>
  Option.bind (AV.toStr v0) fun v2 =>
    call (24 : Nat) [AV.ptr y0, AV.int IntKind.i64 (1 : Int), AV.int IntKind.i64 y1, AV.str (ByteArray.mk #[(97 : UInt8)]), AV.str v2] v1 fun v3 v4 =>
      Option.bind (AV.toTuple v3) fun v5 =>
        if List.length v5 = (2 : Nat) then
          Option.bind (List.head? v5) fun v6 =>
            Option.bind (AV.toBool v6) fun v7 =>
              Option.bind (List.head? (List.tail v5)) fun v8 =>
                Option.bind (AV.toInt IntKind.i64 v8) fun v9 => J Ex.normal (f19e12 y0 y1 v7 v9 v7 v9 y0 y1 v2 v7 v9 v7 v9) v4
        else none := hide (by kernel_rfl)
theorem f19z27_f19e12 (y0 : Option (Nat × Nat)) (y1 : Int) (y2 : Bool) (y3 : Int) (y4 : Bool) (y5 : Int) (y6 : Option (Nat × Nat)) (y7 : Int) (y8 : ByteArray) (y9 : Bool) (y10 : Int) (y11 : Bool) (y12 : Int) : Ann.clr f19a27 (f19e12 y0 y1 y2 y3 y4 y5 y6 y7 y8 y9 y10 y11 y12) = f19e13 y0 y1 y2 y3 := hide (by kernel_rfl)
theorem f19n29 {R : Type} (call : CallF R) (N : Nat) (J : KF R) (e : Env) (σ : St) : runK Try.prog call N f19c29 f19a29 J e σ = runK Try.prog call N f19c30 f19a30 (seqC (fun K e σ => runK Try.prog call N f19c31 f19a31 K e σ) f19a29 J) e σ := runK_seq' (by kernel_rfl) (by kernel_rfl) (by kernel_rfl)
theorem f19r30_f19e13 {R : Type} (call : CallF R) (N : Nat) (y0 : Option (Nat × Nat)) (y1 : Int) (y2 : Bool) (y3 : Int) (J : KF R) (σ : St) :
    runK Try.prog call N f19c30 f19a30 J (f19e13 y0 y1 y2 y3) σ =
if (!y2) = true then J Ex.normal (f19e14 y0 y1 y2 y3 y2 (!y2) true true) σ
else J Ex.normal (f19e15 y0 y1 y2 y3 y2 (!y2) false y3 (y3 != (0 : Int)) (y3 != (0 : Int))) σ := hide (by kernel_rfl)
theorem f19z29_f19e14 (y0 : Option (Nat × Nat)) (y1 : Int) (y2 : Bool) (y3 : Int) (y4 : Bool) (y5 : Bool) (y6 : Bool) (y7 : Bool) : Ann.clr f19a29 (f19e14 y0 y1 y2 y3 y4 y5 y6 y7) = f19e16 y0 y1 y7 := hide (by kernel_rfl)
theorem f19x31_f19e16 {R : Type} (call : CallF R) (N : Nat) (y0 : Option (Nat × Nat)) (y1 : Int) (y2 : Bool) (J : KF R) (σ : St) : runK Try.prog call N f19c31 f19a31 J (f19e16 y0 y1 y2) σ = if y2 = true then runK Try.prog call N f19c32 f19a32 (condC f19a31 J) (f19e16 y0 y1 y2) σ else runK Try.prog call N f19c33 f19a33 (condC f19a31 J) (f19e16 y0 y1 y2) σ := runK_cond' (o := Operand.tmp (34 : Nat)) (by kernel_rfl) (by kernel_rfl) (by kernel_rfl) (by kernel_rfl)
theorem f19n32 {R : Type} (call : CallF R) (N : Nat) (J : KF R) (e : Env) (σ : St) : runK Try.prog call N f19c32 f19a32 J e σ = runK Try.prog call N f19c34 f19a34 (seqC (fun K e σ => runK Try.prog call N f19c35 f19a35 K e σ) f19a32 J) e σ := runK_seq' (by kernel_rfl) (by kernel_rfl) (by kernel_rfl)
theorem f19r34_f19e16 {R : Type} (call : CallF R) (N : Nat) (y0 : Option (Nat × Nat)) (y1 : Int) (y2 : Bool) (J : KF R) (σ : St) :
    runK Try.prog call N f19c34 f19a34 J (f19e16 y0 y1 y2) σ =
J Ex.normal (f19e17 false y0 y1 y2) σ := hide (by kernel_rfl)
theorem f19z32_f19e17 (y0 : Bool) (y1 : Option (Nat × Nat)) (y2 : Int) (y3 : Bool) : Ann.clr f19a32 (f19e17 y0 y1 y2 y3) = f19e1 y0 := hide (by kernel_rfl)
theorem f19y35_f19e1 {R : Type} (call : CallF R) (N : Nat) (y0 : Bool) (J : KF R) (σ : St) : runK Try.prog call N f19c35 f19a35 J (f19e1 y0) σ = J .ret (f19e1 y0) σ := runK_ret' (by kernel_rfl) (by kernel_rfl)
theorem f19n33 {R : Type} (call : CallF R) (N : Nat) (J : KF R) (e : Env) (σ : St) : runK Try.prog call N f19c33 f19a33 J e σ = J .normal e σ := runK_skip' (by kernel_rfl)
theorem f19z31_f19e16 (y0 : Option (Nat × Nat)) (y1 : Int) (y2 : Bool) : Ann.clr f19a31 (f19e16 y0 y1 y2) = f19e9 y0 y1 := hide (by kernel_rfl)
theorem f19z29_f19e15 (y0 : Option (Nat × Nat)) (y1 : Int) (y2 : Bool) (y3 : Int) (y4 : Bool) (y5 : Bool) (y6 : Bool) (y7 : Int) (y8 : Bool) (y9 : Bool) : Ann.clr f19a29 (f19e15 y0 y1 y2 y3 y4 y5 y6 y7 y8 y9) = f19e16 y0 y1 y9 := hide (by kernel_rfl)
theorem f19z25_f19e9 (y0 : Option (Nat × Nat)) (y1 : Int) : Ann.clr f19a25 (f19e9 y0 y1) = f19e9 y0 y1 := hide (by kernel_rfl)
theorem f19z20_f19e9 (y0 : Option (Nat × Nat)) (y1 : Int) : Ann.clr f19a20 (f19e9 y0 y1) = f19e9 y0 y1 := hide (by kernel_rfl)
theorem f19r26_f19e9 {R : Type} (call : CallF R) (N : Nat) (y0 : Option (Nat × Nat)) (y1 : Int) (J : KF R) (σ : St) :
    runK Try.prog call N f19c26 f19a26 J (f19e9 y0 y1) σ =
J Ex.normal (f19e18 y0 (IntKind.wrap IntKind.i64 (y1 + (1 : Int))) y1 (IntKind.wrap IntKind.i64 (y1 + (1 : Int)))) σ := hide (by kernel_rfl)
theorem f19z17_f19e18 (y0 : Option (Nat × Nat)) (y1 : Int) (y2 : Int) (y3 : Int) : Ann.clr f19a17 (f19e18 y0 y1 y2 y3) = f19e9 y0 y1 := hide (by kernel_rfl)
theorem f19z16_f19e8 (y0 : Option (Nat × Nat)) : Ann.clr f19a16 (f19e8 y0) = f19e8 y0 := hide (by kernel_rfl)
theorem f19z6_f19e8 (y0 : Option (Nat × Nat)) : Ann.clr f19a6 (f19e8 y0) = f19e8 y0 := hide (by kernel_rfl)
theorem f19n14 {R : Type} (call : CallF R) (N : Nat) (J : KF R) (e : Env) (σ : St) : runK Try.prog call N f19c14 f19a14 J e σ = runK Try.prog call N f19c36 f19a36 (seqC (fun K e σ => runK Try.prog call N f19c37 f19a37 K e σ) f19a14 J) e σ := runK_seq' (by kernel_rfl) (by kernel_rfl) (by kernel_rfl)
theorem f19r36_f19e8 {R : Type} (call : CallF R) (N : Nat) (y0 : Option (Nat × Nat)) (J : KF R) (σ : St) :
    runK Try.prog call N f19c36 f19a36 J (f19e8 y0) σ =
call (21 : Nat) [AV.ptr y0, AV.int IntKind.i64 (1 : Int)] σ fun v0 v1 =>
  Option.bind (AV.toTuple v0) fun v2 =>
    if List.length v2 = (2 : Nat) then
      Option.bind (List.head? v2) fun v3 =>
        Option.bind (AV.toAgg v3) fun v4 =>
          if List.length v4 = (3 : Nat) then
            Option.bind (List.head? v4) fun v5 =>
              Option.bind (AV.toStr v5) fun v6 =>
                Option.bind (List.head? (List.tail v4)) fun v7 =>
                  Option.bind (AV.toInt IntKind.i64 v7) fun v8 =>
                    Option.bind (List.head? (List.tail (List.tail v4))) fun v9 =>
                      Option.bind (AV.toSl (2 : Nat) v9) fun v10 =>
                        Option.bind (List.head? (List.tail v2)) fun v11 =>
                          Option.bind (AV.toBool v11) fun v12 =>
                            Option.bind
                              (St.st
                                (St.new v1
                                  (Blk.cells
                                    [AV.str (ByteArray.mk #[]), AV.int IntKind.i64 (0 : Int), AV.slice none (0 : Nat) (some (0 : Nat)) (2 : Nat)]
                                    true))
                                (St.next v1) (0 : Nat) [AV.str v6, AV.int IntKind.i64 v8, AV.slice (Sl.o v10) (Sl.len v10) (Sl.cap v10) (2 : Nat)])
                              fun v13 =>
                              J Ex.normal
                                (f19e19 y0 (St.next v1) v12 v6 v8 (Sl.o v10) (Sl.len v10) (Sl.cap v10) v12 y0 v6 v8 (Sl.o v10) (Sl.len v10)
                                  (Sl.cap v10) v12 v6 v8 (Sl.o v10) (Sl.len v10) (Sl.cap v10) v12)
                                v13
          else none
    else none := hide (by kernel_rfl)
theorem f19z14_f19e19 (y0 : Option (Nat × Nat)) (y1 : Nat) (y2 : Bool) (y3 : ByteArray) (y4 : Int) (y5 : Option (Nat × Nat)) (y6 : Nat) (y7 : Option Nat) (y8 : Bool) (y9 : Option (Nat × Nat)) (y10 : ByteArray) (y11 : Int) (y12 : Option (Nat × Nat)) (y13 : Nat) (y14 : Option Nat) (y15 : Bool) (y16 : ByteArray) (y17 : Int) (y18 : Option (Nat × Nat)) (y19 : Nat) (y20 : Option Nat) (y21 : Bool) : Ann.clr f19a14 (f19e19 y0 y1 y2 y3 y4 y5 y6 y7 y8 y9 y10 y11 y12 y13 y14 y15 y16 y17 y18 y19 y20 y21) = f19e20 y0 y1 y2 := hide (by kernel_rfl)
theorem f19n37 {R : Type} (call : CallF R) (N : Nat) (J : KF R) (e : Env) (σ : St) : runK Try.prog call N f19c37 f19a37 J e σ = runK Try.prog call N f19c38 f19a38 (seqC (fun K e σ => runK Try.prog call N f19c39 f19a39 K e σ) f19a37 J) e σ := runK_seq' (by kernel_rfl) (by kernel_rfl) (by kernel_rfl)
theorem f19r38_f19e20 {R : Type} (call : CallF R) (N : Nat) (y0 : Option (Nat × Nat)) (y1 : Nat) (y2 : Bool) (J : KF R) (σ : St) :
    runK Try.prog call N f19c38 f19a38 J (f19e20 y0 y1 y2) σ =
if y2 = true then
  Option.bind (St.ld σ y1 (0 : Nat)) fun v0 =>
    Option.bind (AV.toStr v0) fun v1 =>
      if decide (v1 = ByteArray.mk #[(97 : UInt8)]) = true then
        Option.bind (St.ld σ y1 (1 : Nat)) fun v2 =>
          Option.bind (AV.toInt IntKind.i64 v2) fun v3 =>
            if (v3 == (2 : Int)) = true then
              Option.bind (St.ld σ y1 (2 : Nat)) fun v4 =>
                Option.bind (AV.toSl (2 : Nat) v4) fun v5 =>
                  if ((↑(Sl.len v5) : Int) == (3 : Int)) = true then
                    call (31 : Nat) [AV.ptr y0, AV.int IntKind.i64 (1 : Int)] σ fun v6 v7 =>
                      Option.bind (AV.toInt IntKind.i64 v6) fun v8 =>
                        J Ex.normal
                          (f19e21 (v8 == (3 : Int)) y0 y1 y2 y2 true y1 v1 (decide (v1 = ByteArray.mk #[(97 : UInt8)]))
                            (decide (v1 = ByteArray.mk #[(97 : UInt8)])) true y1 v3 (v3 == (2 : Int)) (v3 == (2 : Int)) true y1 (Sl.o v5) (Sl.len v5)
                            (Sl.cap v5) (↑(Sl.len v5) : Int) ((↑(Sl.len v5) : Int) == (3 : Int)) ((↑(Sl.len v5) : Int) == (3 : Int)) true y0 v8
                            (v8 == (3 : Int)) (v8 == (3 : Int)))
                          v7
                  else
                    J Ex.normal
                      (f19e22 false y0 y1 y2 y2 true y1 v1 (decide (v1 = ByteArray.mk #[(97 : UInt8)])) (decide (v1 = ByteArray.mk #[(97 : UInt8)]))
                        true y1 v3 (v3 == (2 : Int)) (v3 == (2 : Int)) true y1 (Sl.o v5) (Sl.len v5) (Sl.cap v5) (↑(Sl.len v5) : Int)
                        ((↑(Sl.len v5) : Int) == (3 : Int)) ((↑(Sl.len v5) : Int) == (3 : Int)) false false)
                      σ
            else
              J Ex.normal
                (f19e23 false y0 y1 y2 y2 true y1 v1 (decide (v1 = ByteArray.mk #[(97 : UInt8)])) (decide (v1 = ByteArray.mk #[(97 : UInt8)])) true y1
                  v3 (v3 == (2 : Int)) (v3 == (2 : Int)) false false false false)
                σ
      else
        J Ex.normal
          (f19e24 false y0 y1 y2 y2 true y1 v1 (decide (v1 = ByteArray.mk #[(97 : UInt8)])) (decide (v1 = ByteArray.mk #[(97 : UInt8)])) false false
            false false false false)
          σ
else J Ex.normal (f19e25 false y0 y1 y2 y2 false false false false false false false false) σ := hide (by kernel_rfl)
theorem f19z37_f19e21 (y0 : Bool) (y1 : Option (Nat × Nat)) (y2 : Nat) (y3 : Bool) (y4 : Bool) (y5 : Bool) (y6 : Nat) (y7 : ByteArray) (y8 : Bool) (y9 : Bool) (y10 : Bool) (y11 : Nat) (y12 : Int) (y13 : Bool) (y14 : Bool) (y15 : Bool) (y16 : Nat) (y17 : Option (Nat × Nat)) (y18 : Nat) (y19 : Option Nat) (y20 : Int) (y21 : Bool) (y22 : Bool) (y23 : Bool) (y24 : Option (Nat × Nat)) (y25 : Int) (y26 : Bool) (y27 : Bool) : Ann.clr f19a37 (f19e21 y0 y1 y2 y3 y4 y5 y6 y7 y8 y9 y10 y11 y12 y13 y14 y15 y16 y17 y18 y19 y20 y21 y22 y23 y24 y25 y26 y27) = f19e1 y0 := hide (by kernel_rfl)
theorem f19y39_f19e1 {R : Type} (call : CallF R) (N : Nat) (y0 : Bool) (J : KF R) (σ : St) : runK Try.prog call N f19c39 f19a39 J (f19e1 y0) σ = J .ret (f19e1 y0) σ := runK_ret' (by kernel_rfl) (by kernel_rfl)
theorem f19z37_f19e22 (y0 : Bool) (y1 : Option (Nat × Nat)) (y2 : Nat) (y3 : Bool) (y4 : Bool) (y5 : Bool) (y6 : Nat) (y7 : ByteArray) (y8 : Bool) (y9 : Bool) (y10 : Bool) (y11 : Nat) (y12 : Int) (y13 : Bool) (y14 : Bool) (y15 : Bool) (y16 : Nat) (y17 : Option (Nat × Nat)) (y18 : Nat) (y19 : Option Nat) (y20 : Int) (y21 : Bool) (y22 : Bool) (y23 : Bool) (y24 : Bool) : Ann.clr f19a37 (f19e22 y0 y1 y2 y3 y4 y5 y6 y7 y8 y9 y10 y11 y12 y13 y14 y15 y16 y17 y18 y19 y20 y21 y22 y23 y24) = f19e1 y0 := hide (by kernel_rfl)
theorem f19z37_f19e23 (y0 : Bool) (y1 : Option (Nat × Nat)) (y2 : Nat) (y3 : Bool) (y4 : Bool) (y5 : Bool) (y6 : Nat) (y7 : ByteArray) (y8 : Bool) (y9 : Bool) (y10 : Bool) (y11 : Nat) (y12 : Int) (y13 : Bool) (y14 : Bool) (y15 : Bool) (y16 : Bool) (y17 : Bool) (y18 : Bool) : Ann.clr f19a37 (f19e23 y0 y1 y2 y3 y4 y5 y6 y7 y8 y9 y10 y11 y12 y13 y14 y15 y16 y17 y18) = f19e1 y0 := hide (by kernel_rfl)
theorem f19z37_f19e24 (y0 : Bool) (y1 : Option (Nat × Nat)) (y2 : Nat) (y3 : Bool) (y4 : Bool) (y5 : Bool) (y6 : Nat) (y7 : ByteArray) (y8 : Bool) (y9 : Bool) (y10 : Bool) (y11 : Bool) (y12 : Bool) (y13 : Bool) (y14 : Bool) (y15 : Bool) : Ann.clr f19a37 (f19e24 y0 y1 y2 y3 y4 y5 y6 y7 y8 y9 y10 y11 y12 y13 y14 y15) = f19e1 y0 := hide (by kernel_rfl)
theorem f19z37_f19e25 (y0 : Bool) (y1 : Option (Nat × Nat)) (y2 : Nat) (y3 : Bool) (y4 : Bool) (y5 : Bool) (y6 : Bool) (y7 : Bool) (y8 : Bool) (y9 : Bool) (y10 : Bool) (y11 : Bool) (y12 : Bool) : Ann.clr f19a37 (f19e25 y0 y1 y2 y3 y4 y5 y6 y7 y8 y9 y10 y11 y12) = f19e1 y0 := hide (by kernel_rfl)
theorem f19b_f19e1_r {R : Type} (y0 : Bool) (σ : St) (K : AV → St → Option R) : bodyC Try.prog f19rs K (Ex.ret) (f19e1 y0) σ =
K (AV.bool y0) σ := hide (by kernel_rfl)
attribute [go_sem] f19_eq f19n0 f19r1_f19e0 f19z0_f19e1 f19n2 f19r3_f19e0 f19z2_f19e2 f19n4 f19n5 f19r7_f19e3 f19z5_f19e4 f19x8_f19e6 f19n9 f19r11_f19e6 f19z9_f19e7 f19y12_f19e1 f19n10 f19z8_f19e6 f19z5_f19e5 f19z4_f19e8 f19n6 f19n13 f19r15_f19e8 f19z13_f19e9 f19n16 f19L17_eq f19z17_f19e9 f19l17_f19e9 f19n18 f19n19 f19r21_f19e9 f19z19_f19e10 f19x22_f19e11 f19n23 f19z22_f19e11 f19y24_f19e11 f19z18_f19e9 f19n20 f19n25 f19n27 f19r28_f19e9 f19z27_f19e12 f19n29 f19r30_f19e13 f19z29_f19e14 f19x31_f19e16 f19n32 f19r34_f19e16 f19z32_f19e17 f19y35_f19e1 f19n33 f19z31_f19e16 f19z29_f19e15 f19z25_f19e9 f19z20_f19e9 f19r26_f19e9 f19z17_f19e18 f19z16_f19e8 f19z6_f19e8 f19n14 f19r36_f19e8 f19z14_f19e19 f19n37 f19r38_f19e20 f19z37_f19e21 f19y39_f19e1 f19z37_f19e22 f19z37_f19e23 f19z37_f19e24 f19z37_f19e25 f19b_f19e1_r

noncomputable def f44rs : List ResultVar := [ResultVar.tmp (0 : Nat)]
noncomputable def f44c0 : Code := subCode [] (bodyOf Try.prog 44)
def f44a0 : Ann := subAnn [] ann44
noncomputable def f44c1 : Code := subCode [0] (bodyOf Try.prog 44)
def f44a1 : Ann := subAnn [0] ann44
noncomputable def f44c2 : Code := subCode [1] (bodyOf Try.prog 44)
def f44a2 : Ann := subAnn [1] ann44
noncomputable def f44c3 : Code := subCode [1, 0] (bodyOf Try.prog 44)
def f44a3 : Ann := subAnn [1, 0] ann44
noncomputable def f44c4 : Code := subCode [1, 1] (bodyOf Try.prog 44)
def f44a4 : Ann := subAnn [1, 1] ann44
def f44e0 : Env := Env.sp 1 []
def f44e1 (y0 : ByteArray) : Env := AV.str y0 :: []

/- function 44 -/
theorem f44_eq {R : Type} (call : CallF R) (N : Nat) (σ : St) (K : AV → St → Option R) :
    bodyK Try.prog call N ann 44 [] σ K = runK Try.prog call N f44c0 f44a0 (bodyC Try.prog f44rs K) (f44e0) σ := bodyK_of (fn := ((Try.prog.funcs[44]?).get rfl)) (by kernel_rfl) (by kernel_rfl) (by kernel_rfl) (by kernel_rfl) (by kernel_rfl) (by kernel_rfl)
theorem f44n0 {R : Type} (call : CallF R) (N : Nat) (J : KF R) (e : Env) (σ : St) : runK Try.prog call N f44c0 f44a0 J e σ = runK Try.prog call N f44c1 f44a1 (seqC (fun K e σ => runK Try.prog call N f44c2 f44a2 K e σ) f44a0 J) e σ := runK_seq' (by kernel_rfl) (by kernel_rfl) (by kernel_rfl)
theorem f44r1_f44e0 {R : Type} (call : CallF R) (N : Nat) (J : KF R) (σ : St) :
    runK Try.prog call N f44c1 f44a1 J (f44e0) σ =
J Ex.normal (f44e1 (ByteArray.mk #[])) σ := hide (by kernel_rfl)
theorem f44z0_f44e1 (y0 : ByteArray) : Ann.clr f44a0 (f44e1 y0) = f44e0 := hide (by kernel_rfl)
theorem f44n2 {R : Type} (call : CallF R) (N : Nat) (J : KF R) (e : Env) (σ : St) : runK Try.prog call N f44c2 f44a2 J e σ = runK Try.prog call N f44c3 f44a3 (seqC (fun K e σ => runK Try.prog call N f44c4 f44a4 K e σ) f44a2 J) e σ := runK_seq' (by kernel_rfl) (by kernel_rfl) (by kernel_rfl)
theorem f44r3_f44e0 {R : Type} (call : CallF R) (N : Nat) (J : KF R) (σ : St) :
    runK Try.prog call N f44c3 f44a3 J (f44e0) σ =
J Ex.normal
  (f44e1
    (ByteArray.mk
      #[(48 : UInt8), (49 : UInt8), (50 : UInt8), (51 : UInt8), (52 : UInt8), (53 : UInt8), (54 : UInt8), (55 : UInt8), (56 : UInt8), (57 : UInt8),
        (97 : UInt8), (98 : UInt8), (99 : UInt8), (100 : UInt8), (101 : UInt8), (102 : UInt8)]))
  σ := hide (by kernel_rfl)
theorem f44z2_f44e1 (y0 : ByteArray) : Ann.clr f44a2 (f44e1 y0) = f44e1 y0 := hide (by kernel_rfl)
theorem f44y4_f44e1 {R : Type} (call : CallF R) (N : Nat) (y0 : ByteArray) (J : KF R) (σ : St) : runK Try.prog call N f44c4 f44a4 J (f44e1 y0) σ = J .ret (f44e1 y0) σ := runK_ret' (by kernel_rfl) (by kernel_rfl)
theorem f44b_f44e1_r {R : Type} (y0 : ByteArray) (σ : St) (K : AV → St → Option R) : bodyC Try.prog f44rs K (Ex.ret) (f44e1 y0) σ =
K (AV.str y0) σ := hide (by kernel_rfl)
attribute [go_sem] f44_eq f44n0 f44r1_f44e0 f44z0_f44e1 f44n2 f44r3_f44e0 f44z2_f44e1 f44y4_f44e1 f44b_f44e1_r

end Go.Proofs.Ytmgacgonoodkfaa
