/- What the machine does with each piece of code, in plain text. PRINTED by a program of this workplace; Lean checks it. -/
import Derived.Test.YtmgacgonoodkfaaSlAnn
import Derived.Test.YtmgacgonoodkfaaProg
import Derived.KernelRfl
import Derived.Attr
namespace Go.Proofs.Ytmgacgonoodkfaa
open Go.AM
set_option maxRecDepth 100000
set_option linter.unusedVariables false
noncomputable def f6rs : List ResultVar := [ResultVar.tmp (6 : Nat)]
noncomputable def f6c0 : Code := subCode [] (bodyOf Try.prog 6)
def f6a0 : Ann := subAnn [] ann6
noncomputable def f6c1 : Code := subCode [0] (bodyOf Try.prog 6)
def f6a1 : Ann := subAnn [0] ann6
noncomputable def f6c2 : Code := subCode [1] (bodyOf Try.prog 6)
def f6a2 : Ann := subAnn [1] ann6
noncomputable def f6c3 : Code := subCode [1, 0] (bodyOf Try.prog 6)
def f6a3 : Ann := subAnn [1, 0] ann6
noncomputable def f6c4 : Code := subCode [1, 1] (bodyOf Try.prog 6)
def f6a4 : Ann := subAnn [1, 1] ann6
noncomputable def f6c5 : Code := subCode [1, 1, 0] (bodyOf Try.prog 6)
def f6a5 : Ann := subAnn [1, 1, 0] ann6
noncomputable def f6c6 : Code := subCode [1, 1, 1] (bodyOf Try.prog 6)
def f6a6 : Ann := subAnn [1, 1, 1] ann6
noncomputable def f6c7 : Code := subCode [1, 1, 0, 0] (bodyOf Try.prog 6)
def f6a7 : Ann := subAnn [1, 1, 0, 0] ann6
noncomputable def f6c8 : Code := subCode [1, 1, 0, 1] (bodyOf Try.prog 6)
def f6a8 : Ann := subAnn [1, 1, 0, 1] ann6
noncomputable def f6c9 : Code := subCode [1, 1, 0, 1, 0] (bodyOf Try.prog 6)
def f6a9 : Ann := subAnn [1, 1, 0, 1, 0] ann6
noncomputable def f6c10 : Code := subCode [1, 1, 0, 1, 1] (bodyOf Try.prog 6)
def f6a10 : Ann := subAnn [1, 1, 0, 1, 1] ann6
noncomputable def f6c11 : Code := subCode [1, 1, 0, 1, 0, 0] (bodyOf Try.prog 6)
def f6a11 : Ann := subAnn [1, 1, 0, 1, 0, 0] ann6
noncomputable def f6c12 : Code := subCode [1, 1, 0, 1, 0, 1] (bodyOf Try.prog 6)
def f6a12 : Ann := subAnn [1, 1, 0, 1, 0, 1] ann6
noncomputable def f6c13 : Code := subCode [1, 1, 1, 0] (bodyOf Try.prog 6)
def f6a13 : Ann := subAnn [1, 1, 1, 0] ann6
noncomputable def f6c14 : Code := subCode [1, 1, 1, 1] (bodyOf Try.prog 6)
def f6a14 : Ann := subAnn [1, 1, 1, 1] ann6
noncomputable def f6c15 : Code := subCode [1, 1, 1, 0, 0] (bodyOf Try.prog 6)
def f6a15 : Ann := subAnn [1, 1, 1, 0, 0] ann6
noncomputable def f6c16 : Code := subCode [1, 1, 1, 0, 1] (bodyOf Try.prog 6)
def f6a16 : Ann := subAnn [1, 1, 1, 0, 1] ann6
noncomputable def f6c17 : Code := subCode [1, 1, 1, 0, 1, 0] (bodyOf Try.prog 6)
def f6a17 : Ann := subAnn [1, 1, 1, 0, 1, 0] ann6
noncomputable def f6c18 : Code := subCode [1, 1, 1, 0, 1, 0, 0] (bodyOf Try.prog 6)
def f6a18 : Ann := subAnn [1, 1, 1, 0, 1, 0, 0] ann6
noncomputable def f6c19 : Code := subCode [1, 1, 1, 0, 1, 0, 0, 0] (bodyOf Try.prog 6)
def f6a19 : Ann := subAnn [1, 1, 1, 0, 1, 0, 0, 0] ann6
noncomputable def f6c20 : Code := subCode [1, 1, 1, 0, 1, 0, 0, 1] (bodyOf Try.prog 6)
def f6a20 : Ann := subAnn [1, 1, 1, 0, 1, 0, 0, 1] ann6
noncomputable def f6c21 : Code := subCode [1, 1, 1, 0, 1, 0, 0, 1, 0] (bodyOf Try.prog 6)
def f6a21 : Ann := subAnn [1, 1, 1, 0, 1, 0, 0, 1, 0] ann6
noncomputable def f6c22 : Code := subCode [1, 1, 1, 0, 1, 0, 0, 1, 1] (bodyOf Try.prog 6)
def f6a22 : Ann := subAnn [1, 1, 1, 0, 1, 0, 0, 1, 1] ann6
noncomputable def f6c23 : Code := subCode [1, 1, 1, 0, 1, 0, 0, 1, 0, 0] (bodyOf Try.prog 6)
def f6a23 : Ann := subAnn [1, 1, 1, 0, 1, 0, 0, 1, 0, 0] ann6
noncomputable def f6c24 : Code := subCode [1, 1, 1, 0, 1, 0, 0, 1, 0, 1] (bodyOf Try.prog 6)
def f6a24 : Ann := subAnn [1, 1, 1, 0, 1, 0, 0, 1, 0, 1] ann6
noncomputable def f6c25 : Code := subCode [1, 1, 1, 0, 1, 0, 0, 1, 1, 0] (bodyOf Try.prog 6)
def f6a25 : Ann := subAnn [1, 1, 1, 0, 1, 0, 0, 1, 1, 0] ann6
noncomputable def f6c26 : Code := subCode [1, 1, 1, 0, 1, 0, 0, 1, 1, 1] (bodyOf Try.prog 6)
def f6a26 : Ann := subAnn [1, 1, 1, 0, 1, 0, 0, 1, 1, 1] ann6
noncomputable def f6c27 : Code := subCode [1, 1, 1, 0, 1, 0, 0, 1, 1, 0, 0] (bodyOf Try.prog 6)
def f6a27 : Ann := subAnn [1, 1, 1, 0, 1, 0, 0, 1, 1, 0, 0] ann6
noncomputable def f6c28 : Code := subCode [1, 1, 1, 0, 1, 0, 0, 1, 1, 0, 0, 0] (bodyOf Try.prog 6)
def f6a28 : Ann := subAnn [1, 1, 1, 0, 1, 0, 0, 1, 1, 0, 0, 0] ann6
noncomputable def f6c29 : Code := subCode [1, 1, 1, 0, 1, 0, 0, 1, 1, 0, 0, 1] (bodyOf Try.prog 6)
def f6a29 : Ann := subAnn [1, 1, 1, 0, 1, 0, 0, 1, 1, 0, 0, 1] ann6
noncomputable def f6c30 : Code := subCode [1, 1, 1, 1, 0] (bodyOf Try.prog 6)
def f6a30 : Ann := subAnn [1, 1, 1, 1, 0] ann6
noncomputable def f6c31 : Code := subCode [1, 1, 1, 1, 1] (bodyOf Try.prog 6)
def f6a31 : Ann := subAnn [1, 1, 1, 1, 1] ann6
noncomputable def f6c32 : Code := subCode [1, 1, 1, 1, 1, 0] (bodyOf Try.prog 6)
def f6a32 : Ann := subAnn [1, 1, 1, 1, 1, 0] ann6
noncomputable def f6c33 : Code := subCode [1, 1, 1, 1, 1, 1] (bodyOf Try.prog 6)
def f6a33 : Ann := subAnn [1, 1, 1, 1, 1, 1] ann6
noncomputable def f6c34 : Code := subCode [1, 1, 1, 1, 1, 1, 0] (bodyOf Try.prog 6)
def f6a34 : Ann := subAnn [1, 1, 1, 1, 1, 1, 0] ann6
noncomputable def f6c35 : Code := subCode [1, 1, 1, 1, 1, 1, 1] (bodyOf Try.prog 6)
def f6a35 : Ann := subAnn [1, 1, 1, 1, 1, 1, 1] ann6
noncomputable def f6c36 : Code := subCode [1, 1, 1, 1, 1, 1, 1, 0] (bodyOf Try.prog 6)
def f6a36 : Ann := subAnn [1, 1, 1, 1, 1, 1, 1, 0] ann6
noncomputable def f6c37 : Code := subCode [1, 1, 1, 1, 1, 1, 1, 1] (bodyOf Try.prog 6)
def f6a37 : Ann := subAnn [1, 1, 1, 1, 1, 1, 1, 1] ann6
noncomputable def f6c38 : Code := subCode [1, 1, 1, 1, 1, 1, 1, 1, 0] (bodyOf Try.prog 6)
def f6a38 : Ann := subAnn [1, 1, 1, 1, 1, 1, 1, 1, 0] ann6
noncomputable def f6c39 : Code := subCode [1, 1, 1, 1, 1, 1, 1, 1, 1] (bodyOf Try.prog 6)
def f6a39 : Ann := subAnn [1, 1, 1, 1, 1, 1, 1, 1, 1] ann6
noncomputable def f6c40 : Code := subCode [1, 1, 1, 1, 1, 1, 1, 1, 0, 0] (bodyOf Try.prog 6)
def f6a40 : Ann := subAnn [1, 1, 1, 1, 1, 1, 1, 1, 0, 0] ann6
noncomputable def f6c41 : Code := subCode [1, 1, 1, 1, 1, 1, 1, 1, 0, 1] (bodyOf Try.prog 6)
def f6a41 : Ann := subAnn [1, 1, 1, 1, 1, 1, 1, 1, 0, 1] ann6
noncomputable def f6c42 : Code := subCode [1, 1, 1, 1, 1, 1, 1, 1, 0, 1, 0] (bodyOf Try.prog 6)
def f6a42 : Ann := subAnn [1, 1, 1, 1, 1, 1, 1, 1, 0, 1, 0] ann6
noncomputable def f6c43 : Code := subCode [1, 1, 1, 1, 1, 1, 1, 1, 0, 1, 1] (bodyOf Try.prog 6)
def f6a43 : Ann := subAnn [1, 1, 1, 1, 1, 1, 1, 1, 0, 1, 1] ann6
noncomputable def f6c44 : Code := subCode [1, 1, 1, 1, 1, 1, 1, 1, 0, 1, 0, 0] (bodyOf Try.prog 6)
def f6a44 : Ann := subAnn [1, 1, 1, 1, 1, 1, 1, 1, 0, 1, 0, 0] ann6
noncomputable def f6c45 : Code := subCode [1, 1, 1, 1, 1, 1, 1, 1, 0, 1, 0, 1] (bodyOf Try.prog 6)
def f6a45 : Ann := subAnn [1, 1, 1, 1, 1, 1, 1, 1, 0, 1, 0, 1] ann6
noncomputable def f6c46 : Code := subCode [1, 1, 1, 1, 1, 1, 1, 1, 0, 1, 0, 1, 0] (bodyOf Try.prog 6)
def f6a46 : Ann := subAnn [1, 1, 1, 1, 1, 1, 1, 1, 0, 1, 0, 1, 0] ann6
noncomputable def f6c47 : Code := subCode [1, 1, 1, 1, 1, 1, 1, 1, 0, 1, 0, 1, 1] (bodyOf Try.prog 6)
def f6a47 : Ann := subAnn [1, 1, 1, 1, 1, 1, 1, 1, 0, 1, 0, 1, 1] ann6
noncomputable def f6c48 : Code := subCode [1, 1, 1, 1, 1, 1, 1, 1, 0, 1, 0, 1, 1, 0] (bodyOf Try.prog 6)
def f6a48 : Ann := subAnn [1, 1, 1, 1, 1, 1, 1, 1, 0, 1, 0, 1, 1, 0] ann6
noncomputable def f6c49 : Code := subCode [1, 1, 1, 1, 1, 1, 1, 1, 0, 1, 0, 1, 1, 1] (bodyOf Try.prog 6)
def f6a49 : Ann := subAnn [1, 1, 1, 1, 1, 1, 1, 1, 0, 1, 0, 1, 1, 1] ann6
noncomputable def f6c50 : Code := subCode [1, 1, 1, 1, 1, 1, 1, 1, 1, 0] (bodyOf Try.prog 6)
def f6a50 : Ann := subAnn [1, 1, 1, 1, 1, 1, 1, 1, 1, 0] ann6
noncomputable def f6c51 : Code := subCode [1, 1, 1, 1, 1, 1, 1, 1, 1, 1] (bodyOf Try.prog 6)
def f6a51 : Ann := subAnn [1, 1, 1, 1, 1, 1, 1, 1, 1, 1] ann6
noncomputable def f6c52 : Code := subCode [1, 1, 1, 1, 1, 1, 1, 1, 1, 1, 0] (bodyOf Try.prog 6)
def f6a52 : Ann := subAnn [1, 1, 1, 1, 1, 1, 1, 1, 1, 1, 0] ann6
noncomputable def f6c53 : Code := subCode [1, 1, 1, 1, 1, 1, 1, 1, 1, 1, 1] (bodyOf Try.prog 6)
def f6a53 : Ann := subAnn [1, 1, 1, 1, 1, 1, 1, 1, 1, 1, 1] ann6
noncomputable def f6L17 {R : Type} (call : CallF R) (N : Nat) : KF R → Env → St → Option R := fun K e σ => runK Try.prog call N f6c18 f6a18 K e σ
def f6e0 (y0 : Int) (y1 : Int) (y2 : Int) (y3 : Option (Nat × Nat)) (y4 : Nat) (y5 : Option Nat) (y6 : Int) (y7 : Int) (y8 : ByteArray) (y9 : ByteArray) : Env := AV.agg [AV.int IntKind.i64 y0, AV.int IntKind.i64 y1, AV.int IntKind.i64 y2] :: AV.slice y3 y4 y5 (4 : Nat) :: AV.agg [AV.int IntKind.i64 y6, AV.int IntKind.i64 y7, AV.str y8, AV.str y9] :: Env.sp 214 []
def f6e1 (y0 : Int) (y1 : Int) (y2 : Int) (y3 : Option (Nat × Nat)) (y4 : Nat) (y5 : Option Nat) (y6 : Int) (y7 : Int) (y8 : ByteArray) (y9 : ByteArray) (y10 : Nat) (y11 : Nat) (y12 : Bool) : Env := AV.agg [AV.int IntKind.i64 y0, AV.int IntKind.i64 y1, AV.int IntKind.i64 y2] :: AV.slice y3 y4 y5 (4 : Nat) :: AV.agg [AV.int IntKind.i64 y6, AV.int IntKind.i64 y7, AV.str y8, AV.str y9] :: AV.ptr (some (y10, (0 : Nat))) :: Env.sp 1 (AV.ptr (some (y11, (0 : Nat))) :: AV.bool y12 :: Env.sp 210 [])
def f6e2 (y0 : Option (Nat × Nat)) (y1 : Nat) (y2 : Option Nat) (y3 : Nat) (y4 : Nat) : Env := Env.sp 1 (AV.slice y0 y1 y2 (4 : Nat) :: Env.sp 1 (AV.ptr (some (y3, (0 : Nat))) :: Env.sp 1 (AV.ptr (some (y4, (0 : Nat))) :: Env.sp 211 [])))
def f6e3 (y0 : Option (Nat × Nat)) (y1 : Nat) (y2 : Option Nat) (y3 : Nat) (y4 : Nat) (y5 : Option (Nat × Nat)) (y6 : Int) (y7 : Option (Nat × Nat)) (y8 : Int) (y9 : Nat) (y10 : Int) (y11 : Nat) (y12 : Int) (y13 : Nat) (y14 : Int) (y15 : Option (Nat × Nat)) (y16 : Int) (y17 : Option (Nat × Nat)) (y18 : Int) : Env := Env.sp 1 (AV.slice y0 y1 y2 (4 : Nat) :: Env.sp 1 (AV.ptr (some (y3, (0 : Nat))) :: Env.sp 1 (AV.ptr (some (y4, (0 : Nat))) :: Env.sp 1 (AV.ptr y5 :: AV.int IntKind.i64 y6 :: Env.sp 18 (AV.tuple [AV.ptr y7, AV.int IntKind.i64 y8] :: AV.ptr (some (y9, (0 : Nat))) :: AV.int IntKind.i64 y10 :: AV.ptr (some (y11, (1 : Nat))) :: AV.int IntKind.i64 y12 :: AV.ptr (some (y13, (2 : Nat))) :: AV.int IntKind.i64 y14 :: AV.tuple [AV.ptr y15, AV.int IntKind.i64 y16] :: AV.ptr y17 :: AV.int IntKind.i64 y18 :: Env.sp 180 [])))))
def f6e4 (y0 : Option (Nat × Nat)) (y1 : Nat) (y2 : Option Nat) (y3 : Nat) (y4 : Option (Nat × Nat)) (y5 : Int) : Env := Env.sp 1 (AV.slice y0 y1 y2 (4 : Nat) :: Env.sp 3 (AV.ptr (some (y3, (0 : Nat))) :: Env.sp 1 (AV.ptr y4 :: AV.int IntKind.i64 y5 :: Env.sp 208 [])))
def f6e5 (y0 : Option (Nat × Nat)) (y1 : Nat) (y2 : Option Nat) (y3 : Nat) (y4 : Option (Nat × Nat)) (y5 : Int) (y6 : Int) (y7 : Bool) (y8 : Bool) (y9 : Bool) (y10 : Bool) (y11 : Bool) : Env := Env.sp 1 (AV.slice y0 y1 y2 (4 : Nat) :: Env.sp 3 (AV.ptr (some (y3, (0 : Nat))) :: Env.sp 1 (AV.ptr y4 :: AV.int IntKind.i64 y5 :: Env.sp 28 (AV.int IntKind.i64 y6 :: AV.bool y7 :: AV.bool y8 :: AV.tuple [] :: AV.tuple [] :: AV.bool y9 :: AV.bool y10 :: AV.tuple [] :: AV.tuple [] :: AV.tuple [] :: AV.bool y11 :: Env.sp 169 []))))
def f6e6 (y0 : Option (Nat × Nat)) (y1 : Nat) (y2 : Option Nat) (y3 : Nat) (y4 : Option (Nat × Nat)) (y5 : Int) (y6 : Int) (y7 : Bool) (y8 : Bool) (y9 : Option (Nat × Nat)) (y10 : Bool) (y11 : Bool) (y12 : Bool) (y13 : Bool) : Env := Env.sp 1 (AV.slice y0 y1 y2 (4 : Nat) :: Env.sp 3 (AV.ptr (some (y3, (0 : Nat))) :: Env.sp 1 (AV.ptr y4 :: AV.int IntKind.i64 y5 :: Env.sp 28 (AV.int IntKind.i64 y6 :: AV.bool y7 :: AV.bool y8 :: AV.ptr y9 :: AV.bool y10 :: AV.bool y11 :: AV.bool y12 :: AV.tuple [] :: AV.tuple [] :: AV.tuple [] :: AV.bool y13 :: Env.sp 169 []))))
def f6e7 (y0 : Option (Nat × Nat)) (y1 : Nat) (y2 : Option Nat) (y3 : Nat) (y4 : Option (Nat × Nat)) (y5 : Int) (y6 : Int) (y7 : Bool) (y8 : Bool) (y9 : Option (Nat × Nat)) (y10 : Bool) (y11 : Bool) (y12 : Bool) (y13 : Option (Nat × Nat)) (y14 : Nat) (y15 : Option Nat) (y16 : Int) (y17 : Bool) (y18 : Bool) : Env := Env.sp 1 (AV.slice y0 y1 y2 (4 : Nat) :: Env.sp 3 (AV.ptr (some (y3, (0 : Nat))) :: Env.sp 1 (AV.ptr y4 :: AV.int IntKind.i64 y5 :: Env.sp 28 (AV.int IntKind.i64 y6 :: AV.bool y7 :: AV.bool y8 :: AV.ptr y9 :: AV.bool y10 :: AV.bool y11 :: AV.bool y12 :: AV.slice y13 y14 y15 (4 : Nat) :: AV.int IntKind.i64 y16 :: AV.bool y17 :: AV.bool y18 :: Env.sp 169 []))))
def f6e8 (y0 : Option (Nat × Nat)) (y1 : Nat) (y2 : Option Nat) (y3 : Nat) (y4 : Option (Nat × Nat)) (y5 : Int) (y6 : Bool) : Env := Env.sp 1 (AV.slice y0 y1 y2 (4 : Nat) :: Env.sp 3 (AV.ptr (some (y3, (0 : Nat))) :: Env.sp 1 (AV.ptr y4 :: AV.int IntKind.i64 y5 :: Env.sp 38 (AV.bool y6 :: Env.sp 169 []))))
def f6e9 (y0 : Option (Nat × Nat)) (y1 : Nat) (y2 : Option Nat) (y3 : Nat) (y4 : Bool) (y5 : Option (Nat × Nat)) (y6 : Int) (y7 : Bool) (y8 : Int) (y9 : Bool) (y10 : Bool) (y11 : Bool) (y12 : Bool) (y13 : Bool) (y14 : Bool) : Env := Env.sp 1 (AV.slice y0 y1 y2 (4 : Nat) :: Env.sp 3 (AV.ptr (some (y3, (0 : Nat))) :: AV.bool y4 :: AV.ptr y5 :: AV.int IntKind.i64 y6 :: Env.sp 38 (AV.bool y7 :: AV.int IntKind.i64 y8 :: AV.bool y9 :: AV.bool y10 :: AV.tuple [] :: AV.tuple [] :: AV.bool y11 :: AV.bool y12 :: AV.bool y13 :: AV.bool y14 :: Env.sp 160 [])))
def f6e10 (y0 : Option (Nat × Nat)) (y1 : Nat) (y2 : Option Nat) (y3 : Nat) (y4 : Bool) (y5 : Option (Nat × Nat)) (y6 : Int) (y7 : Bool) (y8 : Int) (y9 : Bool) (y10 : Bool) (y11 : Option (Nat × Nat)) (y12 : Bool) (y13 : Bool) (y14 : Bool) (y15 : Bool) (y16 : Bool) : Env := Env.sp 1 (AV.slice y0 y1 y2 (4 : Nat) :: Env.sp 3 (AV.ptr (some (y3, (0 : Nat))) :: AV.bool y4 :: AV.ptr y5 :: AV.int IntKind.i64 y6 :: Env.sp 38 (AV.bool y7 :: AV.int IntKind.i64 y8 :: AV.bool y9 :: AV.bool y10 :: AV.ptr y11 :: AV.bool y12 :: AV.bool y13 :: AV.bool y14 :: AV.bool y15 :: AV.bool y16 :: Env.sp 160 [])))
def f6e11 (y0 : Option (Nat × Nat)) (y1 : Nat) (y2 : Option Nat) (y3 : Nat) (y4 : Bool) (y5 : Option (Nat × Nat)) (y6 : Int) (y7 : Bool) (y8 : Int) (y9 : Bool) (y10 : Bool) (y11 : Option (Nat × Nat)) (y12 : Bool) (y13 : Bool) (y14 : Bool) (y15 : Bool) : Env := Env.sp 1 (AV.slice y0 y1 y2 (4 : Nat) :: Env.sp 3 (AV.ptr (some (y3, (0 : Nat))) :: AV.bool y4 :: AV.ptr y5 :: AV.int IntKind.i64 y6 :: Env.sp 38 (AV.bool y7 :: AV.int IntKind.i64 y8 :: AV.bool y9 :: AV.bool y10 :: AV.ptr y11 :: AV.bool y12 :: AV.bool y13 :: AV.bool y14 :: AV.tuple [] :: AV.bool y15 :: Env.sp 160 [])))
def f6e12 (y0 : Bool) : Env := Env.sp 6 (AV.bool y0 :: Env.sp 210 [])
def f6e13 (y0 : Option (Nat × Nat)) (y1 : Nat) (y2 : Option Nat) (y3 : Nat) (y4 : Option (Nat × Nat)) : Env := Env.sp 1 (AV.slice y0 y1 y2 (4 : Nat) :: Env.sp 3 (AV.ptr (some (y3, (0 : Nat))) :: Env.sp 1 (AV.ptr y4 :: Env.sp 209 [])))
def f6e14 (y0 : Option (Nat × Nat)) (y1 : Nat) (y2 : Option Nat) (y3 : Nat) (y4 : Option (Nat × Nat)) (y5 : Option (Nat × Nat)) (y6 : Nat) (y7 : Option Nat) (y8 : Int) (y9 : Int) : Env := Env.sp 1 (AV.slice y0 y1 y2 (4 : Nat) :: Env.sp 3 (AV.ptr (some (y3, (0 : Nat))) :: Env.sp 1 (AV.ptr y4 :: Env.sp 49 (AV.slice y5 y6 y7 (4 : Nat) :: AV.int IntKind.i64 y8 :: AV.int IntKind.i64 y9 :: Env.sp 157 []))))
def f6e15 (y0 : Nat) (y1 : Option (Nat × Nat)) (y2 : Option (Nat × Nat)) (y3 : Nat) (y4 : Option Nat) (y5 : Int) (y6 : Int) : Env := Env.sp 5 (AV.ptr (some (y0, (0 : Nat))) :: Env.sp 1 (AV.ptr y1 :: Env.sp 49 (AV.slice y2 y3 y4 (4 : Nat) :: AV.int IntKind.i64 y5 :: AV.int IntKind.i64 y6 :: Env.sp 157 [])))
def f6e16 (y0 : Nat) (y1 : Option (Nat × Nat)) (y2 : Option (Nat × Nat)) (y3 : Nat) (y4 : Option Nat) (y5 : Int) (y6 : Int) (y7 : Bool) : Env := Env.sp 5 (AV.ptr (some (y0, (0 : Nat))) :: Env.sp 1 (AV.ptr y1 :: Env.sp 49 (AV.slice y2 y3 y4 (4 : Nat) :: AV.int IntKind.i64 y5 :: AV.int IntKind.i64 y6 :: AV.bool y7 :: Env.sp 156 [])))
def f6e17 (y0 : Nat) (y1 : Option (Nat × Nat)) : Env := Env.sp 5 (AV.ptr (some (y0, (0 : Nat))) :: Env.sp 1 (AV.ptr y1 :: Env.sp 209 []))
def f6e18 (y0 : Nat) (y1 : Option (Nat × Nat)) (y2 : Nat) (y3 : Option (Nat × Nat)) (y4 : Nat) (y5 : Option Nat) (y6 : Int) (y7 : Int) (y8 : Option (Nat × Nat)) (y9 : Int) (y10 : Int) (y11 : ByteArray) (y12 : ByteArray) : Env := Env.sp 5 (AV.ptr (some (y0, (0 : Nat))) :: Env.sp 1 (AV.ptr y1 :: Env.sp 2 (AV.ptr (some (y2, (0 : Nat))) :: Env.sp 46 (AV.slice y3 y4 y5 (4 : Nat) :: AV.int IntKind.i64 y6 :: AV.int IntKind.i64 y7 :: Env.sp 1 (AV.ptr y8 :: AV.agg [AV.int IntKind.i64 y9, AV.int IntKind.i64 y10, AV.str y11, AV.str y12] :: Env.sp 154 [])))))
def f6e19 (y0 : Nat) (y1 : Option (Nat × Nat)) (y2 : Nat) (y3 : Option (Nat × Nat)) (y4 : Nat) (y5 : Option Nat) (y6 : Int) (y7 : Int) : Env := Env.sp 5 (AV.ptr (some (y0, (0 : Nat))) :: Env.sp 1 (AV.ptr y1 :: Env.sp 2 (AV.ptr (some (y2, (0 : Nat))) :: Env.sp 46 (AV.slice y3 y4 y5 (4 : Nat) :: AV.int IntKind.i64 y6 :: AV.int IntKind.i64 y7 :: Env.sp 157 []))))
def f6e20 (y0 : Nat) (y1 : Option (Nat × Nat)) (y2 : Nat) (y3 : Option (Nat × Nat)) (y4 : Nat) (y5 : Option Nat) (y6 : Int) (y7 : Int) (y8 : Option (Nat × Nat)) (y9 : Nat) (y10 : Int) (y11 : Nat) (y12 : Int) (y13 : Nat) (y14 : ByteArray) (y15 : Nat) (y16 : ByteArray) (y17 : Bool) (y18 : Int) : Env := Env.sp 5 (AV.ptr (some (y0, (0 : Nat))) :: Env.sp 1 (AV.ptr y1 :: Env.sp 2 (AV.ptr (some (y2, (0 : Nat))) :: Env.sp 46 (AV.slice y3 y4 y5 (4 : Nat) :: AV.int IntKind.i64 y6 :: AV.int IntKind.i64 y7 :: Env.sp 3 (AV.ptr y8 :: AV.ptr (some (y9, (0 : Nat))) :: AV.int IntKind.i64 y10 :: AV.ptr (some (y11, (1 : Nat))) :: AV.int IntKind.i64 y12 :: AV.ptr (some (y13, (2 : Nat))) :: AV.str y14 :: AV.ptr (some (y15, (3 : Nat))) :: AV.str y16 :: AV.tuple [AV.bool y17, AV.int IntKind.i64 y18] :: Env.sp 144 [])))))
def f6e21 (y0 : Nat) (y1 : Option (Nat × Nat)) (y2 : Option (Nat × Nat)) (y3 : Nat) (y4 : Option Nat) (y5 : Int) (y6 : Int) (y7 : Int) : Env := Env.sp 5 (AV.ptr (some (y0, (0 : Nat))) :: Env.sp 1 (AV.ptr y1 :: Env.sp 49 (AV.slice y2 y3 y4 (4 : Nat) :: AV.int IntKind.i64 y5 :: AV.int IntKind.i64 y6 :: Env.sp 13 (AV.int IntKind.i64 y7 :: Env.sp 143 []))))
def f6e22 (y0 : Nat) (y1 : Option (Nat × Nat)) (y2 : ByteArray) (y3 : ByteArray) (y4 : Bool) (y5 : ByteArray) (y6 : ByteArray) (y7 : Bool) (y8 : Option (Nat × Nat)) (y9 : Nat) (y10 : Int) (y11 : Nat) (y12 : Int) (y13 : ByteArray) (y14 : ByteArray) (y15 : Bool) (y16 : ByteArray) (y17 : ByteArray) (y18 : Bool) : Env := Env.sp 5 (AV.ptr (some (y0, (0 : Nat))) :: Env.sp 1 (AV.ptr y1 :: Env.sp 3 (AV.str y2 :: AV.str y3 :: AV.bool y4 :: Env.sp 60 (AV.tuple [AV.str y5, AV.str y6, AV.bool y7] :: AV.ptr y8 :: AV.ptr (some (y9, (0 : Nat))) :: AV.int IntKind.i64 y10 :: AV.ptr (some (y11, (1 : Nat))) :: AV.int IntKind.i64 y12 :: AV.tuple [AV.str y13, AV.str y14, AV.bool y15] :: AV.str y16 :: AV.str y17 :: AV.bool y18 :: Env.sp 133 []))))
def f6e23 (y0 : Nat) (y1 : Option (Nat × Nat)) (y2 : ByteArray) (y3 : ByteArray) (y4 : Bool) : Env := Env.sp 5 (AV.ptr (some (y0, (0 : Nat))) :: Env.sp 1 (AV.ptr y1 :: Env.sp 3 (AV.str y2 :: AV.str y3 :: AV.bool y4 :: Env.sp 203 [])))
def f6e24 (y0 : Nat) (y1 : Option (Nat × Nat)) (y2 : ByteArray) (y3 : ByteArray) (y4 : Bool) (y5 : Nat) (y6 : Bool) (y7 : ByteArray) (y8 : Int) (y9 : Option (Nat × Nat)) (y10 : Nat) (y11 : Option Nat) (y12 : Bool) (y13 : Option (Nat × Nat)) (y14 : Nat) (y15 : Int) (y16 : ByteArray) (y17 : Int) (y18 : Option (Nat × Nat)) (y19 : Nat) (y20 : Option Nat) (y21 : Bool) (y22 : ByteArray) (y23 : Int) (y24 : Option (Nat × Nat)) (y25 : Nat) (y26 : Option Nat) (y27 : Bool) : Env := Env.sp 5 (AV.ptr (some (y0, (0 : Nat))) :: Env.sp 1 (AV.ptr y1 :: Env.sp 3 (AV.str y2 :: AV.str y3 :: AV.bool y4 :: AV.ptr (some (y5, (0 : Nat))) :: AV.bool y6 :: Env.sp 68 (AV.tuple [AV.agg [AV.str y7, AV.int IntKind.i64 y8, AV.slice y9 y10 y11 (2 : Nat)], AV.bool y12] :: AV.ptr y13 :: AV.ptr (some (y14, (0 : Nat))) :: AV.int IntKind.i64 y15 :: AV.tuple [AV.agg [AV.str y16, AV.int IntKind.i64 y17, AV.slice y18 y19 y20 (2 : Nat)], AV.bool y21] :: AV.agg [AV.str y22, AV.int IntKind.i64 y23, AV.slice y24 y25 y26 (2 : Nat)] :: AV.bool y27 :: Env.sp 126 []))))
def f6e25 (y0 : Nat) (y1 : Option (Nat × Nat)) (y2 : ByteArray) (y3 : ByteArray) (y4 : Bool) (y5 : Nat) (y6 : Bool) : Env := Env.sp 5 (AV.ptr (some (y0, (0 : Nat))) :: Env.sp 1 (AV.ptr y1 :: Env.sp 3 (AV.str y2 :: AV.str y3 :: AV.bool y4 :: AV.ptr (some (y5, (0 : Nat))) :: AV.bool y6 :: Env.sp 201 [])))
def f6e26 (y0 : Nat) (y1 : Option (Nat × Nat)) (y2 : ByteArray) (y3 : ByteArray) (y4 : Bool) (y5 : Nat) (y6 : Bool) (y7 : Int) (y8 : Option (Nat × Nat)) (y9 : Nat) (y10 : Int) (y11 : Int) : Env := Env.sp 5 (AV.ptr (some (y0, (0 : Nat))) :: Env.sp 1 (AV.ptr y1 :: Env.sp 3 (AV.str y2 :: AV.str y3 :: AV.bool y4 :: AV.ptr (some (y5, (0 : Nat))) :: AV.bool y6 :: AV.int IntKind.i64 y7 :: Env.sp 74 (AV.ptr y8 :: AV.ptr (some (y9, (0 : Nat))) :: AV.int IntKind.i64 y10 :: AV.int IntKind.i64 y11 :: Env.sp 122 []))))
def f6e27 (y0 : Nat) (y1 : Option (Nat × Nat)) (y2 : ByteArray) (y3 : ByteArray) (y4 : Bool) (y5 : Nat) (y6 : Bool) (y7 : Int) : Env := Env.sp 5 (AV.ptr (some (y0, (0 : Nat))) :: Env.sp 1 (AV.ptr y1 :: Env.sp 3 (AV.str y2 :: AV.str y3 :: AV.bool y4 :: AV.ptr (some (y5, (0 : Nat))) :: AV.bool y6 :: AV.int IntKind.i64 y7 :: Env.sp 200 [])))
def f6e28 (y0 : Nat) (y1 : Option (Nat × Nat)) (y2 : ByteArray) (y3 : ByteArray) (y4 : Bool) (y5 : Nat) (y6 : Bool) (y7 : Int) (y8 : Bool) (y9 : Int) (y10 : Bool) (y11 : Int) (y12 : Option (Nat × Nat)) (y13 : Nat) (y14 : Int) (y15 : Nat) (y16 : Int) (y17 : Nat) (y18 : ByteArray) (y19 : Nat) (y20 : ByteArray) (y21 : Bool) (y22 : Int) (y23 : Bool) (y24 : Int) : Env := Env.sp 5 (AV.ptr (some (y0, (0 : Nat))) :: Env.sp 1 (AV.ptr y1 :: Env.sp 3 (AV.str y2 :: AV.str y3 :: AV.bool y4 :: AV.ptr (some (y5, (0 : Nat))) :: AV.bool y6 :: AV.int IntKind.i64 y7 :: AV.bool y8 :: AV.int IntKind.i64 y9 :: Env.sp 76 (AV.tuple [AV.bool y10, AV.int IntKind.i64 y11] :: AV.ptr y12 :: AV.ptr (some (y13, (0 : Nat))) :: AV.int IntKind.i64 y14 :: AV.ptr (some (y15, (1 : Nat))) :: AV.int IntKind.i64 y16 :: AV.ptr (some (y17, (2 : Nat))) :: AV.str y18 :: AV.ptr (some (y19, (3 : Nat))) :: AV.str y20 :: AV.tuple [AV.bool y21, AV.int IntKind.i64 y22] :: AV.bool y23 :: AV.int IntKind.i64 y24 :: Env.sp 109 []))))
def f6e29 (y0 : Nat) (y1 : Option (Nat × Nat)) (y2 : ByteArray) (y3 : ByteArray) (y4 : Bool) (y5 : Nat) (y6 : Bool) (y7 : Int) (y8 : Bool) (y9 : Int) : Env := Env.sp 5 (AV.ptr (some (y0, (0 : Nat))) :: Env.sp 1 (AV.ptr y1 :: Env.sp 3 (AV.str y2 :: AV.str y3 :: AV.bool y4 :: AV.ptr (some (y5, (0 : Nat))) :: AV.bool y6 :: AV.int IntKind.i64 y7 :: AV.bool y8 :: AV.int IntKind.i64 y9 :: Env.sp 198 [])))
def f6e30 (y0 : Nat) (y1 : Option (Nat × Nat)) (y2 : ByteArray) (y3 : ByteArray) (y4 : Bool) (y5 : Nat) (y6 : Bool) (y7 : Int) (y8 : Bool) (y9 : Int) (y10 : Int) (y11 : Bool) (y12 : Bool) (y13 : Bool) : Env := Env.sp 5 (AV.ptr (some (y0, (0 : Nat))) :: Env.sp 1 (AV.ptr y1 :: Env.sp 3 (AV.str y2 :: AV.str y3 :: AV.bool y4 :: AV.ptr (some (y5, (0 : Nat))) :: AV.bool y6 :: AV.int IntKind.i64 y7 :: AV.bool y8 :: AV.int IntKind.i64 y9 :: Env.sp 89 (AV.int IntKind.i64 y10 :: AV.bool y11 :: AV.bool y12 :: AV.tuple [] :: AV.bool y13 :: Env.sp 104 []))))
def f6e31 (y0 : Nat) (y1 : Option (Nat × Nat)) (y2 : ByteArray) (y3 : ByteArray) (y4 : Bool) (y5 : Nat) (y6 : Bool) (y7 : Int) (y8 : Bool) (y9 : Int) (y10 : Int) (y11 : Bool) (y12 : Bool) (y13 : Bool) (y14 : Bool) : Env := Env.sp 5 (AV.ptr (some (y0, (0 : Nat))) :: Env.sp 1 (AV.ptr y1 :: Env.sp 3 (AV.str y2 :: AV.str y3 :: AV.bool y4 :: AV.ptr (some (y5, (0 : Nat))) :: AV.bool y6 :: AV.int IntKind.i64 y7 :: AV.bool y8 :: AV.int IntKind.i64 y9 :: Env.sp 89 (AV.int IntKind.i64 y10 :: AV.bool y11 :: AV.bool y12 :: AV.bool y13 :: AV.bool y14 :: Env.sp 104 []))))
def f6e32 (y0 : Nat) (y1 : Option (Nat × Nat)) (y2 : ByteArray) (y3 : ByteArray) (y4 : Bool) (y5 : Nat) (y6 : Bool) (y7 : Int) (y8 : Bool) (y9 : Bool) : Env := Env.sp 5 (AV.ptr (some (y0, (0 : Nat))) :: Env.sp 1 (AV.ptr y1 :: Env.sp 3 (AV.str y2 :: AV.str y3 :: AV.bool y4 :: AV.ptr (some (y5, (0 : Nat))) :: AV.bool y6 :: AV.int IntKind.i64 y7 :: AV.bool y8 :: Env.sp 94 (AV.bool y9 :: Env.sp 104 []))))
def f6e33 (y0 : Nat) (y1 : Option (Nat × Nat)) (y2 : ByteArray) (y3 : ByteArray) (y4 : Bool) (y5 : Nat) (y6 : Bool) (y7 : Int) (y8 : Bool) (y9 : Nat) (y10 : Bool) (y11 : Bool) (y12 : ByteArray) (y13 : Int) (y14 : Option (Nat × Nat)) (y15 : Nat) (y16 : Option Nat) (y17 : Bool) (y18 : Option (Nat × Nat)) (y19 : Nat) (y20 : Int) (y21 : ByteArray) (y22 : Int) (y23 : Option (Nat × Nat)) (y24 : Nat) (y25 : Option Nat) (y26 : Bool) (y27 : ByteArray) (y28 : Int) (y29 : Option (Nat × Nat)) (y30 : Nat) (y31 : Option Nat) (y32 : Bool) : Env := Env.sp 5 (AV.ptr (some (y0, (0 : Nat))) :: Env.sp 1 (AV.ptr y1 :: Env.sp 3 (AV.str y2 :: AV.str y3 :: AV.bool y4 :: AV.ptr (some (y5, (0 : Nat))) :: AV.bool y6 :: AV.int IntKind.i64 y7 :: AV.bool y8 :: Env.sp 1 (AV.ptr (some (y9, (0 : Nat))) :: AV.bool y10 :: Env.sp 91 (AV.bool y11 :: AV.tuple [AV.agg [AV.str y12, AV.int IntKind.i64 y13, AV.slice y14 y15 y16 (2 : Nat)], AV.bool y17] :: AV.ptr y18 :: AV.ptr (some (y19, (0 : Nat))) :: AV.int IntKind.i64 y20 :: AV.tuple [AV.agg [AV.str y21, AV.int IntKind.i64 y22, AV.slice y23 y24 y25 (2 : Nat)], AV.bool y26] :: AV.agg [AV.str y27, AV.int IntKind.i64 y28, AV.slice y29 y30 y31 (2 : Nat)] :: AV.bool y32 :: Env.sp 97 [])))))
def f6e34 (y0 : Nat) (y1 : Option (Nat × Nat)) (y2 : ByteArray) (y3 : ByteArray) (y4 : Bool) (y5 : Nat) (y6 : Bool) (y7 : Int) (y8 : Bool) (y9 : Nat) (y10 : Bool) : Env := Env.sp 5 (AV.ptr (some (y0, (0 : Nat))) :: Env.sp 1 (AV.ptr y1 :: Env.sp 3 (AV.str y2 :: AV.str y3 :: AV.bool y4 :: AV.ptr (some (y5, (0 : Nat))) :: AV.bool y6 :: AV.int IntKind.i64 y7 :: AV.bool y8 :: Env.sp 1 (AV.ptr (some (y9, (0 : Nat))) :: AV.bool y10 :: Env.sp 196 []))))
def f6e35 (y0 : Nat) (y1 : Option (Nat × Nat)) (y2 : ByteArray) (y3 : ByteArray) (y4 : Bool) (y5 : Nat) (y6 : Bool) (y7 : Int) (y8 : Bool) (y9 : Nat) (y10 : Bool) (y11 : ByteArray) (y12 : ByteArray) (y13 : Bool) (y14 : ByteArray) (y15 : ByteArray) (y16 : Bool) (y17 : Option (Nat × Nat)) (y18 : Nat) (y19 : Int) (y20 : Nat) (y21 : Int) (y22 : ByteArray) (y23 : ByteArray) (y24 : Bool) (y25 : ByteArray) (y26 : ByteArray) (y27 : Bool) : Env := Env.sp 5 (AV.ptr (some (y0, (0 : Nat))) :: Env.sp 1 (AV.ptr y1 :: Env.sp 3 (AV.str y2 :: AV.str y3 :: AV.bool y4 :: AV.ptr (some (y5, (0 : Nat))) :: AV.bool y6 :: AV.int IntKind.i64 y7 :: AV.bool y8 :: Env.sp 1 (AV.ptr (some (y9, (0 : Nat))) :: AV.bool y10 :: AV.str y11 :: AV.str y12 :: AV.bool y13 :: Env.sp 96 (AV.tuple [AV.str y14, AV.str y15, AV.bool y16] :: AV.ptr y17 :: AV.ptr (some (y18, (0 : Nat))) :: AV.int IntKind.i64 y19 :: AV.ptr (some (y20, (1 : Nat))) :: AV.int IntKind.i64 y21 :: AV.tuple [AV.str y22, AV.str y23, AV.bool y24] :: AV.str y25 :: AV.str y26 :: AV.bool y27 :: Env.sp 87 [])))))
def f6e36 (y0 : Nat) (y1 : Option (Nat × Nat)) (y2 : ByteArray) (y3 : ByteArray) (y4 : Bool) (y5 : Nat) (y6 : Bool) (y7 : Int) (y8 : Bool) (y9 : Nat) (y10 : Bool) (y11 : ByteArray) (y12 : ByteArray) (y13 : Bool) : Env := Env.sp 5 (AV.ptr (some (y0, (0 : Nat))) :: Env.sp 1 (AV.ptr y1 :: Env.sp 3 (AV.str y2 :: AV.str y3 :: AV.bool y4 :: AV.ptr (some (y5, (0 : Nat))) :: AV.bool y6 :: AV.int IntKind.i64 y7 :: AV.bool y8 :: Env.sp 1 (AV.ptr (some (y9, (0 : Nat))) :: AV.bool y10 :: AV.str y11 :: AV.str y12 :: AV.bool y13 :: Env.sp 193 []))))
def f6e37 (y0 : Nat) (y1 : Bool) (y2 : Option (Nat × Nat)) (y3 : ByteArray) (y4 : ByteArray) (y5 : Bool) (y6 : Nat) (y7 : Bool) (y8 : Int) (y9 : Bool) (y10 : Nat) (y11 : Bool) (y12 : ByteArray) (y13 : ByteArray) (y14 : Bool) (y15 : Bool) (y16 : Bool) (y17 : Bool) (y18 : Option (Nat × Nat)) (y19 : Nat) (y20 : Int) (y21 : Int) (y22 : Int) (y23 : Bool) (y24 : Bool) (y25 : Bool) (y26 : Bool) (y27 : Bool) (y28 : Bool) (y29 : Bool) (y30 : Bool) (y31 : Nat) (y32 : ByteArray) (y33 : Nat) (y34 : ByteArray) (y35 : Bool) (y36 : Bool) (y37 : Bool) (y38 : Nat) (y39 : Option (Nat × Nat)) (y40 : Nat) (y41 : Option Nat) (y42 : Int) (y43 : Nat) (y44 : Option (Nat × Nat)) (y45 : Nat) (y46 : Option Nat) (y47 : Int) (y48 : Bool) (y49 : Bool) (y50 : Bool) (y51 : ByteArray) (y52 : ByteArray) (y53 : Bool) (y54 : Bool) (y55 : Bool) (y56 : ByteArray) (y57 : ByteArray) (y58 : Bool) (y59 : Bool) (y60 : Bool) (y61 : Bool) (y62 : Bool) (y63 : Bool) (y64 : Bool) (y65 : Bool) (y66 : Bool) (y67 : Bool) : Env := Env.sp 5 (AV.ptr (some (y0, (0 : Nat))) :: AV.bool y1 :: AV.ptr y2 :: Env.sp 3 (AV.str y3 :: AV.str y4 :: AV.bool y5 :: AV.ptr (some (y6, (0 : Nat))) :: AV.bool y7 :: AV.int IntKind.i64 y8 :: AV.bool y9 :: Env.sp 1 (AV.ptr (some (y10, (0 : Nat))) :: AV.bool y11 :: AV.str y12 :: AV.str y13 :: AV.bool y14 :: Env.sp 106 (AV.bool y15 :: AV.bool y16 :: AV.bool y17 :: AV.ptr y18 :: AV.ptr (some (y19, (0 : Nat))) :: AV.int IntKind.i64 y20 :: AV.int IntKind.i64 y21 :: AV.int IntKind.i64 y22 :: AV.bool y23 :: AV.bool y24 :: AV.bool y25 :: AV.bool y26 :: AV.bool y27 :: AV.bool y28 :: AV.bool y29 :: AV.bool y30 :: AV.ptr (some (y31, (0 : Nat))) :: AV.str y32 :: AV.ptr (some (y33, (0 : Nat))) :: AV.str y34 :: AV.bool y35 :: AV.bool y36 :: AV.bool y37 :: AV.ptr (some (y38, (2 : Nat))) :: AV.slice y39 y40 y41 (2 : Nat) :: AV.int IntKind.i64 y42 :: AV.ptr (some (y43, (2 : Nat))) :: AV.slice y44 y45 y46 (2 : Nat) :: AV.int IntKind.i64 y47 :: AV.bool y48 :: AV.bool y49 :: AV.bool y50 :: AV.str y51 :: AV.str y52 :: AV.bool y53 :: AV.bool y54 :: AV.bool y55 :: AV.str y56 :: AV.str y57 :: AV.bool y58 :: AV.bool y59 :: AV.bool y60 :: AV.bool y61 :: AV.bool y62 :: AV.bool y63 :: AV.bool y64 :: AV.bool y65 :: AV.bool y66 :: AV.bool y67 :: Env.sp 38 []))))
def f6e38 (y0 : Nat) (y1 : Bool) (y2 : Option (Nat × Nat)) (y3 : ByteArray) (y4 : ByteArray) (y5 : Bool) (y6 : Nat) (y7 : Bool) (y8 : Int) (y9 : Bool) (y10 : Nat) (y11 : Bool) (y12 : ByteArray) (y13 : ByteArray) (y14 : Bool) (y15 : Bool) (y16 : Bool) (y17 : Bool) (y18 : Option (Nat × Nat)) (y19 : Nat) (y20 : Int) (y21 : Int) (y22 : Int) (y23 : Bool) (y24 : Bool) (y25 : Bool) (y26 : Bool) (y27 : Bool) (y28 : Bool) (y29 : Bool) (y30 : Bool) (y31 : Nat) (y32 : ByteArray) (y33 : Nat) (y34 : ByteArray) (y35 : Bool) (y36 : Bool) (y37 : Bool) (y38 : Nat) (y39 : Option (Nat × Nat)) (y40 : Nat) (y41 : Option Nat) (y42 : Int) (y43 : Nat) (y44 : Option (Nat × Nat)) (y45 : Nat) (y46 : Option Nat) (y47 : Int) (y48 : Bool) (y49 : Bool) (y50 : Bool) (y51 : ByteArray) (y52 : ByteArray) (y53 : Bool) (y54 : Bool) (y55 : Bool) (y56 : ByteArray) (y57 : ByteArray) (y58 : Bool) (y59 : Bool) (y60 : Bool) (y61 : Bool) (y62 : Bool) (y63 : Bool) (y64 : Bool) (y65 : Bool) (y66 : Bool) : Env := Env.sp 5 (AV.ptr (some (y0, (0 : Nat))) :: AV.bool y1 :: AV.ptr y2 :: Env.sp 3 (AV.str y3 :: AV.str y4 :: AV.bool y5 :: AV.ptr (some (y6, (0 : Nat))) :: AV.bool y7 :: AV.int IntKind.i64 y8 :: AV.bool y9 :: Env.sp 1 (AV.ptr (some (y10, (0 : Nat))) :: AV.bool y11 :: AV.str y12 :: AV.str y13 :: AV.bool y14 :: Env.sp 106 (AV.bool y15 :: AV.bool y16 :: AV.bool y17 :: AV.ptr y18 :: AV.ptr (some (y19, (0 : Nat))) :: AV.int IntKind.i64 y20 :: AV.int IntKind.i64 y21 :: AV.int IntKind.i64 y22 :: AV.bool y23 :: AV.bool y24 :: AV.bool y25 :: AV.bool y26 :: AV.bool y27 :: AV.bool y28 :: AV.bool y29 :: AV.bool y30 :: AV.ptr (some (y31, (0 : Nat))) :: AV.str y32 :: AV.ptr (some (y33, (0 : Nat))) :: AV.str y34 :: AV.bool y35 :: AV.bool y36 :: AV.bool y37 :: AV.ptr (some (y38, (2 : Nat))) :: AV.slice y39 y40 y41 (2 : Nat) :: AV.int IntKind.i64 y42 :: AV.ptr (some (y43, (2 : Nat))) :: AV.slice y44 y45 y46 (2 : Nat) :: AV.int IntKind.i64 y47 :: AV.bool y48 :: AV.bool y49 :: AV.bool y50 :: AV.str y51 :: AV.str y52 :: AV.bool y53 :: AV.bool y54 :: AV.bool y55 :: AV.str y56 :: AV.str y57 :: AV.bool y58 :: AV.bool y59 :: AV.bool y60 :: AV.bool y61 :: AV.bool y62 :: AV.bool y63 :: AV.bool y64 :: AV.bool y65 :: AV.tuple [] :: AV.bool y66 :: Env.sp 38 []))))
def f6e39 (y0 : Nat) (y1 : Bool) (y2 : Option (Nat × Nat)) (y3 : ByteArray) (y4 : ByteArray) (y5 : Bool) (y6 : Nat) (y7 : Bool) (y8 : Int) (y9 : Bool) (y10 : Nat) (y11 : Bool) (y12 : ByteArray) (y13 : ByteArray) (y14 : Bool) (y15 : Bool) (y16 : Bool) (y17 : Bool) (y18 : Option (Nat × Nat)) (y19 : Nat) (y20 : Int) (y21 : Int) (y22 : Int) (y23 : Bool) (y24 : Bool) (y25 : Bool) (y26 : Bool) (y27 : Bool) (y28 : Bool) (y29 : Bool) (y30 : Bool) (y31 : Nat) (y32 : ByteArray) (y33 : Nat) (y34 : ByteArray) (y35 : Bool) (y36 : Bool) (y37 : Bool) (y38 : Nat) (y39 : Option (Nat × Nat)) (y40 : Nat) (y41 : Option Nat) (y42 : Int) (y43 : Nat) (y44 : Option (Nat × Nat)) (y45 : Nat) (y46 : Option Nat) (y47 : Int) (y48 : Bool) (y49 : Bool) (y50 : Bool) (y51 : ByteArray) (y52 : ByteArray) (y53 : Bool) (y54 : Bool) (y55 : Bool) (y56 : ByteArray) (y57 : ByteArray) (y58 : Bool) (y59 : Bool) (y60 : Bool) (y61 : Bool) (y62 : Bool) (y63 : Bool) : Env := Env.sp 5 (AV.ptr (some (y0, (0 : Nat))) :: AV.bool y1 :: AV.ptr y2 :: Env.sp 3 (AV.str y3 :: AV.str y4 :: AV.bool y5 :: AV.ptr (some (y6, (0 : Nat))) :: AV.bool y7 :: AV.int IntKind.i64 y8 :: AV.bool y9 :: Env.sp 1 (AV.ptr (some (y10, (0 : Nat))) :: AV.bool y11 :: AV.str y12 :: AV.str y13 :: AV.bool y14 :: Env.sp 106 (AV.bool y15 :: AV.bool y16 :: AV.bool y17 :: AV.ptr y18 :: AV.ptr (some (y19, (0 : Nat))) :: AV.int IntKind.i64 y20 :: AV.int IntKind.i64 y21 :: AV.int IntKind.i64 y22 :: AV.bool y23 :: AV.bool y24 :: AV.bool y25 :: AV.bool y26 :: AV.bool y27 :: AV.bool y28 :: AV.bool y29 :: AV.bool y30 :: AV.ptr (some (y31, (0 : Nat))) :: AV.str y32 :: AV.ptr (some (y33, (0 : Nat))) :: AV.str y34 :: AV.bool y35 :: AV.bool y36 :: AV.bool y37 :: AV.ptr (some (y38, (2 : Nat))) :: AV.slice y39 y40 y41 (2 : Nat) :: AV.int IntKind.i64 y42 :: AV.ptr (some (y43, (2 : Nat))) :: AV.slice y44 y45 y46 (2 : Nat) :: AV.int IntKind.i64 y47 :: AV.bool y48 :: AV.bool y49 :: AV.bool y50 :: AV.str y51 :: AV.str y52 :: AV.bool y53 :: AV.bool y54 :: AV.bool y55 :: AV.str y56 :: AV.str y57 :: AV.bool y58 :: AV.bool y59 :: AV.bool y60 :: AV.tuple [] :: AV.tuple [] :: AV.tuple [] :: AV.bool y61 :: AV.bool y62 :: AV.tuple [] :: AV.bool y63 :: Env.sp 38 []))))
def f6e40 (y0 : Nat) (y1 : Bool) (y2 : Option (Nat × Nat)) (y3 : ByteArray) (y4 : ByteArray) (y5 : Bool) (y6 : Nat) (y7 : Bool) (y8 : Int) (y9 : Bool) (y10 : Nat) (y11 : Bool) (y12 : ByteArray) (y13 : ByteArray) (y14 : Bool) (y15 : Bool) (y16 : Bool) (y17 : Bool) (y18 : Option (Nat × Nat)) (y19 : Nat) (y20 : Int) (y21 : Int) (y22 : Int) (y23 : Bool) (y24 : Bool) (y25 : Bool) (y26 : Bool) (y27 : Bool) (y28 : Bool) (y29 : Bool) (y30 : Bool) (y31 : Nat) (y32 : ByteArray) (y33 : Nat) (y34 : ByteArray) (y35 : Bool) (y36 : Bool) (y37 : Bool) (y38 : Nat) (y39 : Option (Nat × Nat)) (y40 : Nat) (y41 : Option Nat) (y42 : Int) (y43 : Nat) (y44 : Option (Nat × Nat)) (y45 : Nat) (y46 : Option Nat) (y47 : Int) (y48 : Bool) (y49 : Bool) (y50 : Bool) (y51 : ByteArray) (y52 : ByteArray) (y53 : Bool) (y54 : Bool) (y55 : Bool) (y56 : Bool) (y57 : Bool) (y58 : Bool) (y59 : Bool) (y60 : Bool) : Env := Env.sp 5 (AV.ptr (some (y0, (0 : Nat))) :: AV.bool y1 :: AV.ptr y2 :: Env.sp 3 (AV.str y3 :: AV.str y4 :: AV.bool y5 :: AV.ptr (some (y6, (0 : Nat))) :: AV.bool y7 :: AV.int IntKind.i64 y8 :: AV.bool y9 :: Env.sp 1 (AV.ptr (some (y10, (0 : Nat))) :: AV.bool y11 :: AV.str y12 :: AV.str y13 :: AV.bool y14 :: Env.sp 106 (AV.bool y15 :: AV.bool y16 :: AV.bool y17 :: AV.ptr y18 :: AV.ptr (some (y19, (0 : Nat))) :: AV.int IntKind.i64 y20 :: AV.int IntKind.i64 y21 :: AV.int IntKind.i64 y22 :: AV.bool y23 :: AV.bool y24 :: AV.bool y25 :: AV.bool y26 :: AV.bool y27 :: AV.bool y28 :: AV.bool y29 :: AV.bool y30 :: AV.ptr (some (y31, (0 : Nat))) :: AV.str y32 :: AV.ptr (some (y33, (0 : Nat))) :: AV.str y34 :: AV.bool y35 :: AV.bool y36 :: AV.bool y37 :: AV.ptr (some (y38, (2 : Nat))) :: AV.slice y39 y40 y41 (2 : Nat) :: AV.int IntKind.i64 y42 :: AV.ptr (some (y43, (2 : Nat))) :: AV.slice y44 y45 y46 (2 : Nat) :: AV.int IntKind.i64 y47 :: AV.bool y48 :: AV.bool y49 :: AV.bool y50 :: AV.str y51 :: AV.str y52 :: AV.bool y53 :: AV.bool y54 :: AV.bool y55 :: AV.tuple [] :: AV.tuple [] :: AV.tuple [] :: AV.bool y56 :: AV.bool y57 :: AV.tuple [] :: AV.tuple [] :: AV.tuple [] :: AV.bool y58 :: AV.bool y59 :: AV.tuple [] :: AV.bool y60 :: Env.sp 38 []))))
def f6e41 (y0 : Nat) (y1 : Bool) (y2 : Option (Nat × Nat)) (y3 : ByteArray) (y4 : ByteArray) (y5 : Bool) (y6 : Nat) (y7 : Bool) (y8 : Int) (y9 : Bool) (y10 : Nat) (y11 : Bool) (y12 : ByteArray) (y13 : ByteArray) (y14 : Bool) (y15 : Bool) (y16 : Bool) (y17 : Bool) (y18 : Option (Nat × Nat)) (y19 : Nat) (y20 : Int) (y21 : Int) (y22 : Int) (y23 : Bool) (y24 : Bool) (y25 : Bool) (y26 : Bool) (y27 : Bool) (y28 : Bool) (y29 : Bool) (y30 : Bool) (y31 : Nat) (y32 : ByteArray) (y33 : Nat) (y34 : ByteArray) (y35 : Bool) (y36 : Bool) (y37 : Bool) (y38 : Nat) (y39 : Option (Nat × Nat)) (y40 : Nat) (y41 : Option Nat) (y42 : Int) (y43 : Nat) (y44 : Option (Nat × Nat)) (y45 : Nat) (y46 : Option Nat) (y47 : Int) (y48 : Bool) (y49 : Bool) (y50 : Bool) (y51 : Bool) (y52 : Bool) (y53 : Bool) (y54 : Bool) (y55 : Bool) (y56 : Bool) (y57 : Bool) : Env := Env.sp 5 (AV.ptr (some (y0, (0 : Nat))) :: AV.bool y1 :: AV.ptr y2 :: Env.sp 3 (AV.str y3 :: AV.str y4 :: AV.bool y5 :: AV.ptr (some (y6, (0 : Nat))) :: AV.bool y7 :: AV.int IntKind.i64 y8 :: AV.bool y9 :: Env.sp 1 (AV.ptr (some (y10, (0 : Nat))) :: AV.bool y11 :: AV.str y12 :: AV.str y13 :: AV.bool y14 :: Env.sp 106 (AV.bool y15 :: AV.bool y16 :: AV.bool y17 :: AV.ptr y18 :: AV.ptr (some (y19, (0 : Nat))) :: AV.int IntKind.i64 y20 :: AV.int IntKind.i64 y21 :: AV.int IntKind.i64 y22 :: AV.bool y23 :: AV.bool y24 :: AV.bool y25 :: AV.bool y26 :: AV.bool y27 :: AV.bool y28 :: AV.bool y29 :: AV.bool y30 :: AV.ptr (some (y31, (0 : Nat))) :: AV.str y32 :: AV.ptr (some (y33, (0 : Nat))) :: AV.str y34 :: AV.bool y35 :: AV.bool y36 :: AV.bool y37 :: AV.ptr (some (y38, (2 : Nat))) :: AV.slice y39 y40 y41 (2 : Nat) :: AV.int IntKind.i64 y42 :: AV.ptr (some (y43, (2 : Nat))) :: AV.slice y44 y45 y46 (2 : Nat) :: AV.int IntKind.i64 y47 :: AV.bool y48 :: AV.bool y49 :: AV.bool y50 :: AV.tuple [] :: AV.tuple [] :: AV.tuple [] :: AV.bool y51 :: AV.bool y52 :: AV.tuple [] :: AV.tuple [] :: AV.tuple [] :: AV.bool y53 :: AV.bool y54 :: AV.tuple [] :: AV.tuple [] :: AV.tuple [] :: AV.bool y55 :: AV.bool y56 :: AV.tuple [] :: AV.bool y57 :: Env.sp 38 []))))
def f6e42 (y0 : Nat) (y1 : Bool) (y2 : Option (Nat × Nat)) (y3 : ByteArray) (y4 : ByteArray) (y5 : Bool) (y6 : Nat) (y7 : Bool) (y8 : Int) (y9 : Bool) (y10 : Nat) (y11 : Bool) (y12 : ByteArray) (y13 : ByteArray) (y14 : Bool) (y15 : Bool) (y16 : Bool) (y17 : Bool) (y18 : Option (Nat × Nat)) (y19 : Nat) (y20 : Int) (y21 : Int) (y22 : Int) (y23 : Bool) (y24 : Bool) (y25 : Bool) (y26 : Bool) (y27 : Bool) (y28 : Bool) (y29 : Bool) (y30 : Bool) (y31 : Nat) (y32 : ByteArray) (y33 : Nat) (y34 : ByteArray) (y35 : Bool) (y36 : Bool) (y37 : Bool) (y38 : Bool) (y39 : Bool) (y40 : Bool) (y41 : Bool) (y42 : Bool) (y43 : Bool) (y44 : Bool) (y45 : Bool) (y46 : Bool) : Env := Env.sp 5 (AV.ptr (some (y0, (0 : Nat))) :: AV.bool y1 :: AV.ptr y2 :: Env.sp 3 (AV.str y3 :: AV.str y4 :: AV.bool y5 :: AV.ptr (some (y6, (0 : Nat))) :: AV.bool y7 :: AV.int IntKind.i64 y8 :: AV.bool y9 :: Env.sp 1 (AV.ptr (some (y10, (0 : Nat))) :: AV.bool y11 :: AV.str y12 :: AV.str y13 :: AV.bool y14 :: Env.sp 106 (AV.bool y15 :: AV.bool y16 :: AV.bool y17 :: AV.ptr y18 :: AV.ptr (some (y19, (0 : Nat))) :: AV.int IntKind.i64 y20 :: AV.int IntKind.i64 y21 :: AV.int IntKind.i64 y22 :: AV.bool y23 :: AV.bool y24 :: AV.bool y25 :: AV.bool y26 :: AV.bool y27 :: AV.bool y28 :: AV.bool y29 :: AV.bool y30 :: AV.ptr (some (y31, (0 : Nat))) :: AV.str y32 :: AV.ptr (some (y33, (0 : Nat))) :: AV.str y34 :: AV.bool y35 :: AV.bool y36 :: AV.bool y37 :: AV.tuple [] :: AV.tuple [] :: AV.tuple [] :: AV.tuple [] :: AV.tuple [] :: AV.tuple [] :: AV.tuple [] :: AV.bool y38 :: AV.bool y39 :: AV.tuple [] :: AV.tuple [] :: AV.tuple [] :: AV.bool y40 :: AV.bool y41 :: AV.tuple [] :: AV.tuple [] :: AV.tuple [] :: AV.bool y42 :: AV.bool y43 :: AV.tuple [] :: AV.tuple [] :: AV.tuple [] :: AV.bool y44 :: AV.bool y45 :: AV.tuple [] :: AV.bool y46 :: Env.sp 38 []))))
def f6e43 (y0 : Nat) (y1 : Bool) (y2 : Option (Nat × Nat)) (y3 : ByteArray) (y4 : ByteArray) (y5 : Bool) (y6 : Nat) (y7 : Bool) (y8 : Int) (y9 : Bool) (y10 : Nat) (y11 : Bool) (y12 : ByteArray) (y13 : ByteArray) (y14 : Bool) (y15 : Bool) (y16 : Bool) (y17 : Bool) (y18 : Option (Nat × Nat)) (y19 : Nat) (y20 : Int) (y21 : Int) (y22 : Int) (y23 : Bool) (y24 : Bool) (y25 : Bool) (y26 : Bool) (y27 : Bool) (y28 : Bool) (y29 : Bool) (y30 : Bool) (y31 : Bool) (y32 : Bool) (y33 : Bool) (y34 : Bool) (y35 : Bool) (y36 : Bool) (y37 : Bool) (y38 : Bool) (y39 : Bool) (y40 : Bool) (y41 : Bool) : Env := Env.sp 5 (AV.ptr (some (y0, (0 : Nat))) :: AV.bool y1 :: AV.ptr y2 :: Env.sp 3 (AV.str y3 :: AV.str y4 :: AV.bool y5 :: AV.ptr (some (y6, (0 : Nat))) :: AV.bool y7 :: AV.int IntKind.i64 y8 :: AV.bool y9 :: Env.sp 1 (AV.ptr (some (y10, (0 : Nat))) :: AV.bool y11 :: AV.str y12 :: AV.str y13 :: AV.bool y14 :: Env.sp 106 (AV.bool y15 :: AV.bool y16 :: AV.bool y17 :: AV.ptr y18 :: AV.ptr (some (y19, (0 : Nat))) :: AV.int IntKind.i64 y20 :: AV.int IntKind.i64 y21 :: AV.int IntKind.i64 y22 :: AV.bool y23 :: AV.bool y24 :: AV.bool y25 :: AV.bool y26 :: AV.bool y27 :: AV.bool y28 :: AV.bool y29 :: AV.bool y30 :: AV.tuple [] :: AV.tuple [] :: AV.tuple [] :: AV.tuple [] :: AV.tuple [] :: AV.bool y31 :: AV.bool y32 :: AV.tuple [] :: AV.tuple [] :: AV.tuple [] :: AV.tuple [] :: AV.tuple [] :: AV.tuple [] :: AV.tuple [] :: AV.bool y33 :: AV.bool y34 :: AV.tuple [] :: AV.tuple [] :: AV.tuple [] :: AV.bool y35 :: AV.bool y36 :: AV.tuple [] :: AV.tuple [] :: AV.tuple [] :: AV.bool y37 :: AV.bool y38 :: AV.tuple [] :: AV.tuple [] :: AV.tuple [] :: AV.bool y39 :: AV.bool y40 :: AV.tuple [] :: AV.bool y41 :: Env.sp 38 []))))
def f6e44 (y0 : Nat) (y1 : Bool) (y2 : Option (Nat × Nat)) (y3 : ByteArray) (y4 : ByteArray) (y5 : Bool) (y6 : Nat) (y7 : Bool) (y8 : Int) (y9 : Bool) (y10 : Nat) (y11 : Bool) (y12 : ByteArray) (y13 : ByteArray) (y14 : Bool) (y15 : Bool) (y16 : Bool) (y17 : Bool) (y18 : Option (Nat × Nat)) (y19 : Nat) (y20 : Int) (y21 : Int) (y22 : Int) (y23 : Bool) (y24 : Bool) (y25 : Bool) (y26 : Bool) (y27 : Bool) (y28 : Bool) (y29 : Bool) (y30 : Bool) (y31 : Bool) (y32 : Bool) (y33 : Bool) (y34 : Bool) (y35 : Bool) (y36 : Bool) (y37 : Bool) (y38 : Bool) : Env := Env.sp 5 (AV.ptr (some (y0, (0 : Nat))) :: AV.bool y1 :: AV.ptr y2 :: Env.sp 3 (AV.str y3 :: AV.str y4 :: AV.bool y5 :: AV.ptr (some (y6, (0 : Nat))) :: AV.bool y7 :: AV.int IntKind.i64 y8 :: AV.bool y9 :: Env.sp 1 (AV.ptr (some (y10, (0 : Nat))) :: AV.bool y11 :: AV.str y12 :: AV.str y13 :: AV.bool y14 :: Env.sp 106 (AV.bool y15 :: AV.bool y16 :: AV.bool y17 :: AV.ptr y18 :: AV.ptr (some (y19, (0 : Nat))) :: AV.int IntKind.i64 y20 :: AV.int IntKind.i64 y21 :: AV.int IntKind.i64 y22 :: AV.bool y23 :: AV.bool y24 :: AV.bool y25 :: AV.tuple [] :: AV.tuple [] :: AV.tuple [] :: AV.bool y26 :: AV.bool y27 :: AV.tuple [] :: AV.tuple [] :: AV.tuple [] :: AV.tuple [] :: AV.tuple [] :: AV.bool y28 :: AV.bool y29 :: AV.tuple [] :: AV.tuple [] :: AV.tuple [] :: AV.tuple [] :: AV.tuple [] :: AV.tuple [] :: AV.tuple [] :: AV.bool y30 :: AV.bool y31 :: AV.tuple [] :: AV.tuple [] :: AV.tuple [] :: AV.bool y32 :: AV.bool y33 :: AV.tuple [] :: AV.tuple [] :: AV.tuple [] :: AV.bool y34 :: AV.bool y35 :: AV.tuple [] :: AV.tuple [] :: AV.tuple [] :: AV.bool y36 :: AV.bool y37 :: AV.tuple [] :: AV.bool y38 :: Env.sp 38 []))))
def f6e45 (y0 : Nat) (y1 : Bool) (y2 : Option (Nat × Nat)) (y3 : ByteArray) (y4 : ByteArray) (y5 : Bool) (y6 : Nat) (y7 : Bool) (y8 : Int) (y9 : Bool) (y10 : Nat) (y11 : Bool) (y12 : ByteArray) (y13 : ByteArray) (y14 : Bool) (y15 : Bool) (y16 : Bool) (y17 : Bool) (y18 : Bool) (y19 : Bool) (y20 : Bool) (y21 : Bool) (y22 : Bool) (y23 : Bool) (y24 : Bool) (y25 : Bool) (y26 : Bool) (y27 : Bool) (y28 : Bool) (y29 : Bool) (y30 : Bool) (y31 : Bool) (y32 : Bool) : Env := Env.sp 5 (AV.ptr (some (y0, (0 : Nat))) :: AV.bool y1 :: AV.ptr y2 :: Env.sp 3 (AV.str y3 :: AV.str y4 :: AV.bool y5 :: AV.ptr (some (y6, (0 : Nat))) :: AV.bool y7 :: AV.int IntKind.i64 y8 :: AV.bool y9 :: Env.sp 1 (AV.ptr (some (y10, (0 : Nat))) :: AV.bool y11 :: AV.str y12 :: AV.str y13 :: AV.bool y14 :: Env.sp 106 (AV.bool y15 :: AV.bool y16 :: AV.bool y17 :: AV.tuple [] :: AV.tuple [] :: AV.tuple [] :: AV.tuple [] :: AV.tuple [] :: AV.tuple [] :: AV.bool y18 :: AV.bool y19 :: AV.tuple [] :: AV.tuple [] :: AV.tuple [] :: AV.bool y20 :: AV.bool y21 :: AV.tuple [] :: AV.tuple [] :: AV.tuple [] :: AV.tuple [] :: AV.tuple [] :: AV.bool y22 :: AV.bool y23 :: AV.tuple [] :: AV.tuple [] :: AV.tuple [] :: AV.tuple [] :: AV.tuple [] :: AV.tuple [] :: AV.tuple [] :: AV.bool y24 :: AV.bool y25 :: AV.tuple [] :: AV.tuple [] :: AV.tuple [] :: AV.bool y26 :: AV.bool y27 :: AV.tuple [] :: AV.tuple [] :: AV.tuple [] :: AV.bool y28 :: AV.bool y29 :: AV.tuple [] :: AV.tuple [] :: AV.tuple [] :: AV.bool y30 :: AV.bool y31 :: AV.tuple [] :: AV.bool y32 :: Env.sp 38 []))))
def f6e46 (y0 : Nat) (y1 : Option (Nat × Nat)) (y2 : Int) (y3 : Bool) : Env := Env.sp 5 (AV.ptr (some (y0, (0 : Nat))) :: Env.sp 1 (AV.ptr y1 :: Env.sp 8 (AV.int IntKind.i64 y2 :: AV.bool y3 :: Env.sp 199 [])))
def f6e47 (y0 : Nat) (y1 : Option (Nat × Nat)) (y2 : Int) (y3 : Bool) (y4 : ByteArray) (y5 : ByteArray) (y6 : Bool) (y7 : ByteArray) (y8 : ByteArray) (y9 : Bool) (y10 : Option (Nat × Nat)) (y11 : Nat) (y12 : Int) (y13 : Nat) (y14 : Int) (y15 : ByteArray) (y16 : ByteArray) (y17 : Bool) (y18 : ByteArray) (y19 : ByteArray) (y20 : Bool) : Env := Env.sp 5 (AV.ptr (some (y0, (0 : Nat))) :: Env.sp 1 (AV.ptr y1 :: Env.sp 8 (AV.int IntKind.i64 y2 :: AV.bool y3 :: Env.sp 6 (AV.str y4 :: AV.str y5 :: AV.bool y6 :: Env.sp 152 (AV.tuple [AV.str y7, AV.str y8, AV.bool y9] :: AV.ptr y10 :: AV.ptr (some (y11, (0 : Nat))) :: AV.int IntKind.i64 y12 :: AV.ptr (some (y13, (1 : Nat))) :: AV.int IntKind.i64 y14 :: AV.tuple [AV.str y15, AV.str y16, AV.bool y17] :: AV.str y18 :: AV.str y19 :: AV.bool y20 :: Env.sp 28 [])))))
def f6e48 (y0 : Nat) (y1 : Option (Nat × Nat)) (y2 : Int) (y3 : Bool) (y4 : ByteArray) (y5 : ByteArray) (y6 : Bool) : Env := Env.sp 5 (AV.ptr (some (y0, (0 : Nat))) :: Env.sp 1 (AV.ptr y1 :: Env.sp 8 (AV.int IntKind.i64 y2 :: AV.bool y3 :: Env.sp 6 (AV.str y4 :: AV.str y5 :: AV.bool y6 :: Env.sp 190 []))))
def f6e49 (y0 : Nat) (y1 : Bool) (y2 : Option (Nat × Nat)) (y3 : Int) (y4 : Bool) (y5 : ByteArray) (y6 : ByteArray) (y7 : Bool) (y8 : Bool) (y9 : Bool) (y10 : Option (Nat × Nat)) (y11 : Nat) (y12 : Int) (y13 : Int) (y14 : Int) (y15 : Int) (y16 : Bool) (y17 : Bool) (y18 : Bool) (y19 : Bool) (y20 : Bool) (y21 : Bool) (y22 : ByteArray) (y23 : Nat) (y24 : ByteArray) (y25 : Bool) (y26 : Bool) (y27 : Bool) (y28 : ByteArray) (y29 : Nat) (y30 : ByteArray) (y31 : Bool) (y32 : Bool) (y33 : Bool) (y34 : Bool) (y35 : Bool) : Env := Env.sp 5 (AV.ptr (some (y0, (0 : Nat))) :: AV.bool y1 :: AV.ptr y2 :: Env.sp 8 (AV.int IntKind.i64 y3 :: AV.bool y4 :: Env.sp 6 (AV.str y5 :: AV.str y6 :: AV.bool y7 :: Env.sp 162 (AV.bool y8 :: AV.bool y9 :: AV.ptr y10 :: AV.ptr (some (y11, (0 : Nat))) :: AV.int IntKind.i64 y12 :: AV.int IntKind.i64 y13 :: AV.int IntKind.i64 y14 :: AV.int IntKind.i64 y15 :: AV.bool y16 :: AV.bool y17 :: AV.bool y18 :: AV.bool y19 :: AV.bool y20 :: AV.bool y21 :: AV.str y22 :: AV.ptr (some (y23, (2 : Nat))) :: AV.str y24 :: AV.bool y25 :: AV.bool y26 :: AV.bool y27 :: AV.str y28 :: AV.ptr (some (y29, (3 : Nat))) :: AV.str y30 :: AV.bool y31 :: AV.bool y32 :: AV.bool y33 :: AV.bool y34 :: AV.bool y35 :: []))))
def f6e50 (y0 : Nat) (y1 : Bool) (y2 : Option (Nat × Nat)) (y3 : Int) (y4 : Bool) (y5 : ByteArray) (y6 : ByteArray) (y7 : Bool) (y8 : Bool) (y9 : Bool) (y10 : Option (Nat × Nat)) (y11 : Nat) (y12 : Int) (y13 : Int) (y14 : Int) (y15 : Int) (y16 : Bool) (y17 : Bool) (y18 : Bool) (y19 : Bool) (y20 : Bool) (y21 : Bool) (y22 : ByteArray) (y23 : Nat) (y24 : ByteArray) (y25 : Bool) (y26 : Bool) (y27 : Bool) (y28 : ByteArray) (y29 : Nat) (y30 : ByteArray) (y31 : Bool) (y32 : Bool) (y33 : Bool) (y34 : Bool) : Env := Env.sp 5 (AV.ptr (some (y0, (0 : Nat))) :: AV.bool y1 :: AV.ptr y2 :: Env.sp 8 (AV.int IntKind.i64 y3 :: AV.bool y4 :: Env.sp 6 (AV.str y5 :: AV.str y6 :: AV.bool y7 :: Env.sp 162 (AV.bool y8 :: AV.bool y9 :: AV.ptr y10 :: AV.ptr (some (y11, (0 : Nat))) :: AV.int IntKind.i64 y12 :: AV.int IntKind.i64 y13 :: AV.int IntKind.i64 y14 :: AV.int IntKind.i64 y15 :: AV.bool y16 :: AV.bool y17 :: AV.bool y18 :: AV.bool y19 :: AV.bool y20 :: AV.bool y21 :: AV.str y22 :: AV.ptr (some (y23, (2 : Nat))) :: AV.str y24 :: AV.bool y25 :: AV.bool y26 :: AV.bool y27 :: AV.str y28 :: AV.ptr (some (y29, (3 : Nat))) :: AV.str y30 :: AV.bool y31 :: AV.bool y32 :: AV.bool y33 :: AV.tuple [] :: AV.bool y34 :: []))))
def f6e51 (y0 : Nat) (y1 : Bool) (y2 : Option (Nat × Nat)) (y3 : Int) (y4 : Bool) (y5 : ByteArray) (y6 : ByteArray) (y7 : Bool) (y8 : Bool) (y9 : Bool) (y10 : Option (Nat × Nat)) (y11 : Nat) (y12 : Int) (y13 : Int) (y14 : Int) (y15 : Int) (y16 : Bool) (y17 : Bool) (y18 : Bool) (y19 : Bool) (y20 : Bool) (y21 : Bool) (y22 : ByteArray) (y23 : Nat) (y24 : ByteArray) (y25 : Bool) (y26 : Bool) (y27 : Bool) (y28 : Bool) (y29 : Bool) (y30 : Bool) : Env := Env.sp 5 (AV.ptr (some (y0, (0 : Nat))) :: AV.bool y1 :: AV.ptr y2 :: Env.sp 8 (AV.int IntKind.i64 y3 :: AV.bool y4 :: Env.sp 6 (AV.str y5 :: AV.str y6 :: AV.bool y7 :: Env.sp 162 (AV.bool y8 :: AV.bool y9 :: AV.ptr y10 :: AV.ptr (some (y11, (0 : Nat))) :: AV.int IntKind.i64 y12 :: AV.int IntKind.i64 y13 :: AV.int IntKind.i64 y14 :: AV.int IntKind.i64 y15 :: AV.bool y16 :: AV.bool y17 :: AV.bool y18 :: AV.bool y19 :: AV.bool y20 :: AV.bool y21 :: AV.str y22 :: AV.ptr (some (y23, (2 : Nat))) :: AV.str y24 :: AV.bool y25 :: AV.bool y26 :: AV.bool y27 :: AV.tuple [] :: AV.tuple [] :: AV.tuple [] :: AV.tuple [] :: AV.bool y28 :: AV.bool y29 :: AV.tuple [] :: AV.bool y30 :: []))))
def f6e52 (y0 : Nat) (y1 : Bool) (y2 : Option (Nat × Nat)) (y3 : Int) (y4 : Bool) (y5 : ByteArray) (y6 : ByteArray) (y7 : Bool) (y8 : Bool) (y9 : Bool) (y10 : Option (Nat × Nat)) (y11 : Nat) (y12 : Int) (y13 : Int) (y14 : Int) (y15 : Int) (y16 : Bool) (y17 : Bool) (y18 : Bool) (y19 : Bool) (y20 : Bool) (y21 : Bool) (y22 : Bool) (y23 : Bool) (y24 : Bool) (y25 : Bool) (y26 : Bool) : Env := Env.sp 5 (AV.ptr (some (y0, (0 : Nat))) :: AV.bool y1 :: AV.ptr y2 :: Env.sp 8 (AV.int IntKind.i64 y3 :: AV.bool y4 :: Env.sp 6 (AV.str y5 :: AV.str y6 :: AV.bool y7 :: Env.sp 162 (AV.bool y8 :: AV.bool y9 :: AV.ptr y10 :: AV.ptr (some (y11, (0 : Nat))) :: AV.int IntKind.i64 y12 :: AV.int IntKind.i64 y13 :: AV.int IntKind.i64 y14 :: AV.int IntKind.i64 y15 :: AV.bool y16 :: AV.bool y17 :: AV.bool y18 :: AV.bool y19 :: AV.bool y20 :: AV.bool y21 :: AV.tuple [] :: AV.tuple [] :: AV.tuple [] :: AV.tuple [] :: AV.bool y22 :: AV.bool y23 :: AV.tuple [] :: AV.tuple [] :: AV.tuple [] :: AV.tuple [] :: AV.bool y24 :: AV.bool y25 :: AV.tuple [] :: AV.bool y26 :: []))))
def f6e53 (y0 : Nat) (y1 : Bool) (y2 : Option (Nat × Nat)) (y3 : Int) (y4 : Bool) (y5 : ByteArray) (y6 : ByteArray) (y7 : Bool) (y8 : Bool) (y9 : Bool) (y10 : Option (Nat × Nat)) (y11 : Nat) (y12 : Int) (y13 : Int) (y14 : Int) (y15 : Int) (y16 : Bool) (y17 : Bool) (y18 : Bool) (y19 : Bool) (y20 : Bool) (y21 : Bool) (y22 : Bool) (y23 : Bool) (y24 : Bool) (y25 : Bool) : Env := Env.sp 5 (AV.ptr (some (y0, (0 : Nat))) :: AV.bool y1 :: AV.ptr y2 :: Env.sp 8 (AV.int IntKind.i64 y3 :: AV.bool y4 :: Env.sp 6 (AV.str y5 :: AV.str y6 :: AV.bool y7 :: Env.sp 162 (AV.bool y8 :: AV.bool y9 :: AV.ptr y10 :: AV.ptr (some (y11, (0 : Nat))) :: AV.int IntKind.i64 y12 :: AV.int IntKind.i64 y13 :: AV.int IntKind.i64 y14 :: AV.int IntKind.i64 y15 :: AV.bool y16 :: AV.bool y17 :: AV.bool y18 :: AV.tuple [] :: AV.bool y19 :: AV.bool y20 :: AV.tuple [] :: AV.tuple [] :: AV.tuple [] :: AV.tuple [] :: AV.bool y21 :: AV.bool y22 :: AV.tuple [] :: AV.tuple [] :: AV.tuple [] :: AV.tuple [] :: AV.bool y23 :: AV.bool y24 :: AV.tuple [] :: AV.bool y25 :: []))))
def f6e54 (y0 : Nat) (y1 : Bool) (y2 : Option (Nat × Nat)) (y3 : Int) (y4 : Bool) (y5 : ByteArray) (y6 : ByteArray) (y7 : Bool) (y8 : Bool) (y9 : Bool) (y10 : Bool) (y11 : Bool) (y12 : Bool) (y13 : Bool) (y14 : Bool) (y15 : Bool) (y16 : Bool) (y17 : Bool) (y18 : Bool) : Env := Env.sp 5 (AV.ptr (some (y0, (0 : Nat))) :: AV.bool y1 :: AV.ptr y2 :: Env.sp 8 (AV.int IntKind.i64 y3 :: AV.bool y4 :: Env.sp 6 (AV.str y5 :: AV.str y6 :: AV.bool y7 :: Env.sp 162 (AV.bool y8 :: AV.bool y9 :: AV.tuple [] :: AV.tuple [] :: AV.tuple [] :: AV.tuple [] :: AV.tuple [] :: AV.tuple [] :: AV.tuple [] :: AV.bool y10 :: AV.bool y11 :: AV.tuple [] :: AV.bool y12 :: AV.bool y13 :: AV.tuple [] :: AV.tuple [] :: AV.tuple [] :: AV.tuple [] :: AV.bool y14 :: AV.bool y15 :: AV.tuple [] :: AV.tuple [] :: AV.tuple [] :: AV.tuple [] :: AV.bool y16 :: AV.bool y17 :: AV.tuple [] :: AV.bool y18 :: []))))

/- function 6 -/
theorem f6_eq {R : Type} (call : CallF R) (N : Nat) (y0 : Int) (y1 : Int) (y2 : Int) (y3 : Option (Nat × Nat)) (y4 : Nat) (y5 : Option Nat) (y6 : Int) (y7 : Int) (y8 : ByteArray) (y9 : ByteArray) (σ : St) (K : AV → St → Option R) :
    bodyK Try.prog call N ann 6 [AV.agg [AV.int IntKind.i64 y0, AV.int IntKind.i64 y1, AV.int IntKind.i64 y2], AV.slice y3 y4 y5 (4 : Nat),
  AV.agg [AV.int IntKind.i64 y6, AV.int IntKind.i64 y7, AV.str y8, AV.str y9]] σ K = runK Try.prog call N f6c0 f6a0 (bodyC Try.prog f6rs K) (f6e0 y0 y1 y2 y3 y4 y5 y6 y7 y8 y9) σ := bodyK_of (fn := ((Try.prog.funcs[6]?).get rfl)) (by kernel_rfl) (by kernel_rfl) (by kernel_rfl) (by kernel_rfl) (by kernel_rfl) (by kernel_rfl)
theorem f6n0 {R : Type} (call : CallF R) (N : Nat) (J : KF R) (e : Env) (σ : St) : runK Try.prog call N f6c0 f6a0 J e σ = runK Try.prog call N f6c1 f6a1 (seqC (fun K e σ => runK Try.prog call N f6c2 f6a2 K e σ) f6a0 J) e σ := runK_seq' (by kernel_rfl) (by kernel_rfl) (by kernel_rfl)
theorem f6r1_f6e0 {R : Type} (call : CallF R) (N : Nat) (y0 : Int) (y1 : Int) (y2 : Int) (y3 : Option (Nat × Nat)) (y4 : Nat) (y5 : Option Nat) (y6 : Int) (y7 : Int) (y8 : ByteArray) (y9 : ByteArray) (J : KF R) (σ : St) :
    runK Try.prog call N f6c1 f6a1 J (f6e0 y0 y1 y2 y3 y4 y5 y6 y7 y8 y9) σ =
J Ex.normal
  (f6e1 y0 y1 y2 y3 y4 y5 y6 y7 y8 y9 (St.next σ)
    (St.next (St.new σ (Blk.cells [AV.int IntKind.i64 y0, AV.int IntKind.i64 y1, AV.int IntKind.i64 y2] true))) false)
  (St.new (St.new σ (Blk.cells [AV.int IntKind.i64 y0, AV.int IntKind.i64 y1, AV.int IntKind.i64 y2] true))
    (Blk.cells [AV.int IntKind.i64 y6, AV.int IntKind.i64 y7, AV.str y8, AV.str y9] true)) := hide (by kernel_rfl)
theorem f6z0_f6e1 (y0 : Int) (y1 : Int) (y2 : Int) (y3 : Option (Nat × Nat)) (y4 : Nat) (y5 : Option Nat) (y6 : Int) (y7 : Int) (y8 : ByteArray) (y9 : ByteArray) (y10 : Nat) (y11 : Nat) (y12 : Bool) : Ann.clr f6a0 (f6e1 y0 y1 y2 y3 y4 y5 y6 y7 y8 y9 y10 y11 y12) = f6e2 y3 y4 y5 y10 y11 := hide (by kernel_rfl)
theorem f6n2 {R : Type} (call : CallF R) (N : Nat) (J : KF R) (e : Env) (σ : St) : runK Try.prog call N f6c2 f6a2 J e σ = runK Try.prog call N f6c3 f6a3 (seqC (fun K e σ => runK Try.prog call N f6c4 f6a4 K e σ) f6a2 J) e σ := runK_seq' (by kernel_rfl) (by kernel_rfl) (by kernel_rfl)
theorem f6r3_f6e2 {R : Type} (call : CallF R) (N : Nat) (y0 : Option (Nat × Nat)) (y1 : Nat) (y2 : Option Nat) (y3 : Nat) (y4 : Nat) (J : KF R) (σ : St) :
    runK Try.prog call N f6c3 f6a3 J (f6e2 y0 y1 y2 y3 y4) σ =
Option.bind (St.ld σ y3 (0 : Nat)) fun v0 =>
  Option.bind (AV.toInt IntKind.i64 v0) fun v1 =>
    Option.bind (St.ld σ y3 (1 : Nat)) fun v2 =>
      Option.bind (AV.toInt IntKind.i64 v2) fun v3 =>
        Option.bind (St.ld σ y3 (2 : Nat)) fun v4 =>
          Option.bind (AV.toInt IntKind.i64 v4) fun v5 =>
            call (22 : Nat) [AV.int IntKind.i64 v1, AV.int IntKind.i64 v3, AV.int IntKind.i64 v5] σ fun v6 v7 =>
              Option.bind (AV.toTuple v6) fun v8 =>
                if List.length v8 = (2 : Nat) then
                  Option.bind (List.head? v8) fun v9 =>
                    Option.bind (AV.toPtr v9) fun v10 =>
                      Option.bind (List.head? (List.tail v8)) fun v11 =>
                        Option.bind (AV.toInt IntKind.i64 v11) fun v12 =>
                          J Ex.normal (f6e3 y0 y1 y2 y3 y4 v10 v12 v10 v12 y3 v1 y3 v3 y3 v5 v10 v12 v10 v12) v7
                else none := hide (by kernel_rfl)
theorem f6z2_f6e3 (y0 : Option (Nat × Nat)) (y1 : Nat) (y2 : Option Nat) (y3 : Nat) (y4 : Nat) (y5 : Option (Nat × Nat)) (y6 : Int) (y7 : Option (Nat × Nat)) (y8 : Int) (y9 : Nat) (y10 : Int) (y11 : Nat) (y12 : Int) (y13 : Nat) (y14 : Int) (y15 : Option (Nat × Nat)) (y16 : Int) (y17 : Option (Nat × Nat)) (y18 : Int) : Ann.clr f6a2 (f6e3 y0 y1 y2 y3 y4 y5 y6 y7 y8 y9 y10 y11 y12 y13 y14 y15 y16 y17 y18) = f6e4 y0 y1 y2 y4 y5 y6 := hide (by kernel_rfl)
theorem f6n4 {R : Type} (call : CallF R) (N : Nat) (J : KF R) (e : Env) (σ : St) : runK Try.prog call N f6c4 f6a4 J e σ = runK Try.prog call N f6c5 f6a5 (seqC (fun K e σ => runK Try.prog call N f6c6 f6a6 K e σ) f6a4 J) e σ := runK_seq' (by kernel_rfl) (by kernel_rfl) (by kernel_rfl)
theorem f6n5 {R : Type} (call : CallF R) (N : Nat) (J : KF R) (e : Env) (σ : St) : runK Try.prog call N f6c5 f6a5 J e σ = runK Try.prog call N f6c7 f6a7 (seqC (fun K e σ => runK Try.prog call N f6c8 f6a8 K e σ) f6a5 J) e σ := runK_seq' (by kernel_rfl) (by kernel_rfl) (by kernel_rfl)
theorem f6r7_f6e4 {R : Type} (call : CallF R) (N : Nat) (y0 : Option (Nat × Nat)) (y1 : Nat) (y2 : Option Nat) (y3 : Nat) (y4 : Option (Nat × Nat)) (y5 : Int) (J : KF R) (σ : St) :
    runK Try.prog call N f6c7 f6a7 J (f6e4 y0 y1 y2 y3 y4 y5) σ =
if (y5 != (0 : Int)) = true then J Ex.normal (f6e5 y0 y1 y2 y3 y4 y5 y5 (y5 != (0 : Int)) true true true true) σ
else
  if Option.isNone y4 = true then J Ex.normal (f6e6 y0 y1 y2 y3 y4 y5 y5 (y5 != (0 : Int)) false y4 (Option.isNone y4) (Option.isNone y4) true true) σ
  else
    J Ex.normal
      (f6e7 y0 y1 y2 y3 y4 y5 y5 (y5 != (0 : Int)) false y4 (Option.isNone y4) (Option.isNone y4) false y0 y1 y2 (↑y1 : Int)
        (decide ((↑y1 : Int) > (100 : Int))) (decide ((↑y1 : Int) > (100 : Int))))
      σ := hide (by kernel_rfl)
theorem f6z5_f6e5 (y0 : Option (Nat × Nat)) (y1 : Nat) (y2 : Option Nat) (y3 : Nat) (y4 : Option (Nat × Nat)) (y5 : Int) (y6 : Int) (y7 : Bool) (y8 : Bool) (y9 : Bool) (y10 : Bool) (y11 : Bool) : Ann.clr f6a5 (f6e5 y0 y1 y2 y3 y4 y5 y6 y7 y8 y9 y10 y11) = f6e8 y0 y1 y2 y3 y4 y5 y11 := hide (by kernel_rfl)
theorem f6x8_f6e8 {R : Type} (call : CallF R) (N : Nat) (y0 : Option (Nat × Nat)) (y1 : Nat) (y2 : Option Nat) (y3 : Nat) (y4 : Option (Nat × Nat)) (y5 : Int) (y6 : Bool) (J : KF R) (σ : St) : runK Try.prog call N f6c8 f6a8 J (f6e8 y0 y1 y2 y3 y4 y5 y6) σ = if y6 = true then runK Try.prog call N f6c9 f6a9 (condC f6a8 J) (f6e8 y0 y1 y2 y3 y4 y5 y6) σ else runK Try.prog call N f6c10 f6a10 (condC f6a8 J) (f6e8 y0 y1 y2 y3 y4 y5 y6) σ := runK_cond' (o := Operand.tmp (47 : Nat)) (by kernel_rfl) (by kernel_rfl) (by kernel_rfl) (by kernel_rfl)
theorem f6n9 {R : Type} (call : CallF R) (N : Nat) (J : KF R) (e : Env) (σ : St) : runK Try.prog call N f6c9 f6a9 J e σ = runK Try.prog call N f6c11 f6a11 (seqC (fun K e σ => runK Try.prog call N f6c12 f6a12 K e σ) f6a9 J) e σ := runK_seq' (by kernel_rfl) (by kernel_rfl) (by kernel_rfl)
theorem f6r11_f6e8 {R : Type} (call : CallF R) (N : Nat) (y0 : Option (Nat × Nat)) (y1 : Nat) (y2 : Option Nat) (y3 : Nat) (y4 : Option (Nat × Nat)) (y5 : Int) (y6 : Bool) (J : KF R) (σ : St) :
    runK Try.prog call N f6c11 f6a11 J (f6e8 y0 y1 y2 y3 y4 y5 y6) σ =
if (y5 != (0 : Int)) = true then
  call (19 : Nat) [] σ fun v0 v1 =>
    Option.bind (AV.toBool v0) fun v2 => J Ex.normal (f6e9 y0 y1 y2 y3 v2 y4 y5 y6 y5 (y5 != (0 : Int)) true true true v2 v2) v1
else
  if (!Option.isNone y4) = true then
    call (19 : Nat) [] σ fun v0 v1 =>
      Option.bind (AV.toBool v0) fun v2 =>
        J Ex.normal (f6e10 y0 y1 y2 y3 v2 y4 y5 y6 y5 (y5 != (0 : Int)) false y4 (!Option.isNone y4) (!Option.isNone y4) true v2 v2) v1
  else J Ex.normal (f6e11 y0 y1 y2 y3 false y4 y5 y6 y5 (y5 != (0 : Int)) false y4 (!Option.isNone y4) (!Option.isNone y4) false false) σ := hide (by kernel_rfl)
theorem f6z9_f6e9 (y0 : Option (Nat × Nat)) (y1 : Nat) (y2 : Option Nat) (y3 : Nat) (y4 : Bool) (y5 : Option (Nat × Nat)) (y6 : Int) (y7 : Bool) (y8 : Int) (y9 : Bool) (y10 : Bool) (y11 : Bool) (y12 : Bool) (y13 : Bool) (y14 : Bool) : Ann.clr f6a9 (f6e9 y0 y1 y2 y3 y4 y5 y6 y7 y8 y9 y10 y11 y12 y13 y14) = f6e12 y4 := hide (by kernel_rfl)
theorem f6y12_f6e12 {R : Type} (call : CallF R) (N : Nat) (y0 : Bool) (J : KF R) (σ : St) : runK Try.prog call N f6c12 f6a12 J (f6e12 y0) σ = J .ret (f6e12 y0) σ := runK_ret' (by kernel_rfl) (by kernel_rfl)
theorem f6z9_f6e10 (y0 : Option (Nat × Nat)) (y1 : Nat) (y2 : Option Nat) (y3 : Nat) (y4 : Bool) (y5 : Option (Nat × Nat)) (y6 : Int) (y7 : Bool) (y8 : Int) (y9 : Bool) (y10 : Bool) (y11 : Option (Nat × Nat)) (y12 : Bool) (y13 : Bool) (y14 : Bool) (y15 : Bool) (y16 : Bool) : Ann.clr f6a9 (f6e10 y0 y1 y2 y3 y4 y5 y6 y7 y8 y9 y10 y11 y12 y13 y14 y15 y16) = f6e12 y4 := hide (by kernel_rfl)
theorem f6z9_f6e11 (y0 : Option (Nat × Nat)) (y1 : Nat) (y2 : Option Nat) (y3 : Nat) (y4 : Bool) (y5 : Option (Nat × Nat)) (y6 : Int) (y7 : Bool) (y8 : Int) (y9 : Bool) (y10 : Bool) (y11 : Option (Nat × Nat)) (y12 : Bool) (y13 : Bool) (y14 : Bool) (y15 : Bool) : Ann.clr f6a9 (f6e11 y0 y1 y2 y3 y4 y5 y6 y7 y8 y9 y10 y11 y12 y13 y14 y15) = f6e12 y4 := hide (by kernel_rfl)
theorem f6n10 {R : Type} (call : CallF R) (N : Nat) (J : KF R) (e : Env) (σ : St) : runK Try.prog call N f6c10 f6a10 J e σ = J .normal e σ := runK_skip' (by kernel_rfl)
theorem f6z8_f6e8 (y0 : Option (Nat × Nat)) (y1 : Nat) (y2 : Option Nat) (y3 : Nat) (y4 : Option (Nat × Nat)) (y5 : Int) (y6 : Bool) : Ann.clr f6a8 (f6e8 y0 y1 y2 y3 y4 y5 y6) = f6e13 y0 y1 y2 y3 y4 := hide (by kernel_rfl)
theorem f6z5_f6e6 (y0 : Option (Nat × Nat)) (y1 : Nat) (y2 : Option Nat) (y3 : Nat) (y4 : Option (Nat × Nat)) (y5 : Int) (y6 : Int) (y7 : Bool) (y8 : Bool) (y9 : Option (Nat × Nat)) (y10 : Bool) (y11 : Bool) (y12 : Bool) (y13 : Bool) : Ann.clr f6a5 (f6e6 y0 y1 y2 y3 y4 y5 y6 y7 y8 y9 y10 y11 y12 y13) = f6e8 y0 y1 y2 y3 y4 y5 y13 := hide (by kernel_rfl)
theorem f6z5_f6e7 (y0 : Option (Nat × Nat)) (y1 : Nat) (y2 : Option Nat) (y3 : Nat) (y4 : Option (Nat × Nat)) (y5 : Int) (y6 : Int) (y7 : Bool) (y8 : Bool) (y9 : Option (Nat × Nat)) (y10 : Bool) (y11 : Bool) (y12 : Bool) (y13 : Option (Nat × Nat)) (y14 : Nat) (y15 : Option Nat) (y16 : Int) (y17 : Bool) (y18 : Bool) : Ann.clr f6a5 (f6e7 y0 y1 y2 y3 y4 y5 y6 y7 y8 y9 y10 y11 y12 y13 y14 y15 y16 y17 y18) = f6e8 y0 y1 y2 y3 y4 y5 y18 := hide (by kernel_rfl)
theorem f6z4_f6e13 (y0 : Option (Nat × Nat)) (y1 : Nat) (y2 : Option Nat) (y3 : Nat) (y4 : Option (Nat × Nat)) : Ann.clr f6a4 (f6e13 y0 y1 y2 y3 y4) = f6e13 y0 y1 y2 y3 y4 := hide (by kernel_rfl)
theorem f6n6 {R : Type} (call : CallF R) (N : Nat) (J : KF R) (e : Env) (σ : St) : runK Try.prog call N f6c6 f6a6 J e σ = runK Try.prog call N f6c13 f6a13 (seqC (fun K e σ => runK Try.prog call N f6c14 f6a14 K e σ) f6a6 J) e σ := runK_seq' (by kernel_rfl) (by kernel_rfl) (by kernel_rfl)
theorem f6n13 {R : Type} (call : CallF R) (N : Nat) (J : KF R) (e : Env) (σ : St) : runK Try.prog call N f6c13 f6a13 J e σ = runK Try.prog call N f6c15 f6a15 (seqC (fun K e σ => runK Try.prog call N f6c16 f6a16 K e σ) f6a13 J) e σ := runK_seq' (by kernel_rfl) (by kernel_rfl) (by kernel_rfl)
theorem f6r15_f6e13 {R : Type} (call : CallF R) (N : Nat) (y0 : Option (Nat × Nat)) (y1 : Nat) (y2 : Option Nat) (y3 : Nat) (y4 : Option (Nat × Nat)) (J : KF R) (σ : St) :
    runK Try.prog call N f6c15 f6a15 J (f6e13 y0 y1 y2 y3 y4) σ =
J Ex.normal (f6e14 y0 y1 y2 y3 y4 y0 y1 y2 (↑y1 : Int) (0 : Int)) σ := hide (by kernel_rfl)
theorem f6z13_f6e14 (y0 : Option (Nat × Nat)) (y1 : Nat) (y2 : Option Nat) (y3 : Nat) (y4 : Option (Nat × Nat)) (y5 : Option (Nat × Nat)) (y6 : Nat) (y7 : Option Nat) (y8 : Int) (y9 : Int) : Ann.clr f6a13 (f6e14 y0 y1 y2 y3 y4 y5 y6 y7 y8 y9) = f6e15 y3 y4 y5 y6 y7 y8 y9 := hide (by kernel_rfl)
theorem f6n16 {R : Type} (call : CallF R) (N : Nat) (J : KF R) (e : Env) (σ : St) : runK Try.prog call N f6c16 f6a16 J e σ = runK Try.prog call N f6c17 f6a17 (blockC 0 f6a16 J) e σ := runK_block' (by kernel_rfl) (by kernel_rfl)
theorem f6L17_eq {R : Type} (call : CallF R) (N : Nat) (J : KF R) (e : Env) (σ : St) : f6L17 call N J e σ = runK Try.prog call N f6c18 f6a18 J e σ := hide rfl
theorem f6z17_f6e15 (y0 : Nat) (y1 : Option (Nat × Nat)) (y2 : Option (Nat × Nat)) (y3 : Nat) (y4 : Option Nat) (y5 : Int) (y6 : Int) : Ann.clr f6a17 (f6e15 y0 y1 y2 y3 y4 y5 y6) = f6e15 y0 y1 y2 y3 y4 y5 y6 := hide (by kernel_rfl)
theorem f6l17_f6e15 {R : Type} (call : CallF R) (N : Nat) (y0 : Nat) (y1 : Option (Nat × Nat)) (y2 : Option (Nat × Nat)) (y3 : Nat) (y4 : Option Nat) (y5 : Int) (y6 : Int) (J : KF R) (σ : St) : runK Try.prog call N f6c17 f6a17 J (f6e15 y0 y1 y2 y3 y4 y5 y6) σ = loopK (f6L17 call N) f6a17 N J (f6e15 y0 y1 y2 y3 y4 y5 y6) σ := runK_loop' (by kernel_rfl) (by kernel_rfl) (by kernel_rfl)
theorem f6n18 {R : Type} (call : CallF R) (N : Nat) (J : KF R) (e : Env) (σ : St) : runK Try.prog call N f6c18 f6a18 J e σ = runK Try.prog call N f6c19 f6a19 (seqC (fun K e σ => runK Try.prog call N f6c20 f6a20 K e σ) f6a18 J) e σ := runK_seq' (by kernel_rfl) (by kernel_rfl) (by kernel_rfl)
theorem f6r19_f6e15 {R : Type} (call : CallF R) (N : Nat) (y0 : Nat) (y1 : Option (Nat × Nat)) (y2 : Option (Nat × Nat)) (y3 : Nat) (y4 : Option Nat) (y5 : Int) (y6 : Int) (J : KF R) (σ : St) :
    runK Try.prog call N f6c19 f6a19 J (f6e15 y0 y1 y2 y3 y4 y5 y6) σ =
J Ex.normal (f6e16 y0 y1 y2 y3 y4 y5 y6 (decide (y6 < y5))) σ := hide (by kernel_rfl)
theorem f6z18_f6e16 (y0 : Nat) (y1 : Option (Nat × Nat)) (y2 : Option (Nat × Nat)) (y3 : Nat) (y4 : Option Nat) (y5 : Int) (y6 : Int) (y7 : Bool) : Ann.clr f6a18 (f6e16 y0 y1 y2 y3 y4 y5 y6 y7) = f6e16 y0 y1 y2 y3 y4 y5 y6 y7 := hide (by kernel_rfl)
theorem f6n20 {R : Type} (call : CallF R) (N : Nat) (J : KF R) (e : Env) (σ : St) : runK Try.prog call N f6c20 f6a20 J e σ = runK Try.prog call N f6c21 f6a21 (seqC (fun K e σ => runK Try.prog call N f6c22 f6a22 K e σ) f6a20 J) e σ := runK_seq' (by kernel_rfl) (by kernel_rfl) (by kernel_rfl)
theorem f6x21_f6e16 {R : Type} (call : CallF R) (N : Nat) (y0 : Nat) (y1 : Option (Nat × Nat)) (y2 : Option (Nat × Nat)) (y3 : Nat) (y4 : Option Nat) (y5 : Int) (y6 : Int) (y7 : Bool) (J : KF R) (σ : St) : runK Try.prog call N f6c21 f6a21 J (f6e16 y0 y1 y2 y3 y4 y5 y6 y7) σ = if y7 = true then runK Try.prog call N f6c23 f6a23 (condC f6a21 J) (f6e16 y0 y1 y2 y3 y4 y5 y6 y7) σ else runK Try.prog call N f6c24 f6a24 (condC f6a21 J) (f6e16 y0 y1 y2 y3 y4 y5 y6 y7) σ := runK_cond' (o := Operand.tmp (60 : Nat)) (by kernel_rfl) (by kernel_rfl) (by kernel_rfl) (by kernel_rfl)
theorem f6n23 {R : Type} (call : CallF R) (N : Nat) (J : KF R) (e : Env) (σ : St) : runK Try.prog call N f6c23 f6a23 J e σ = J .normal e σ := runK_skip' (by kernel_rfl)
theorem f6z21_f6e16 (y0 : Nat) (y1 : Option (Nat × Nat)) (y2 : Option (Nat × Nat)) (y3 : Nat) (y4 : Option Nat) (y5 : Int) (y6 : Int) (y7 : Bool) : Ann.clr f6a21 (f6e16 y0 y1 y2 y3 y4 y5 y6 y7) = f6e15 y0 y1 y2 y3 y4 y5 y6 := hide (by kernel_rfl)
theorem f6y24_f6e16 {R : Type} (call : CallF R) (N : Nat) (y0 : Nat) (y1 : Option (Nat × Nat)) (y2 : Option (Nat × Nat)) (y3 : Nat) (y4 : Option Nat) (y5 : Int) (y6 : Int) (y7 : Bool) (J : KF R) (σ : St) : runK Try.prog call N f6c24 f6a24 J (f6e16 y0 y1 y2 y3 y4 y5 y6 y7) σ = J (.exit 0) (f6e17 y0 y1) σ := runK_exit' (by kernel_rfl) (by kernel_rfl)
theorem f6z20_f6e15 (y0 : Nat) (y1 : Option (Nat × Nat)) (y2 : Option (Nat × Nat)) (y3 : Nat) (y4 : Option Nat) (y5 : Int) (y6 : Int) : Ann.clr f6a20 (f6e15 y0 y1 y2 y3 y4 y5 y6) = f6e15 y0 y1 y2 y3 y4 y5 y6 := hide (by kernel_rfl)
theorem f6n22 {R : Type} (call : CallF R) (N : Nat) (J : KF R) (e : Env) (σ : St) : runK Try.prog call N f6c22 f6a22 J e σ = runK Try.prog call N f6c25 f6a25 (seqC (fun K e σ => runK Try.prog call N f6c26 f6a26 K e σ) f6a22 J) e σ := runK_seq' (by kernel_rfl) (by kernel_rfl) (by kernel_rfl)
theorem f6n25 {R : Type} (call : CallF R) (N : Nat) (J : KF R) (e : Env) (σ : St) : runK Try.prog call N f6c25 f6a25 J e σ = runK Try.prog call N f6c27 f6a27 (blockC 1 f6a25 J) e σ := runK_block' (by kernel_rfl) (by kernel_rfl)
theorem f6n27 {R : Type} (call : CallF R) (N : Nat) (J : KF R) (e : Env) (σ : St) : runK Try.prog call N f6c27 f6a27 J e σ = runK Try.prog call N f6c28 f6a28 (seqC (fun K e σ => runK Try.prog call N f6c29 f6a29 K e σ) f6a27 J) e σ := runK_seq' (by kernel_rfl) (by kernel_rfl) (by kernel_rfl)
theorem f6r28_f6e15 {R : Type} (call : CallF R) (N : Nat) (y0 : Nat) (y1 : Option (Nat × Nat)) (y2 : Option (Nat × Nat)) (y3 : Nat) (y4 : Option Nat) (y5 : Int) (y6 : Int) (J : KF R) (σ : St) :
    runK Try.prog call N f6c28 f6a28 J (f6e15 y0 y1 y2 y3 y4 y5 y6) σ =
if (0 : Int) ≤ y6 ∧ y6 < (↑y3 : Int) then
  Option.bind y2 fun v0 =>
    Option.bind (St.ld σ (Prod.fst v0) (Prod.snd v0 + Int.toNat y6 * (4 : Nat))) fun v1 =>
      Option.bind (AV.toInt IntKind.i64 v1) fun v2 =>
        Option.bind (St.ld σ (Prod.fst v0) (Prod.snd v0 + Int.toNat y6 * (4 : Nat) + (1 : Nat))) fun v3 =>
          Option.bind (AV.toInt IntKind.i64 v3) fun v4 =>
            Option.bind (St.ld σ (Prod.fst v0) (Prod.snd v0 + Int.toNat y6 * (4 : Nat) + (2 : Nat))) fun v5 =>
              Option.bind (AV.toStr v5) fun v6 =>
                Option.bind (St.ld σ (Prod.fst v0) (Prod.snd v0 + Int.toNat y6 * (4 : Nat) + (3 : Nat))) fun v7 =>
                  Option.bind (AV.toStr v7) fun v8 =>
                    Option.bind
                      (St.st
                        (St.new σ
                          (Blk.cells
                            [AV.int IntKind.i64 (0 : Int), AV.int IntKind.i64 (0 : Int), AV.str (ByteArray.mk #[]), AV.str (ByteArray.mk #[])] true))
                        (St.next σ) (0 : Nat) [AV.int IntKind.i64 v2, AV.int IntKind.i64 v4, AV.str v6, AV.str v8])
                      fun v9 =>
                      J Ex.normal (f6e18 y0 y1 (St.next σ) y2 y3 y4 y5 y6 (some (Prod.fst v0, Prod.snd v0 + Int.toNat y6 * (4 : Nat))) v2 v4 v6 v8) v9
else none := hide (by kernel_rfl)
theorem f6z27_f6e18 (y0 : Nat) (y1 : Option (Nat × Nat)) (y2 : Nat) (y3 : Option (Nat × Nat)) (y4 : Nat) (y5 : Option Nat) (y6 : Int) (y7 : Int) (y8 : Option (Nat × Nat)) (y9 : Int) (y10 : Int) (y11 : ByteArray) (y12 : ByteArray) : Ann.clr f6a27 (f6e18 y0 y1 y2 y3 y4 y5 y6 y7 y8 y9 y10 y11 y12) = f6e19 y0 y1 y2 y3 y4 y5 y6 y7 := hide (by kernel_rfl)
theorem f6r29_f6e19 {R : Type} (call : CallF R) (N : Nat) (y0 : Nat) (y1 : Option (Nat × Nat)) (y2 : Nat) (y3 : Option (Nat × Nat)) (y4 : Nat) (y5 : Option Nat) (y6 : Int) (y7 : Int) (J : KF R) (σ : St) :
    runK Try.prog call N f6c29 f6a29 J (f6e19 y0 y1 y2 y3 y4 y5 y6 y7) σ =
Option.bind (St.ld σ y2 (0 : Nat)) fun v0 =>
  Option.bind (AV.toInt IntKind.i64 v0) fun v1 =>
    Option.bind (St.ld σ y2 (1 : Nat)) fun v2 =>
      Option.bind (AV.toInt IntKind.i64 v2) fun v3 =>
        Option.bind (St.ld σ y2 (2 : Nat)) fun v4 =>
          Option.bind (AV.toStr v4) fun v5 =>
            Option.bind (St.ld σ y2 (3 : Nat)) fun v6 =>
              Option.bind (AV.toStr v6) fun v7 =>
                call (24 : Nat) [AV.ptr y1, AV.int IntKind.i64 v1, AV.int IntKind.i64 v3, AV.str v5, AV.str v7] σ fun v8 v9 =>
                  Option.bind (AV.toTuple v8) fun v10 =>
                    if List.length v10 = (2 : Nat) then
                      Option.bind (List.head? v10) fun v11 =>
                        Option.bind (AV.toBool v11) fun v12 =>
                          Option.bind (List.head? (List.tail v10)) fun v13 =>
                            Option.bind (AV.toInt IntKind.i64 v13) fun v14 =>
                              J Ex.normal (f6e20 y0 y1 y2 y3 y4 y5 y6 y7 y1 y2 v1 y2 v3 y2 v5 y2 v7 v12 v14) v9
                    else none := hide (by kernel_rfl)
theorem f6z25_f6e20 (y0 : Nat) (y1 : Option (Nat × Nat)) (y2 : Nat) (y3 : Option (Nat × Nat)) (y4 : Nat) (y5 : Option Nat) (y6 : Int) (y7 : Int) (y8 : Option (Nat × Nat)) (y9 : Nat) (y10 : Int) (y11 : Nat) (y12 : Int) (y13 : Nat) (y14 : ByteArray) (y15 : Nat) (y16 : ByteArray) (y17 : Bool) (y18 : Int) : Ann.clr f6a25 (f6e20 y0 y1 y2 y3 y4 y5 y6 y7 y8 y9 y10 y11 y12 y13 y14 y15 y16 y17 y18) = f6e15 y0 y1 y3 y4 y5 y6 y7 := hide (by kernel_rfl)
theorem f6z22_f6e15 (y0 : Nat) (y1 : Option (Nat × Nat)) (y2 : Option (Nat × Nat)) (y3 : Nat) (y4 : Option Nat) (y5 : Int) (y6 : Int) : Ann.clr f6a22 (f6e15 y0 y1 y2 y3 y4 y5 y6) = f6e15 y0 y1 y2 y3 y4 y5 y6 := hide (by kernel_rfl)
theorem f6r26_f6e15 {R : Type} (call : CallF R) (N : Nat) (y0 : Nat) (y1 : Option (Nat × Nat)) (y2 : Option (Nat × Nat)) (y3 : Nat) (y4 : Option Nat) (y5 : Int) (y6 : Int) (J : KF R) (σ : St) :
    runK Try.prog call N f6c26 f6a26 J (f6e15 y0 y1 y2 y3 y4 y5 y6) σ =
J Ex.normal (f6e21 y0 y1 y2 y3 y4 y5 (IntKind.wrap IntKind.i64 (y6 + (1 : Int))) (IntKind.wrap IntKind.i64 (y6 + (1 : Int)))) σ := hide (by kernel_rfl)
theorem f6z17_f6e21 (y0 : Nat) (y1 : Option (Nat × Nat)) (y2 : Option (Nat × Nat)) (y3 : Nat) (y4 : Option Nat) (y5 : Int) (y6 : Int) (y7 : Int) : Ann.clr f6a17 (f6e21 y0 y1 y2 y3 y4 y5 y6 y7) = f6e15 y0 y1 y2 y3 y4 y5 y6 := hide (by kernel_rfl)
theorem f6z16_f6e17 (y0 : Nat) (y1 : Option (Nat × Nat)) : Ann.clr f6a16 (f6e17 y0 y1) = f6e17 y0 y1 := hide (by kernel_rfl)
theorem f6z6_f6e17 (y0 : Nat) (y1 : Option (Nat × Nat)) : Ann.clr f6a6 (f6e17 y0 y1) = f6e17 y0 y1 := hide (by kernel_rfl)
theorem f6n14 {R : Type} (call : CallF R) (N : Nat) (J : KF R) (e : Env) (σ : St) : runK Try.prog call N f6c14 f6a14 J e σ = runK Try.prog call N f6c30 f6a30 (seqC (fun K e σ => runK Try.prog call N f6c31 f6a31 K e σ) f6a14 J) e σ := runK_seq' (by kernel_rfl) (by kernel_rfl) (by kernel_rfl)
theorem f6r30_f6e17 {R : Type} (call : CallF R) (N : Nat) (y0 : Nat) (y1 : Option (Nat × Nat)) (J : KF R) (σ : St) :
    runK Try.prog call N f6c30 f6a30 J (f6e17 y0 y1) σ =
Option.bind (St.ld σ y0 (0 : Nat)) fun v0 =>
  Option.bind (AV.toInt IntKind.i64 v0) fun v1 =>
    Option.bind (St.ld σ y0 (1 : Nat)) fun v2 =>
      Option.bind (AV.toInt IntKind.i64 v2) fun v3 =>
        call (29 : Nat) [AV.ptr y1, AV.int IntKind.i64 v1, AV.int IntKind.i64 v3] σ fun v4 v5 =>
          Option.bind (AV.toTuple v4) fun v6 =>
            if List.length v6 = (3 : Nat) then
              Option.bind (List.head? v6) fun v7 =>
                Option.bind (AV.toStr v7) fun v8 =>
                  Option.bind (List.head? (List.tail v6)) fun v9 =>
                    Option.bind (AV.toStr v9) fun v10 =>
                      Option.bind (List.head? (List.tail (List.tail v6))) fun v11 =>
                        Option.bind (AV.toBool v11) fun v12 => J Ex.normal (f6e22 y0 y1 v8 v10 v12 v8 v10 v12 y1 y0 v1 y0 v3 v8 v10 v12 v8 v10 v12) v5
            else none := hide (by kernel_rfl)
theorem f6z14_f6e22 (y0 : Nat) (y1 : Option (Nat × Nat)) (y2 : ByteArray) (y3 : ByteArray) (y4 : Bool) (y5 : ByteArray) (y6 : ByteArray) (y7 : Bool) (y8 : Option (Nat × Nat)) (y9 : Nat) (y10 : Int) (y11 : Nat) (y12 : Int) (y13 : ByteArray) (y14 : ByteArray) (y15 : Bool) (y16 : ByteArray) (y17 : ByteArray) (y18 : Bool) : Ann.clr f6a14 (f6e22 y0 y1 y2 y3 y4 y5 y6 y7 y8 y9 y10 y11 y12 y13 y14 y15 y16 y17 y18) = f6e23 y0 y1 y2 y3 y4 := hide (by kernel_rfl)
theorem f6n31 {R : Type} (call : CallF R) (N : Nat) (J : KF R) (e : Env) (σ : St) : runK Try.prog call N f6c31 f6a31 J e σ = runK Try.prog call N f6c32 f6a32 (seqC (fun K e σ => runK Try.prog call N f6c33 f6a33 K e σ) f6a31 J) e σ := runK_seq' (by kernel_rfl) (by kernel_rfl) (by kernel_rfl)
theorem f6r32_f6e23 {R : Type} (call : CallF R) (N : Nat) (y0 : Nat) (y1 : Option (Nat × Nat)) (y2 : ByteArray) (y3 : ByteArray) (y4 : Bool) (J : KF R) (σ : St) :
    runK Try.prog call N f6c32 f6a32 J (f6e23 y0 y1 y2 y3 y4) σ =
Option.bind (St.ld σ y0 (0 : Nat)) fun v0 =>
  Option.bind (AV.toInt IntKind.i64 v0) fun v1 =>
    call (21 : Nat) [AV.ptr y1, AV.int IntKind.i64 v1] σ fun v2 v3 =>
      Option.bind (AV.toTuple v2) fun v4 =>
        if List.length v4 = (2 : Nat) then
          Option.bind (List.head? v4) fun v5 =>
            Option.bind (AV.toAgg v5) fun v6 =>
              if List.length v6 = (3 : Nat) then
                Option.bind (List.head? v6) fun v7 =>
                  Option.bind (AV.toStr v7) fun v8 =>
                    Option.bind (List.head? (List.tail v6)) fun v9 =>
                      Option.bind (AV.toInt IntKind.i64 v9) fun v10 =>
                        Option.bind (List.head? (List.tail (List.tail v6))) fun v11 =>
                          Option.bind (AV.toSl (2 : Nat) v11) fun v12 =>
                            Option.bind (List.head? (List.tail v4)) fun v13 =>
                              Option.bind (AV.toBool v13) fun v14 =>
                                Option.bind
                                  (St.st
                                    (St.new v3
                                      (Blk.cells
                                        [AV.str (ByteArray.mk #[]), AV.int IntKind.i64 (0 : Int), AV.slice none (0 : Nat) (some (0 : Nat)) (2 : Nat)]
                                        true))
                                    (St.next v3) (0 : Nat)
                                    [AV.str v8, AV.int IntKind.i64 v10, AV.slice (Sl.o v12) (Sl.len v12) (Sl.cap v12) (2 : Nat)])
                                  fun v15 =>
                                  J Ex.normal
                                    (f6e24 y0 y1 y2 y3 y4 (St.next v3) v14 v8 v10 (Sl.o v12) (Sl.len v12) (Sl.cap v12) v14 y1 y0 v1 v8 v10 (Sl.o v12)
                                      (Sl.len v12) (Sl.cap v12) v14 v8 v10 (Sl.o v12) (Sl.len v12) (Sl.cap v12) v14)
                                    v15
              else none
        else none := hide (by kernel_rfl)
theorem f6z31_f6e24 (y0 : Nat) (y1 : Option (Nat × Nat)) (y2 : ByteArray) (y3 : ByteArray) (y4 : Bool) (y5 : Nat) (y6 : Bool) (y7 : ByteArray) (y8 : Int) (y9 : Option (Nat × Nat)) (y10 : Nat) (y11 : Option Nat) (y12 : Bool) (y13 : Option (Nat × Nat)) (y14 : Nat) (y15 : Int) (y16 : ByteArray) (y17 : Int) (y18 : Option (Nat × Nat)) (y19 : Nat) (y20 : Option Nat) (y21 : Bool) (y22 : ByteArray) (y23 : Int) (y24 : Option (Nat × Nat)) (y25 : Nat) (y26 : Option Nat) (y27 : Bool) : Ann.clr f6a31 (f6e24 y0 y1 y2 y3 y4 y5 y6 y7 y8 y9 y10 y11 y12 y13 y14 y15 y16 y17 y18 y19 y20 y21 y22 y23 y24 y25 y26 y27) = f6e25 y0 y1 y2 y3 y4 y5 y6 := hide (by kernel_rfl)
theorem f6n33 {R : Type} (call : CallF R) (N : Nat) (J : KF R) (e : Env) (σ : St) : runK Try.prog call N f6c33 f6a33 J e σ = runK Try.prog call N f6c34 f6a34 (seqC (fun K e σ => runK Try.prog call N f6c35 f6a35 K e σ) f6a33 J) e σ := runK_seq' (by kernel_rfl) (by kernel_rfl) (by kernel_rfl)
theorem f6r34_f6e25 {R : Type} (call : CallF R) (N : Nat) (y0 : Nat) (y1 : Option (Nat × Nat)) (y2 : ByteArray) (y3 : ByteArray) (y4 : Bool) (y5 : Nat) (y6 : Bool) (J : KF R) (σ : St) :
    runK Try.prog call N f6c34 f6a34 J (f6e25 y0 y1 y2 y3 y4 y5 y6) σ =
Option.bind (St.ld σ y0 (0 : Nat)) fun v0 =>
  Option.bind (AV.toInt IntKind.i64 v0) fun v1 =>
    call (31 : Nat) [AV.ptr y1, AV.int IntKind.i64 v1] σ fun v2 v3 =>
      Option.bind (AV.toInt IntKind.i64 v2) fun v4 => J Ex.normal (f6e26 y0 y1 y2 y3 y4 y5 y6 v4 y1 y0 v1 v4) v3 := hide (by kernel_rfl)
theorem f6z33_f6e26 (y0 : Nat) (y1 : Option (Nat × Nat)) (y2 : ByteArray) (y3 : ByteArray) (y4 : Bool) (y5 : Nat) (y6 : Bool) (y7 : Int) (y8 : Option (Nat × Nat)) (y9 : Nat) (y10 : Int) (y11 : Int) : Ann.clr f6a33 (f6e26 y0 y1 y2 y3 y4 y5 y6 y7 y8 y9 y10 y11) = f6e27 y0 y1 y2 y3 y4 y5 y6 y7 := hide (by kernel_rfl)
theorem f6n35 {R : Type} (call : CallF R) (N : Nat) (J : KF R) (e : Env) (σ : St) : runK Try.prog call N f6c35 f6a35 J e σ = runK Try.prog call N f6c36 f6a36 (seqC (fun K e σ => runK Try.prog call N f6c37 f6a37 K e σ) f6a35 J) e σ := runK_seq' (by kernel_rfl) (by kernel_rfl) (by kernel_rfl)
theorem f6r36_f6e27 {R : Type} (call : CallF R) (N : Nat) (y0 : Nat) (y1 : Option (Nat × Nat)) (y2 : ByteArray) (y3 : ByteArray) (y4 : Bool) (y5 : Nat) (y6 : Bool) (y7 : Int) (J : KF R) (σ : St) :
    runK Try.prog call N f6c36 f6a36 J (f6e27 y0 y1 y2 y3 y4 y5 y6 y7) σ =
Option.bind (St.ld σ y0 (0 : Nat)) fun v0 =>
  Option.bind (AV.toInt IntKind.i64 v0) fun v1 =>
    Option.bind (St.ld σ y0 (1 : Nat)) fun v2 =>
      Option.bind (AV.toInt IntKind.i64 v2) fun v3 =>
        Option.bind (St.ld σ y0 (2 : Nat)) fun v4 =>
          Option.bind (AV.toStr v4) fun v5 =>
            Option.bind (St.ld σ y0 (3 : Nat)) fun v6 =>
              Option.bind (AV.toStr v6) fun v7 =>
                call (24 : Nat) [AV.ptr y1, AV.int IntKind.i64 v1, AV.int IntKind.i64 v3, AV.str v5, AV.str v7] σ fun v8 v9 =>
                  Option.bind (AV.toTuple v8) fun v10 =>
                    if List.length v10 = (2 : Nat) then
                      Option.bind (List.head? v10) fun v11 =>
                        Option.bind (AV.toBool v11) fun v12 =>
                          Option.bind (List.head? (List.tail v10)) fun v13 =>
                            Option.bind (AV.toInt IntKind.i64 v13) fun v14 =>
                              J Ex.normal (f6e28 y0 y1 y2 y3 y4 y5 y6 y7 v12 v14 v12 v14 y1 y0 v1 y0 v3 y0 v5 y0 v7 v12 v14 v12 v14) v9
                    else none := hide (by kernel_rfl)
theorem f6z35_f6e28 (y0 : Nat) (y1 : Option (Nat × Nat)) (y2 : ByteArray) (y3 : ByteArray) (y4 : Bool) (y5 : Nat) (y6 : Bool) (y7 : Int) (y8 : Bool) (y9 : Int) (y10 : Bool) (y11 : Int) (y12 : Option (Nat × Nat)) (y13 : Nat) (y14 : Int) (y15 : Nat) (y16 : Int) (y17 : Nat) (y18 : ByteArray) (y19 : Nat) (y20 : ByteArray) (y21 : Bool) (y22 : Int) (y23 : Bool) (y24 : Int) : Ann.clr f6a35 (f6e28 y0 y1 y2 y3 y4 y5 y6 y7 y8 y9 y10 y11 y12 y13 y14 y15 y16 y17 y18 y19 y20 y21 y22 y23 y24) = f6e29 y0 y1 y2 y3 y4 y5 y6 y7 y8 y9 := hide (by kernel_rfl)
theorem f6n37 {R : Type} (call : CallF R) (N : Nat) (J : KF R) (e : Env) (σ : St) : runK Try.prog call N f6c37 f6a37 J e σ = runK Try.prog call N f6c38 f6a38 (seqC (fun K e σ => runK Try.prog call N f6c39 f6a39 K e σ) f6a37 J) e σ := runK_seq' (by kernel_rfl) (by kernel_rfl) (by kernel_rfl)
theorem f6n38 {R : Type} (call : CallF R) (N : Nat) (J : KF R) (e : Env) (σ : St) : runK Try.prog call N f6c38 f6a38 J e σ = runK Try.prog call N f6c40 f6a40 (seqC (fun K e σ => runK Try.prog call N f6c41 f6a41 K e σ) f6a38 J) e σ := runK_seq' (by kernel_rfl) (by kernel_rfl) (by kernel_rfl)
theorem f6r40_f6e29 {R : Type} (call : CallF R) (N : Nat) (y0 : Nat) (y1 : Option (Nat × Nat)) (y2 : ByteArray) (y3 : ByteArray) (y4 : Bool) (y5 : Nat) (y6 : Bool) (y7 : Int) (y8 : Bool) (y9 : Int) (J : KF R) (σ : St) :
    runK Try.prog call N f6c40 f6a40 J (f6e29 y0 y1 y2 y3 y4 y5 y6 y7 y8 y9) σ =
if (y9 != (0 : Int)) = true then J Ex.normal (f6e30 y0 y1 y2 y3 y4 y5 y6 y7 y8 y9 y9 (y9 != (0 : Int)) true true) σ
else J Ex.normal (f6e31 y0 y1 y2 y3 y4 y5 y6 y7 y8 y9 y9 (y9 != (0 : Int)) false y4 y4) σ := hide (by kernel_rfl)
theorem f6z38_f6e30 (y0 : Nat) (y1 : Option (Nat × Nat)) (y2 : ByteArray) (y3 : ByteArray) (y4 : Bool) (y5 : Nat) (y6 : Bool) (y7 : Int) (y8 : Bool) (y9 : Int) (y10 : Int) (y11 : Bool) (y12 : Bool) (y13 : Bool) : Ann.clr f6a38 (f6e30 y0 y1 y2 y3 y4 y5 y6 y7 y8 y9 y10 y11 y12 y13) = f6e32 y0 y1 y2 y3 y4 y5 y6 y7 y8 y13 := hide (by kernel_rfl)
theorem f6x41_f6e32 {R : Type} (call : CallF R) (N : Nat) (y0 : Nat) (y1 : Option (Nat × Nat)) (y2 : ByteArray) (y3 : ByteArray) (y4 : Bool) (y5 : Nat) (y6 : Bool) (y7 : Int) (y8 : Bool) (y9 : Bool) (J : KF R) (σ : St) : runK Try.prog call N f6c41 f6a41 J (f6e32 y0 y1 y2 y3 y4 y5 y6 y7 y8 y9) σ = if y9 = true then runK Try.prog call N f6c42 f6a42 (condC f6a41 J) (f6e32 y0 y1 y2 y3 y4 y5 y6 y7 y8 y9) σ else runK Try.prog call N f6c43 f6a43 (condC f6a41 J) (f6e32 y0 y1 y2 y3 y4 y5 y6 y7 y8 y9) σ := runK_cond' (o := Operand.tmp (112 : Nat)) (by kernel_rfl) (by kernel_rfl) (by kernel_rfl) (by kernel_rfl)
theorem f6n42 {R : Type} (call : CallF R) (N : Nat) (J : KF R) (e : Env) (σ : St) : runK Try.prog call N f6c42 f6a42 J e σ = runK Try.prog call N f6c44 f6a44 (seqC (fun K e σ => runK Try.prog call N f6c45 f6a45 K e σ) f6a42 J) e σ := runK_seq' (by kernel_rfl) (by kernel_rfl) (by kernel_rfl)
theorem f6r44_f6e32 {R : Type} (call : CallF R) (N : Nat) (y0 : Nat) (y1 : Option (Nat × Nat)) (y2 : ByteArray) (y3 : ByteArray) (y4 : Bool) (y5 : Nat) (y6 : Bool) (y7 : Int) (y8 : Bool) (y9 : Bool) (J : KF R) (σ : St) :
    runK Try.prog call N f6c44 f6a44 J (f6e32 y0 y1 y2 y3 y4 y5 y6 y7 y8 y9) σ =
Option.bind (St.ld σ y0 (0 : Nat)) fun v0 =>
  Option.bind (AV.toInt IntKind.i64 v0) fun v1 =>
    call (21 : Nat) [AV.ptr y1, AV.int IntKind.i64 v1] σ fun v2 v3 =>
      Option.bind (AV.toTuple v2) fun v4 =>
        if List.length v4 = (2 : Nat) then
          Option.bind (List.head? v4) fun v5 =>
            Option.bind (AV.toAgg v5) fun v6 =>
              if List.length v6 = (3 : Nat) then
                Option.bind (List.head? v6) fun v7 =>
                  Option.bind (AV.toStr v7) fun v8 =>
                    Option.bind (List.head? (List.tail v6)) fun v9 =>
                      Option.bind (AV.toInt IntKind.i64 v9) fun v10 =>
                        Option.bind (List.head? (List.tail (List.tail v6))) fun v11 =>
                          Option.bind (AV.toSl (2 : Nat) v11) fun v12 =>
                            Option.bind (List.head? (List.tail v4)) fun v13 =>
                              Option.bind (AV.toBool v13) fun v14 =>
                                Option.bind
                                  (St.st
                                    (St.new v3
                                      (Blk.cells
                                        [AV.str (ByteArray.mk #[]), AV.int IntKind.i64 (0 : Int), AV.slice none (0 : Nat) (some (0 : Nat)) (2 : Nat)]
                                        true))
                                    (St.next v3) (0 : Nat)
                                    [AV.str v8, AV.int IntKind.i64 v10, AV.slice (Sl.o v12) (Sl.len v12) (Sl.cap v12) (2 : Nat)])
                                  fun v15 =>
                                  J Ex.normal
                                    (f6e33 y0 y1 y2 y3 y4 y5 y6 y7 y8 (St.next v3) v14 y9 v8 v10 (Sl.o v12) (Sl.len v12) (Sl.cap v12) v14 y1 y0 v1 v8
                                      v10 (Sl.o v12) (Sl.len v12) (Sl.cap v12) v14 v8 v10 (Sl.o v12) (Sl.len v12) (Sl.cap v12) v14)
                                    v15
              else none
        else none := hide (by kernel_rfl)
theorem f6z42_f6e33 (y0 : Nat) (y1 : Option (Nat × Nat)) (y2 : ByteArray) (y3 : ByteArray) (y4 : Bool) (y5 : Nat) (y6 : Bool) (y7 : Int) (y8 : Bool) (y9 : Nat) (y10 : Bool) (y11 : Bool) (y12 : ByteArray) (y13 : Int) (y14 : Option (Nat × Nat)) (y15 : Nat) (y16 : Option Nat) (y17 : Bool) (y18 : Option (Nat × Nat)) (y19 : Nat) (y20 : Int) (y21 : ByteArray) (y22 : Int) (y23 : Option (Nat × Nat)) (y24 : Nat) (y25 : Option Nat) (y26 : Bool) (y27 : ByteArray) (y28 : Int) (y29 : Option (Nat × Nat)) (y30 : Nat) (y31 : Option Nat) (y32 : Bool) : Ann.clr f6a42 (f6e33 y0 y1 y2 y3 y4 y5 y6 y7 y8 y9 y10 y11 y12 y13 y14 y15 y16 y17 y18 y19 y20 y21 y22 y23 y24 y25 y26 y27 y28 y29 y30 y31 y32) = f6e34 y0 y1 y2 y3 y4 y5 y6 y7 y8 y9 y10 := hide (by kernel_rfl)
theorem f6n45 {R : Type} (call : CallF R) (N : Nat) (J : KF R) (e : Env) (σ : St) : runK Try.prog call N f6c45 f6a45 J e σ = runK Try.prog call N f6c46 f6a46 (seqC (fun K e σ => runK Try.prog call N f6c47 f6a47 K e σ) f6a45 J) e σ := runK_seq' (by kernel_rfl) (by kernel_rfl) (by kernel_rfl)
theorem f6r46_f6e34 {R : Type} (call : CallF R) (N : Nat) (y0 : Nat) (y1 : Option (Nat × Nat)) (y2 : ByteArray) (y3 : ByteArray) (y4 : Bool) (y5 : Nat) (y6 : Bool) (y7 : Int) (y8 : Bool) (y9 : Nat) (y10 : Bool) (J : KF R) (σ : St) :
    runK Try.prog call N f6c46 f6a46 J (f6e34 y0 y1 y2 y3 y4 y5 y6 y7 y8 y9 y10) σ =
Option.bind (St.ld σ y0 (0 : Nat)) fun v0 =>
  Option.bind (AV.toInt IntKind.i64 v0) fun v1 =>
    Option.bind (St.ld σ y0 (1 : Nat)) fun v2 =>
      Option.bind (AV.toInt IntKind.i64 v2) fun v3 =>
        call (29 : Nat) [AV.ptr y1, AV.int IntKind.i64 v1, AV.int IntKind.i64 v3] σ fun v4 v5 =>
          Option.bind (AV.toTuple v4) fun v6 =>
            if List.length v6 = (3 : Nat) then
              Option.bind (List.head? v6) fun v7 =>
                Option.bind (AV.toStr v7) fun v8 =>
                  Option.bind (List.head? (List.tail v6)) fun v9 =>
                    Option.bind (AV.toStr v9) fun v10 =>
                      Option.bind (List.head? (List.tail (List.tail v6))) fun v11 =>
                        Option.bind (AV.toBool v11) fun v12 =>
                          J Ex.normal (f6e35 y0 y1 y2 y3 y4 y5 y6 y7 y8 y9 y10 v8 v10 v12 v8 v10 v12 y1 y0 v1 y0 v3 v8 v10 v12 v8 v10 v12) v5
            else none := hide (by kernel_rfl)
theorem f6z45_f6e35 (y0 : Nat) (y1 : Option (Nat × Nat)) (y2 : ByteArray) (y3 : ByteArray) (y4 : Bool) (y5 : Nat) (y6 : Bool) (y7 : Int) (y8 : Bool) (y9 : Nat) (y10 : Bool) (y11 : ByteArray) (y12 : ByteArray) (y13 : Bool) (y14 : ByteArray) (y15 : ByteArray) (y16 : Bool) (y17 : Option (Nat × Nat)) (y18 : Nat) (y19 : Int) (y20 : Nat) (y21 : Int) (y22 : ByteArray) (y23 : ByteArray) (y24 : Bool) (y25 : ByteArray) (y26 : ByteArray) (y27 : Bool) : Ann.clr f6a45 (f6e35 y0 y1 y2 y3 y4 y5 y6 y7 y8 y9 y10 y11 y12 y13 y14 y15 y16 y17 y18 y19 y20 y21 y22 y23 y24 y25 y26 y27) = f6e36 y0 y1 y2 y3 y4 y5 y6 y7 y8 y9 y10 y11 y12 y13 := hide (by kernel_rfl)
theorem f6n47 {R : Type} (call : CallF R) (N : Nat) (J : KF R) (e : Env) (σ : St) : runK Try.prog call N f6c47 f6a47 J e σ = runK Try.prog call N f6c48 f6a48 (seqC (fun K e σ => runK Try.prog call N f6c49 f6a49 K e σ) f6a47 J) e σ := runK_seq' (by kernel_rfl) (by kernel_rfl) (by kernel_rfl)
theorem f6r48_f6e36 {R : Type} (call : CallF R) (N : Nat) (y0 : Nat) (y1 : Option (Nat × Nat)) (y2 : ByteArray) (y3 : ByteArray) (y4 : Bool) (y5 : Nat) (y6 : Bool) (y7 : Int) (y8 : Bool) (y9 : Nat) (y10 : Bool) (y11 : ByteArray) (y12 : ByteArray) (y13 : Bool) (J : KF R) (σ : St) :
    runK Try.prog call N f6c48 f6a48 J (f6e36 y0 y1 y2 y3 y4 y5 y6 y7 y8 y9 y10 y11 y12 y13) σ =
if (!y8) = true then
  Option.bind (St.ld σ y0 (0 : Nat)) fun v0 =>
    Option.bind (AV.toInt IntKind.i64 v0) fun v1 =>
      call (31 : Nat) [AV.ptr y1, AV.int IntKind.i64 v1] σ fun v2 v3 =>
        Option.bind (AV.toInt IntKind.i64 v2) fun v4 =>
          if (v4 == y7) = true then
            if (y6 == y10) = true then
              Option.bind (St.ld v3 y5 (0 : Nat)) fun v5 =>
                Option.bind (AV.toStr v5) fun v6 =>
                  Option.bind (St.ld v3 y9 (0 : Nat)) fun v7 =>
                    Option.bind (AV.toStr v7) fun v8 =>
                      if decide (v6 = v8) = true then
                        Option.bind (St.ld v3 y5 (2 : Nat)) fun v9 =>
                          Option.bind (AV.toSl (2 : Nat) v9) fun v10 =>
                            Option.bind (St.ld v3 y9 (2 : Nat)) fun v11 =>
                              Option.bind (AV.toSl (2 : Nat) v11) fun v12 =>
                                if ((↑(Sl.len v10) : Int) == (↑(Sl.len v12) : Int)) = true then
                                  if decide (y11 = y2) = true then
                                    if decide (y12 = y3) = true then
                                      if (y13 == y4) = true then
                                        call (19 : Nat) [] v3 fun v13 v14 =>
                                          Option.bind (AV.toBool v13) fun v15 =>
                                            J Ex.normal
                                              (f6e37 y0 v15 y1 y2 y3 y4 y5 y6 y7 y8 y9 y10 y11 y12 y13 y8 (!y8) true y1 y0 v1 v4 y7 (v4 == y7)
                                                (v4 == y7) true y6 y10 (y6 == y10) (y6 == y10) true y5 v6 y9 v8 (decide (v6 = v8)) (decide (v6 = v8))
                                                true y5 (Sl.o v10) (Sl.len v10) (Sl.cap v10) (↑(Sl.len v10) : Int) y9 (Sl.o v12) (Sl.len v12)
                                                (Sl.cap v12) (↑(Sl.len v12) : Int) ((↑(Sl.len v10) : Int) == (↑(Sl.len v12) : Int))
                                                ((↑(Sl.len v10) : Int) == (↑(Sl.len v12) : Int)) true y11 y2 (decide (y11 = y2)) (decide (y11 = y2))
                                                true y12 y3 (decide (y12 = y3)) (decide (y12 = y3)) true y13 y4 (y13 == y4) (y13 == y4) true v15 v15)
                                              v14
                                      else
                                        J Ex.normal
                                          (f6e38 y0 false y1 y2 y3 y4 y5 y6 y7 y8 y9 y10 y11 y12 y13 y8 (!y8) true y1 y0 v1 v4 y7 (v4 == y7)
                                            (v4 == y7) true y6 y10 (y6 == y10) (y6 == y10) true y5 v6 y9 v8 (decide (v6 = v8)) (decide (v6 = v8)) true
                                            y5 (Sl.o v10) (Sl.len v10) (Sl.cap v10) (↑(Sl.len v10) : Int) y9 (Sl.o v12) (Sl.len v12) (Sl.cap v12)
                                            (↑(Sl.len v12) : Int) ((↑(Sl.len v10) : Int) == (↑(Sl.len v12) : Int))
                                            ((↑(Sl.len v10) : Int) == (↑(Sl.len v12) : Int)) true y11 y2 (decide (y11 = y2)) (decide (y11 = y2)) true
                                            y12 y3 (decide (y12 = y3)) (decide (y12 = y3)) true y13 y4 (y13 == y4) (y13 == y4) false false)
                                          v3
                                    else
                                      J Ex.normal
                                        (f6e39 y0 false y1 y2 y3 y4 y5 y6 y7 y8 y9 y10 y11 y12 y13 y8 (!y8) true y1 y0 v1 v4 y7 (v4 == y7) (v4 == y7)
                                          true y6 y10 (y6 == y10) (y6 == y10) true y5 v6 y9 v8 (decide (v6 = v8)) (decide (v6 = v8)) true y5
                                          (Sl.o v10) (Sl.len v10) (Sl.cap v10) (↑(Sl.len v10) : Int) y9 (Sl.o v12) (Sl.len v12) (Sl.cap v12)
                                          (↑(Sl.len v12) : Int) ((↑(Sl.len v10) : Int) == (↑(Sl.len v12) : Int))
                                          ((↑(Sl.len v10) : Int) == (↑(Sl.len v12) : Int)) true y11 y2 (decide (y11 = y2)) (decide (y11 = y2)) true
                                          y12 y3 (decide (y12 = y3)) (decide (y12 = y3)) false false false false)
                                        v3
                                  else
                                    J Ex.normal
                                      (f6e40 y0 false y1 y2 y3 y4 y5 y6 y7 y8 y9 y10 y11 y12 y13 y8 (!y8) true y1 y0 v1 v4 y7 (v4 == y7) (v4 == y7)
                                        true y6 y10 (y6 == y10) (y6 == y10) true y5 v6 y9 v8 (decide (v6 = v8)) (decide (v6 = v8)) true y5 (Sl.o v10)
                                        (Sl.len v10) (Sl.cap v10) (↑(Sl.len v10) : Int) y9 (Sl.o v12) (Sl.len v12) (Sl.cap v12) (↑(Sl.len v12) : Int)
                                        ((↑(Sl.len v10) : Int) == (↑(Sl.len v12) : Int)) ((↑(Sl.len v10) : Int) == (↑(Sl.len v12) : Int)) true y11 y2
                                        (decide (y11 = y2)) (decide (y11 = y2)) false false false false false false)
                                      v3
                                else
                                  J Ex.normal
                                    (f6e41 y0 false y1 y2 y3 y4 y5 y6 y7 y8 y9 y10 y11 y12 y13 y8 (!y8) true y1 y0 v1 v4 y7 (v4 == y7) (v4 == y7) true
                                      y6 y10 (y6 == y10) (y6 == y10) true y5 v6 y9 v8 (decide (v6 = v8)) (decide (v6 = v8)) true y5 (Sl.o v10)
                                      (Sl.len v10) (Sl.cap v10) (↑(Sl.len v10) : Int) y9 (Sl.o v12) (Sl.len v12) (Sl.cap v12) (↑(Sl.len v12) : Int)
                                      ((↑(Sl.len v10) : Int) == (↑(Sl.len v12) : Int)) ((↑(Sl.len v10) : Int) == (↑(Sl.len v12) : Int)) false false
                                      false false false false false false)
                                    v3
                      else
                        J Ex.normal
                          (f6e42 y0 false y1 y2 y3 y4 y5 y6 y7 y8 y9 y10 y11 y12 y13 y8 (!y8) true y1 y0 v1 v4 y7 (v4 == y7) (v4 == y7) true y6 y10
                            (y6 == y10) (y6 == y10) true y5 v6 y9 v8 (decide (v6 = v8)) (decide (v6 = v8)) false false false false false false false
                            false false false)
                          v3
            else
              J Ex.normal
                (f6e43 y0 false y1 y2 y3 y4 y5 y6 y7 y8 y9 y10 y11 y12 y13 y8 (!y8) true y1 y0 v1 v4 y7 (v4 == y7) (v4 == y7) true y6 y10 (y6 == y10)
                  (y6 == y10) false false false false false false false false false false false false)
                v3
          else
            J Ex.normal
              (f6e44 y0 false y1 y2 y3 y4 y5 y6 y7 y8 y9 y10 y11 y12 y13 y8 (!y8) true y1 y0 v1 v4 y7 (v4 == y7) (v4 == y7) false false false false
                false false false false false false false false false false)
              v3
else
  J Ex.normal
    (f6e45 y0 false y1 y2 y3 y4 y5 y6 y7 y8 y9 y10 y11 y12 y13 y8 (!y8) false false false false false false false false false false false false false
      false false false)
    σ := hide (by kernel_rfl)
theorem f6z47_f6e37 (y0 : Nat) (y1 : Bool) (y2 : Option (Nat × Nat)) (y3 : ByteArray) (y4 : ByteArray) (y5 : Bool) (y6 : Nat) (y7 : Bool) (y8 : Int) (y9 : Bool) (y10 : Nat) (y11 : Bool) (y12 : ByteArray) (y13 : ByteArray) (y14 : Bool) (y15 : Bool) (y16 : Bool) (y17 : Bool) (y18 : Option (Nat × Nat)) (y19 : Nat) (y20 : Int) (y21 : Int) (y22 : Int) (y23 : Bool) (y24 : Bool) (y25 : Bool) (y26 : Bool) (y27 : Bool) (y28 : Bool) (y29 : Bool) (y30 : Bool) (y31 : Nat) (y32 : ByteArray) (y33 : Nat) (y34 : ByteArray) (y35 : Bool) (y36 : Bool) (y37 : Bool) (y38 : Nat) (y39 : Option (Nat × Nat)) (y40 : Nat) (y41 : Option Nat) (y42 : Int) (y43 : Nat) (y44 : Option (Nat × Nat)) (y45 : Nat) (y46 : Option Nat) (y47 : Int) (y48 : Bool) (y49 : Bool) (y50 : Bool) (y51 : ByteArray) (y52 : ByteArray) (y53 : Bool) (y54 : Bool) (y55 : Bool) (y56 : ByteArray) (y57 : ByteArray) (y58 : Bool) (y59 : Bool) (y60 : Bool) (y61 : Bool) (y62 : Bool) (y63 : Bool) (y64 : Bool) (y65 : Bool) (y66 : Bool) (y67 : Bool) : Ann.clr f6a47 (f6e37 y0 y1 y2 y3 y4 y5 y6 y7 y8 y9 y10 y11 y12 y13 y14 y15 y16 y17 y18 y19 y20 y21 y22 y23 y24 y25 y26 y27 y28 y29 y30 y31 y32 y33 y34 y35 y36 y37
  y38 y39 y40 y41 y42 y43 y44 y45 y46 y47 y48 y49 y50 y51 y52 y53 y54 y55 y56 y57 y58 y59 y60 y61 y62 y63 y64 y65 y66 y67) = f6e12 y1 := hide (by kernel_rfl)
theorem f6y49_f6e12 {R : Type} (call : CallF R) (N : Nat) (y0 : Bool) (J : KF R) (σ : St) : runK Try.prog call N f6c49 f6a49 J (f6e12 y0) σ = J .ret (f6e12 y0) σ := runK_ret' (by kernel_rfl) (by kernel_rfl)
theorem f6z47_f6e38 (y0 : Nat) (y1 : Bool) (y2 : Option (Nat × Nat)) (y3 : ByteArray) (y4 : ByteArray) (y5 : Bool) (y6 : Nat) (y7 : Bool) (y8 : Int) (y9 : Bool) (y10 : Nat) (y11 : Bool) (y12 : ByteArray) (y13 : ByteArray) (y14 : Bool) (y15 : Bool) (y16 : Bool) (y17 : Bool) (y18 : Option (Nat × Nat)) (y19 : Nat) (y20 : Int) (y21 : Int) (y22 : Int) (y23 : Bool) (y24 : Bool) (y25 : Bool) (y26 : Bool) (y27 : Bool) (y28 : Bool) (y29 : Bool) (y30 : Bool) (y31 : Nat) (y32 : ByteArray) (y33 : Nat) (y34 : ByteArray) (y35 : Bool) (y36 : Bool) (y37 : Bool) (y38 : Nat) (y39 : Option (Nat × Nat)) (y40 : Nat) (y41 : Option Nat) (y42 : Int) (y43 : Nat) (y44 : Option (Nat × Nat)) (y45 : Nat) (y46 : Option Nat) (y47 : Int) (y48 : Bool) (y49 : Bool) (y50 : Bool) (y51 : ByteArray) (y52 : ByteArray) (y53 : Bool) (y54 : Bool) (y55 : Bool) (y56 : ByteArray) (y57 : ByteArray) (y58 : Bool) (y59 : Bool) (y60 : Bool) (y61 : Bool) (y62 : Bool) (y63 : Bool) (y64 : Bool) (y65 : Bool) (y66 : Bool) : Ann.clr f6a47 (f6e38 y0 y1 y2 y3 y4 y5 y6 y7 y8 y9 y10 y11 y12 y13 y14 y15 y16 y17 y18 y19 y20 y21 y22 y23 y24 y25 y26 y27 y28 y29 y30 y31 y32 y33 y34 y35 y36 y37
  y38 y39 y40 y41 y42 y43 y44 y45 y46 y47 y48 y49 y50 y51 y52 y53 y54 y55 y56 y57 y58 y59 y60 y61 y62 y63 y64 y65 y66) = f6e12 y1 := hide (by kernel_rfl)
theorem f6z47_f6e39 (y0 : Nat) (y1 : Bool) (y2 : Option (Nat × Nat)) (y3 : ByteArray) (y4 : ByteArray) (y5 : Bool) (y6 : Nat) (y7 : Bool) (y8 : Int) (y9 : Bool) (y10 : Nat) (y11 : Bool) (y12 : ByteArray) (y13 : ByteArray) (y14 : Bool) (y15 : Bool) (y16 : Bool) (y17 : Bool) (y18 : Option (Nat × Nat)) (y19 : Nat) (y20 : Int) (y21 : Int) (y22 : Int) (y23 : Bool) (y24 : Bool) (y25 : Bool) (y26 : Bool) (y27 : Bool) (y28 : Bool) (y29 : Bool) (y30 : Bool) (y31 : Nat) (y32 : ByteArray) (y33 : Nat) (y34 : ByteArray) (y35 : Bool) (y36 : Bool) (y37 : Bool) (y38 : Nat) (y39 : Option (Nat × Nat)) (y40 : Nat) (y41 : Option Nat) (y42 : Int) (y43 : Nat) (y44 : Option (Nat × Nat)) (y45 : Nat) (y46 : Option Nat) (y47 : Int) (y48 : Bool) (y49 : Bool) (y50 : Bool) (y51 : ByteArray) (y52 : ByteArray) (y53 : Bool) (y54 : Bool) (y55 : Bool) (y56 : ByteArray) (y57 : ByteArray) (y58 : Bool) (y59 : Bool) (y60 : Bool) (y61 : Bool) (y62 : Bool) (y63 : Bool) : Ann.clr f6a47 (f6e39 y0 y1 y2 y3 y4 y5 y6 y7 y8 y9 y10 y11 y12 y13 y14 y15 y16 y17 y18 y19 y20 y21 y22 y23 y24 y25 y26 y27 y28 y29 y30 y31 y32 y33 y34 y35 y36 y37
  y38 y39 y40 y41 y42 y43 y44 y45 y46 y47 y48 y49 y50 y51 y52 y53 y54 y55 y56 y57 y58 y59 y60 y61 y62 y63) = f6e12 y1 := hide (by kernel_rfl)
theorem f6z47_f6e40 (y0 : Nat) (y1 : Bool) (y2 : Option (Nat × Nat)) (y3 : ByteArray) (y4 : ByteArray) (y5 : Bool) (y6 : Nat) (y7 : Bool) (y8 : Int) (y9 : Bool) (y10 : Nat) (y11 : Bool) (y12 : ByteArray) (y13 : ByteArray) (y14 : Bool) (y15 : Bool) (y16 : Bool) (y17 : Bool) (y18 : Option (Nat × Nat)) (y19 : Nat) (y20 : Int) (y21 : Int) (y22 : Int) (y23 : Bool) (y24 : Bool) (y25 : Bool) (y26 : Bool) (y27 : Bool) (y28 : Bool) (y29 : Bool) (y30 : Bool) (y31 : Nat) (y32 : ByteArray) (y33 : Nat) (y34 : ByteArray) (y35 : Bool) (y36 : Bool) (y37 : Bool) (y38 : Nat) (y39 : Option (Nat × Nat)) (y40 : Nat) (y41 : Option Nat) (y42 : Int) (y43 : Nat) (y44 : Option (Nat × Nat)) (y45 : Nat) (y46 : Option Nat) (y47 : Int) (y48 : Bool) (y49 : Bool) (y50 : Bool) (y51 : ByteArray) (y52 : ByteArray) (y53 : Bool) (y54 : Bool) (y55 : Bool) (y56 : Bool) (y57 : Bool) (y58 : Bool) (y59 : Bool) (y60 : Bool) : Ann.clr f6a47 (f6e40 y0 y1 y2 y3 y4 y5 y6 y7 y8 y9 y10 y11 y12 y13 y14 y15 y16 y17 y18 y19 y20 y21 y22 y23 y24 y25 y26 y27 y28 y29 y30 y31 y32 y33 y34 y35 y36 y37
  y38 y39 y40 y41 y42 y43 y44 y45 y46 y47 y48 y49 y50 y51 y52 y53 y54 y55 y56 y57 y58 y59 y60) = f6e12 y1 := hide (by kernel_rfl)
theorem f6z47_f6e41 (y0 : Nat) (y1 : Bool) (y2 : Option (Nat × Nat)) (y3 : ByteArray) (y4 : ByteArray) (y5 : Bool) (y6 : Nat) (y7 : Bool) (y8 : Int) (y9 : Bool) (y10 : Nat) (y11 : Bool) (y12 : ByteArray) (y13 : ByteArray) (y14 : Bool) (y15 : Bool) (y16 : Bool) (y17 : Bool) (y18 : Option (Nat × Nat)) (y19 : Nat) (y20 : Int) (y21 : Int) (y22 : Int) (y23 : Bool) (y24 : Bool) (y25 : Bool) (y26 : Bool) (y27 : Bool) (y28 : Bool) (y29 : Bool) (y30 : Bool) (y31 : Nat) (y32 : ByteArray) (y33 : Nat) (y34 : ByteArray) (y35 : Bool) (y36 : Bool) (y37 : Bool) (y38 : Nat) (y39 : Option (Nat × Nat)) (y40 : Nat) (y41 : Option Nat) (y42 : Int) (y43 : Nat) (y44 : Option (Nat × Nat)) (y45 : Nat) (y46 : Option Nat) (y47 : Int) (y48 : Bool) (y49 : Bool) (y50 : Bool) (y51 : Bool) (y52 : Bool) (y53 : Bool) (y54 : Bool) (y55 : Bool) (y56 : Bool) (y57 : Bool) : Ann.clr f6a47 (f6e41 y0 y1 y2 y3 y4 y5 y6 y7 y8 y9 y10 y11 y12 y13 y14 y15 y16 y17 y18 y19 y20 y21 y22 y23 y24 y25 y26 y27 y28 y29 y30 y31 y32 y33 y34 y35 y36 y37
  y38 y39 y40 y41 y42 y43 y44 y45 y46 y47 y48 y49 y50 y51 y52 y53 y54 y55 y56 y57) = f6e12 y1 := hide (by kernel_rfl)
theorem f6z47_f6e42 (y0 : Nat) (y1 : Bool) (y2 : Option (Nat × Nat)) (y3 : ByteArray) (y4 : ByteArray) (y5 : Bool) (y6 : Nat) (y7 : Bool) (y8 : Int) (y9 : Bool) (y10 : Nat) (y11 : Bool) (y12 : ByteArray) (y13 : ByteArray) (y14 : Bool) (y15 : Bool) (y16 : Bool) (y17 : Bool) (y18 : Option (Nat × Nat)) (y19 : Nat) (y20 : Int) (y21 : Int) (y22 : Int) (y23 : Bool) (y24 : Bool) (y25 : Bool) (y26 : Bool) (y27 : Bool) (y28 : Bool) (y29 : Bool) (y30 : Bool) (y31 : Nat) (y32 : ByteArray) (y33 : Nat) (y34 : ByteArray) (y35 : Bool) (y36 : Bool) (y37 : Bool) (y38 : Bool) (y39 : Bool) (y40 : Bool) (y41 : Bool) (y42 : Bool) (y43 : Bool) (y44 : Bool) (y45 : Bool) (y46 : Bool) : Ann.clr f6a47 (f6e42 y0 y1 y2 y3 y4 y5 y6 y7 y8 y9 y10 y11 y12 y13 y14 y15 y16 y17 y18 y19 y20 y21 y22 y23 y24 y25 y26 y27 y28 y29 y30 y31 y32 y33 y34 y35 y36 y37
  y38 y39 y40 y41 y42 y43 y44 y45 y46) = f6e12 y1 := hide (by kernel_rfl)
theorem f6z47_f6e43 (y0 : Nat) (y1 : Bool) (y2 : Option (Nat × Nat)) (y3 : ByteArray) (y4 : ByteArray) (y5 : Bool) (y6 : Nat) (y7 : Bool) (y8 : Int) (y9 : Bool) (y10 : Nat) (y11 : Bool) (y12 : ByteArray) (y13 : ByteArray) (y14 : Bool) (y15 : Bool) (y16 : Bool) (y17 : Bool) (y18 : Option (Nat × Nat)) (y19 : Nat) (y20 : Int) (y21 : Int) (y22 : Int) (y23 : Bool) (y24 : Bool) (y25 : Bool) (y26 : Bool) (y27 : Bool) (y28 : Bool) (y29 : Bool) (y30 : Bool) (y31 : Bool) (y32 : Bool) (y33 : Bool) (y34 : Bool) (y35 : Bool) (y36 : Bool) (y37 : Bool) (y38 : Bool) (y39 : Bool) (y40 : Bool) (y41 : Bool) : Ann.clr f6a47 (f6e43 y0 y1 y2 y3 y4 y5 y6 y7 y8 y9 y10 y11 y12 y13 y14 y15 y16 y17 y18 y19 y20 y21 y22 y23 y24 y25 y26 y27 y28 y29 y30 y31 y32 y33 y34 y35 y36 y37
  y38 y39 y40 y41) = f6e12 y1 := hide (by kernel_rfl)
theorem f6z47_f6e44 (y0 : Nat) (y1 : Bool) (y2 : Option (Nat × Nat)) (y3 : ByteArray) (y4 : ByteArray) (y5 : Bool) (y6 : Nat) (y7 : Bool) (y8 : Int) (y9 : Bool) (y10 : Nat) (y11 : Bool) (y12 : ByteArray) (y13 : ByteArray) (y14 : Bool) (y15 : Bool) (y16 : Bool) (y17 : Bool) (y18 : Option (Nat × Nat)) (y19 : Nat) (y20 : Int) (y21 : Int) (y22 : Int) (y23 : Bool) (y24 : Bool) (y25 : Bool) (y26 : Bool) (y27 : Bool) (y28 : Bool) (y29 : Bool) (y30 : Bool) (y31 : Bool) (y32 : Bool) (y33 : Bool) (y34 : Bool) (y35 : Bool) (y36 : Bool) (y37 : Bool) (y38 : Bool) : Ann.clr f6a47 (f6e44 y0 y1 y2 y3 y4 y5 y6 y7 y8 y9 y10 y11 y12 y13 y14 y15 y16 y17 y18 y19 y20 y21 y22 y23 y24 y25 y26 y27 y28 y29 y30 y31 y32 y33 y34 y35 y36 y37
  y38) = f6e12 y1 := hide (by kernel_rfl)
theorem f6z47_f6e45 (y0 : Nat) (y1 : Bool) (y2 : Option (Nat × Nat)) (y3 : ByteArray) (y4 : ByteArray) (y5 : Bool) (y6 : Nat) (y7 : Bool) (y8 : Int) (y9 : Bool) (y10 : Nat) (y11 : Bool) (y12 : ByteArray) (y13 : ByteArray) (y14 : Bool) (y15 : Bool) (y16 : Bool) (y17 : Bool) (y18 : Bool) (y19 : Bool) (y20 : Bool) (y21 : Bool) (y22 : Bool) (y23 : Bool) (y24 : Bool) (y25 : Bool) (y26 : Bool) (y27 : Bool) (y28 : Bool) (y29 : Bool) (y30 : Bool) (y31 : Bool) (y32 : Bool) : Ann.clr f6a47 (f6e45 y0 y1 y2 y3 y4 y5 y6 y7 y8 y9 y10 y11 y12 y13 y14 y15 y16 y17 y18 y19 y20 y21 y22 y23 y24 y25 y26 y27 y28 y29 y30 y31 y32) = f6e12 y1 := hide (by kernel_rfl)
theorem f6n43 {R : Type} (call : CallF R) (N : Nat) (J : KF R) (e : Env) (σ : St) : runK Try.prog call N f6c43 f6a43 J e σ = J .normal e σ := runK_skip' (by kernel_rfl)
theorem f6z41_f6e32 (y0 : Nat) (y1 : Option (Nat × Nat)) (y2 : ByteArray) (y3 : ByteArray) (y4 : Bool) (y5 : Nat) (y6 : Bool) (y7 : Int) (y8 : Bool) (y9 : Bool) : Ann.clr f6a41 (f6e32 y0 y1 y2 y3 y4 y5 y6 y7 y8 y9) = f6e46 y0 y1 y7 y8 := hide (by kernel_rfl)
theorem f6z38_f6e31 (y0 : Nat) (y1 : Option (Nat × Nat)) (y2 : ByteArray) (y3 : ByteArray) (y4 : Bool) (y5 : Nat) (y6 : Bool) (y7 : Int) (y8 : Bool) (y9 : Int) (y10 : Int) (y11 : Bool) (y12 : Bool) (y13 : Bool) (y14 : Bool) : Ann.clr f6a38 (f6e31 y0 y1 y2 y3 y4 y5 y6 y7 y8 y9 y10 y11 y12 y13 y14) = f6e32 y0 y1 y2 y3 y4 y5 y6 y7 y8 y14 := hide (by kernel_rfl)
theorem f6z37_f6e46 (y0 : Nat) (y1 : Option (Nat × Nat)) (y2 : Int) (y3 : Bool) : Ann.clr f6a37 (f6e46 y0 y1 y2 y3) = f6e46 y0 y1 y2 y3 := hide (by kernel_rfl)
theorem f6n39 {R : Type} (call : CallF R) (N : Nat) (J : KF R) (e : Env) (σ : St) : runK Try.prog call N f6c39 f6a39 J e σ = runK Try.prog call N f6c50 f6a50 (seqC (fun K e σ => runK Try.prog call N f6c51 f6a51 K e σ) f6a39 J) e σ := runK_seq' (by kernel_rfl) (by kernel_rfl) (by kernel_rfl)
theorem f6r50_f6e46 {R : Type} (call : CallF R) (N : Nat) (y0 : Nat) (y1 : Option (Nat × Nat)) (y2 : Int) (y3 : Bool) (J : KF R) (σ : St) :
    runK Try.prog call N f6c50 f6a50 J (f6e46 y0 y1 y2 y3) σ =
Option.bind (St.ld σ y0 (0 : Nat)) fun v0 =>
  Option.bind (AV.toInt IntKind.i64 v0) fun v1 =>
    Option.bind (St.ld σ y0 (1 : Nat)) fun v2 =>
      Option.bind (AV.toInt IntKind.i64 v2) fun v3 =>
        call (29 : Nat) [AV.ptr y1, AV.int IntKind.i64 v1, AV.int IntKind.i64 v3] σ fun v4 v5 =>
          Option.bind (AV.toTuple v4) fun v6 =>
            if List.length v6 = (3 : Nat) then
              Option.bind (List.head? v6) fun v7 =>
                Option.bind (AV.toStr v7) fun v8 =>
                  Option.bind (List.head? (List.tail v6)) fun v9 =>
                    Option.bind (AV.toStr v9) fun v10 =>
                      Option.bind (List.head? (List.tail (List.tail v6))) fun v11 =>
                        Option.bind (AV.toBool v11) fun v12 =>
                          J Ex.normal (f6e47 y0 y1 y2 y3 v8 v10 v12 v8 v10 v12 y1 y0 v1 y0 v3 v8 v10 v12 v8 v10 v12) v5
            else none := hide (by kernel_rfl)
theorem f6z39_f6e47 (y0 : Nat) (y1 : Option (Nat × Nat)) (y2 : Int) (y3 : Bool) (y4 : ByteArray) (y5 : ByteArray) (y6 : Bool) (y7 : ByteArray) (y8 : ByteArray) (y9 : Bool) (y10 : Option (Nat × Nat)) (y11 : Nat) (y12 : Int) (y13 : Nat) (y14 : Int) (y15 : ByteArray) (y16 : ByteArray) (y17 : Bool) (y18 : ByteArray) (y19 : ByteArray) (y20 : Bool) : Ann.clr f6a39 (f6e47 y0 y1 y2 y3 y4 y5 y6 y7 y8 y9 y10 y11 y12 y13 y14 y15 y16 y17 y18 y19 y20) = f6e48 y0 y1 y2 y3 y4 y5 y6 := hide (by kernel_rfl)
theorem f6n51 {R : Type} (call : CallF R) (N : Nat) (J : KF R) (e : Env) (σ : St) : runK Try.prog call N f6c51 f6a51 J e σ = runK Try.prog call N f6c52 f6a52 (seqC (fun K e σ => runK Try.prog call N f6c53 f6a53 K e σ) f6a51 J) e σ := runK_seq' (by kernel_rfl) (by kernel_rfl) (by kernel_rfl)
theorem f6r52_f6e48 {R : Type} (call : CallF R) (N : Nat) (y0 : Nat) (y1 : Option (Nat × Nat)) (y2 : Int) (y3 : Bool) (y4 : ByteArray) (y5 : ByteArray) (y6 : Bool) (J : KF R) (σ : St) :
    runK Try.prog call N f6c52 f6a52 J (f6e48 y0 y1 y2 y3 y4 y5 y6) σ =
if y3 = true then
  Option.bind (St.ld σ y0 (0 : Nat)) fun v0 =>
    Option.bind (AV.toInt IntKind.i64 v0) fun v1 =>
      call (31 : Nat) [AV.ptr y1, AV.int IntKind.i64 v1] σ fun v2 v3 =>
        Option.bind (AV.toInt IntKind.i64 v2) fun v4 =>
          if (v4 == IntKind.wrap IntKind.i64 (y2 + (1 : Int))) = true then
            if y6 = true then
              Option.bind (St.ld v3 y0 (2 : Nat)) fun v5 =>
                Option.bind (AV.toStr v5) fun v6 =>
                  if decide (y4 = v6) = true then
                    Option.bind (St.ld v3 y0 (3 : Nat)) fun v7 =>
                      Option.bind (AV.toStr v7) fun v8 =>
                        if decide (y5 = v8) = true then
                          call (19 : Nat) [] v3 fun v9 v10 =>
                            Option.bind (AV.toBool v9) fun v11 =>
                              J Ex.normal
                                (f6e49 y0 v11 y1 y2 y3 y4 y5 y6 y3 true y1 y0 v1 v4 y2 (IntKind.wrap IntKind.i64 (y2 + (1 : Int)))
                                  (v4 == IntKind.wrap IntKind.i64 (y2 + (1 : Int))) (v4 == IntKind.wrap IntKind.i64 (y2 + (1 : Int))) true y6 y6 true
                                  y4 y0 v6 (decide (y4 = v6)) (decide (y4 = v6)) true y5 y0 v8 (decide (y5 = v8)) (decide (y5 = v8)) true v11 v11)
                                v10
                        else
                          J Ex.normal
                            (f6e50 y0 false y1 y2 y3 y4 y5 y6 y3 true y1 y0 v1 v4 y2 (IntKind.wrap IntKind.i64 (y2 + (1 : Int)))
                              (v4 == IntKind.wrap IntKind.i64 (y2 + (1 : Int))) (v4 == IntKind.wrap IntKind.i64 (y2 + (1 : Int))) true y6 y6 true y4
                              y0 v6 (decide (y4 = v6)) (decide (y4 = v6)) true y5 y0 v8 (decide (y5 = v8)) (decide (y5 = v8)) false false)
                            v3
                  else
                    J Ex.normal
                      (f6e51 y0 false y1 y2 y3 y4 y5 y6 y3 true y1 y0 v1 v4 y2 (IntKind.wrap IntKind.i64 (y2 + (1 : Int)))
                        (v4 == IntKind.wrap IntKind.i64 (y2 + (1 : Int))) (v4 == IntKind.wrap IntKind.i64 (y2 + (1 : Int))) true y6 y6 true y4 y0 v6
                        (decide (y4 = v6)) (decide (y4 = v6)) false false false false)
                      v3
            else
              J Ex.normal
                (f6e52 y0 false y1 y2 y3 y4 y5 y6 y3 true y1 y0 v1 v4 y2 (IntKind.wrap IntKind.i64 (y2 + (1 : Int)))
                  (v4 == IntKind.wrap IntKind.i64 (y2 + (1 : Int))) (v4 == IntKind.wrap IntKind.i64 (y2 + (1 : Int))) true y6 y6 false false false
                  false false false)
                v3
          else
            J Ex.normal
              (f6e53 y0 false y1 y2 y3 y4 y5 y6 y3 true y1 y0 v1 v4 y2 (IntKind.wrap IntKind.i64 (y2 + (1 : Int)))
                (v4 == IntKind.wrap IntKind.i64 (y2 + (1 : Int))) (v4 == IntKind.wrap IntKind.i64 (y2 + (1 : Int))) false false false false false
                false false false)
              v3
else J Ex.normal (f6e54 y0 false y1 y2 y3 y4 y5 y6 y3 false false false false false false false false false false) σ := hide (by kernel_rfl)
theorem f6z51_f6e49 (y0 : Nat) (y1 : Bool) (y2 : Option (Nat × Nat)) (y3 : Int) (y4 : Bool) (y5 : ByteArray) (y6 : ByteArray) (y7 : Bool) (y8 : Bool) (y9 : Bool) (y10 : Option (Nat × Nat)) (y11 : Nat) (y12 : Int) (y13 : Int) (y14 : Int) (y15 : Int) (y16 : Bool) (y17 : Bool) (y18 : Bool) (y19 : Bool) (y20 : Bool) (y21 : Bool) (y22 : ByteArray) (y23 : Nat) (y24 : ByteArray) (y25 : Bool) (y26 : Bool) (y27 : Bool) (y28 : ByteArray) (y29 : Nat) (y30 : ByteArray) (y31 : Bool) (y32 : Bool) (y33 : Bool) (y34 : Bool) (y35 : Bool) : Ann.clr f6a51 (f6e49 y0 y1 y2 y3 y4 y5 y6 y7 y8 y9 y10 y11 y12 y13 y14 y15 y16 y17 y18 y19 y20 y21 y22 y23 y24 y25 y26 y27 y28 y29 y30 y31 y32 y33 y34 y35) = f6e12 y1 := hide (by kernel_rfl)
theorem f6y53_f6e12 {R : Type} (call : CallF R) (N : Nat) (y0 : Bool) (J : KF R) (σ : St) : runK Try.prog call N f6c53 f6a53 J (f6e12 y0) σ = J .ret (f6e12 y0) σ := runK_ret' (by kernel_rfl) (by kernel_rfl)
theorem f6z51_f6e50 (y0 : Nat) (y1 : Bool) (y2 : Option (Nat × Nat)) (y3 : Int) (y4 : Bool) (y5 : ByteArray) (y6 : ByteArray) (y7 : Bool) (y8 : Bool) (y9 : Bool) (y10 : Option (Nat × Nat)) (y11 : Nat) (y12 : Int) (y13 : Int) (y14 : Int) (y15 : Int) (y16 : Bool) (y17 : Bool) (y18 : Bool) (y19 : Bool) (y20 : Bool) (y21 : Bool) (y22 : ByteArray) (y23 : Nat) (y24 : ByteArray) (y25 : Bool) (y26 : Bool) (y27 : Bool) (y28 : ByteArray) (y29 : Nat) (y30 : ByteArray) (y31 : Bool) (y32 : Bool) (y33 : Bool) (y34 : Bool) : Ann.clr f6a51 (f6e50 y0 y1 y2 y3 y4 y5 y6 y7 y8 y9 y10 y11 y12 y13 y14 y15 y16 y17 y18 y19 y20 y21 y22 y23 y24 y25 y26 y27 y28 y29 y30 y31 y32 y33 y34) = f6e12 y1 := hide (by kernel_rfl)
theorem f6z51_f6e51 (y0 : Nat) (y1 : Bool) (y2 : Option (Nat × Nat)) (y3 : Int) (y4 : Bool) (y5 : ByteArray) (y6 : ByteArray) (y7 : Bool) (y8 : Bool) (y9 : Bool) (y10 : Option (Nat × Nat)) (y11 : Nat) (y12 : Int) (y13 : Int) (y14 : Int) (y15 : Int) (y16 : Bool) (y17 : Bool) (y18 : Bool) (y19 : Bool) (y20 : Bool) (y21 : Bool) (y22 : ByteArray) (y23 : Nat) (y24 : ByteArray) (y25 : Bool) (y26 : Bool) (y27 : Bool) (y28 : Bool) (y29 : Bool) (y30 : Bool) : Ann.clr f6a51 (f6e51 y0 y1 y2 y3 y4 y5 y6 y7 y8 y9 y10 y11 y12 y13 y14 y15 y16 y17 y18 y19 y20 y21 y22 y23 y24 y25 y26 y27 y28 y29 y30) = f6e12 y1 := hide (by kernel_rfl)
theorem f6z51_f6e52 (y0 : Nat) (y1 : Bool) (y2 : Option (Nat × Nat)) (y3 : Int) (y4 : Bool) (y5 : ByteArray) (y6 : ByteArray) (y7 : Bool) (y8 : Bool) (y9 : Bool) (y10 : Option (Nat × Nat)) (y11 : Nat) (y12 : Int) (y13 : Int) (y14 : Int) (y15 : Int) (y16 : Bool) (y17 : Bool) (y18 : Bool) (y19 : Bool) (y20 : Bool) (y21 : Bool) (y22 : Bool) (y23 : Bool) (y24 : Bool) (y25 : Bool) (y26 : Bool) : Ann.clr f6a51 (f6e52 y0 y1 y2 y3 y4 y5 y6 y7 y8 y9 y10 y11 y12 y13 y14 y15 y16 y17 y18 y19 y20 y21 y22 y23 y24 y25 y26) = f6e12 y1 := hide (by kernel_rfl)
theorem f6z51_f6e53 (y0 : Nat) (y1 : Bool) (y2 : Option (Nat × Nat)) (y3 : Int) (y4 : Bool) (y5 : ByteArray) (y6 : ByteArray) (y7 : Bool) (y8 : Bool) (y9 : Bool) (y10 : Option (Nat × Nat)) (y11 : Nat) (y12 : Int) (y13 : Int) (y14 : Int) (y15 : Int) (y16 : Bool) (y17 : Bool) (y18 : Bool) (y19 : Bool) (y20 : Bool) (y21 : Bool) (y22 : Bool) (y23 : Bool) (y24 : Bool) (y25 : Bool) : Ann.clr f6a51 (f6e53 y0 y1 y2 y3 y4 y5 y6 y7 y8 y9 y10 y11 y12 y13 y14 y15 y16 y17 y18 y19 y20 y21 y22 y23 y24 y25) = f6e12 y1 := hide (by kernel_rfl)
theorem f6z51_f6e54 (y0 : Nat) (y1 : Bool) (y2 : Option (Nat × Nat)) (y3 : Int) (y4 : Bool) (y5 : ByteArray) (y6 : ByteArray) (y7 : Bool) (y8 : Bool) (y9 : Bool) (y10 : Bool) (y11 : Bool) (y12 : Bool) (y13 : Bool) (y14 : Bool) (y15 : Bool) (y16 : Bool) (y17 : Bool) (y18 : Bool) : Ann.clr f6a51 (f6e54 y0 y1 y2 y3 y4 y5 y6 y7 y8 y9 y10 y11 y12 y13 y14 y15 y16 y17 y18) = f6e12 y1 := hide (by kernel_rfl)
theorem f6b_f6e12_r {R : Type} (y0 : Bool) (σ : St) (K : AV → St → Option R) : bodyC Try.prog f6rs K (Ex.ret) (f6e12 y0) σ =
K (AV.bool y0) σ := hide (by kernel_rfl)
attribute [go_sem] f6_eq f6n0 f6r1_f6e0 f6z0_f6e1 f6n2 f6r3_f6e2 f6z2_f6e3 f6n4 f6n5 f6r7_f6e4 f6z5_f6e5 f6x8_f6e8 f6n9 f6r11_f6e8 f6z9_f6e9 f6y12_f6e12 f6z9_f6e10 f6z9_f6e11 f6n10 f6z8_f6e8 f6z5_f6e6 f6z5_f6e7 f6z4_f6e13 f6n6 f6n13 f6r15_f6e13 f6z13_f6e14 f6n16 f6L17_eq f6z17_f6e15 f6l17_f6e15 f6n18 f6r19_f6e15 f6z18_f6e16 f6n20 f6x21_f6e16 f6n23 f6z21_f6e16 f6y24_f6e16 f6z20_f6e15 f6n22 f6n25 f6n27 f6r28_f6e15 f6z27_f6e18 f6r29_f6e19 f6z25_f6e20 f6z22_f6e15 f6r26_f6e15 f6z17_f6e21 f6z16_f6e17 f6z6_f6e17 f6n14 f6r30_f6e17 f6z14_f6e22 f6n31 f6r32_f6e23 f6z31_f6e24 f6n33 f6r34_f6e25 f6z33_f6e26 f6n35 f6r36_f6e27 f6z35_f6e28 f6n37 f6n38 f6r40_f6e29 f6z38_f6e30 f6x41_f6e32 f6n42 f6r44_f6e32 f6z42_f6e33 f6n45 f6r46_f6e34 f6z45_f6e35 f6n47 f6r48_f6e36 f6z47_f6e37 f6y49_f6e12 f6z47_f6e38 f6z47_f6e39 f6z47_f6e40 f6z47_f6e41 f6z47_f6e42 f6z47_f6e43 f6z47_f6e44 f6z47_f6e45 f6n43 f6z41_f6e32 f6z38_f6e31 f6z37_f6e46 f6n39 f6r50_f6e46 f6z39_f6e47 f6n51 f6r52_f6e48 f6z51_f6e49 f6y53_f6e12 f6z51_f6e50 f6z51_f6e51 f6z51_f6e52 f6z51_f6e53 f6z51_f6e54 f6b_f6e12_r

end Go.Proofs.Ytmgacgonoodkfaa
