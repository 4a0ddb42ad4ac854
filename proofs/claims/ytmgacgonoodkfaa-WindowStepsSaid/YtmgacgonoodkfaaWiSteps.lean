/- What the machine does with each piece of code, in plain text. PRINTED by a program of this workplace; Lean checks it. -/
import Derived.Test.YtmgacgonoodkfaaWiAnn
import Derived.Test.YtmgacgonoodkfaaProg
import Derived.KernelRfl
import Derived.Attr
namespace Go.Proofs.Ytmgacgonoodkfaa
open Go.AM
set_option maxRecDepth 100000
set_option linter.unusedVariables false
noncomputable def f10rs : List ResultVar := [ResultVar.tmp (6 : Nat)]
noncomputable def f10c0 : Code := subCode [] (bodyOf Try.prog 10)
def f10a0 : Ann := subAnn [] ann10
noncomputable def f10c1 : Code := subCode [0] (bodyOf Try.prog 10)
def f10a1 : Ann := subAnn [0] ann10
noncomputable def f10c2 : Code := subCode [1] (bodyOf Try.prog 10)
def f10a2 : Ann := subAnn [1] ann10
noncomputable def f10c3 : Code := subCode [1, 0] (bodyOf Try.prog 10)
def f10a3 : Ann := subAnn [1, 0] ann10
noncomputable def f10c4 : Code := subCode [1, 1] (bodyOf Try.prog 10)
def f10a4 : Ann := subAnn [1, 1] ann10
noncomputable def f10c5 : Code := subCode [1, 1, 0] (bodyOf Try.prog 10)
def f10a5 : Ann := subAnn [1, 1, 0] ann10
noncomputable def f10c6 : Code := subCode [1, 1, 1] (bodyOf Try.prog 10)
def f10a6 : Ann := subAnn [1, 1, 1] ann10
noncomputable def f10c7 : Code := subCode [1, 1, 0, 0] (bodyOf Try.prog 10)
def f10a7 : Ann := subAnn [1, 1, 0, 0] ann10
noncomputable def f10c8 : Code := subCode [1, 1, 0, 1] (bodyOf Try.prog 10)
def f10a8 : Ann := subAnn [1, 1, 0, 1] ann10
noncomputable def f10c9 : Code := subCode [1, 1, 0, 1, 0] (bodyOf Try.prog 10)
def f10a9 : Ann := subAnn [1, 1, 0, 1, 0] ann10
noncomputable def f10c10 : Code := subCode [1, 1, 0, 1, 1] (bodyOf Try.prog 10)
def f10a10 : Ann := subAnn [1, 1, 0, 1, 1] ann10
noncomputable def f10c11 : Code := subCode [1, 1, 0, 1, 0, 0] (bodyOf Try.prog 10)
def f10a11 : Ann := subAnn [1, 1, 0, 1, 0, 0] ann10
noncomputable def f10c12 : Code := subCode [1, 1, 0, 1, 0, 1] (bodyOf Try.prog 10)
def f10a12 : Ann := subAnn [1, 1, 0, 1, 0, 1] ann10
noncomputable def f10c13 : Code := subCode [1, 1, 1, 0] (bodyOf Try.prog 10)
def f10a13 : Ann := subAnn [1, 1, 1, 0] ann10
noncomputable def f10c14 : Code := subCode [1, 1, 1, 1] (bodyOf Try.prog 10)
def f10a14 : Ann := subAnn [1, 1, 1, 1] ann10
noncomputable def f10c15 : Code := subCode [1, 1, 1, 0, 0] (bodyOf Try.prog 10)
def f10a15 : Ann := subAnn [1, 1, 1, 0, 0] ann10
noncomputable def f10c16 : Code := subCode [1, 1, 1, 0, 1] (bodyOf Try.prog 10)
def f10a16 : Ann := subAnn [1, 1, 1, 0, 1] ann10
noncomputable def f10c17 : Code := subCode [1, 1, 1, 0, 1, 0] (bodyOf Try.prog 10)
def f10a17 : Ann := subAnn [1, 1, 1, 0, 1, 0] ann10
noncomputable def f10c18 : Code := subCode [1, 1, 1, 0, 1, 1] (bodyOf Try.prog 10)
def f10a18 : Ann := subAnn [1, 1, 1, 0, 1, 1] ann10
noncomputable def f10c19 : Code := subCode [1, 1, 1, 0, 1, 0, 0] (bodyOf Try.prog 10)
def f10a19 : Ann := subAnn [1, 1, 1, 0, 1, 0, 0] ann10
noncomputable def f10c20 : Code := subCode [1, 1, 1, 0, 1, 0, 1] (bodyOf Try.prog 10)
def f10a20 : Ann := subAnn [1, 1, 1, 0, 1, 0, 1] ann10
noncomputable def f10c21 : Code := subCode [1, 1, 1, 1, 0] (bodyOf Try.prog 10)
def f10a21 : Ann := subAnn [1, 1, 1, 1, 0] ann10
noncomputable def f10c22 : Code := subCode [1, 1, 1, 1, 1] (bodyOf Try.prog 10)
def f10a22 : Ann := subAnn [1, 1, 1, 1, 1] ann10
noncomputable def f10c23 : Code := subCode [1, 1, 1, 1, 1, 0] (bodyOf Try.prog 10)
def f10a23 : Ann := subAnn [1, 1, 1, 1, 1, 0] ann10
noncomputable def f10c24 : Code := subCode [1, 1, 1, 1, 1, 1] (bodyOf Try.prog 10)
def f10a24 : Ann := subAnn [1, 1, 1, 1, 1, 1] ann10
noncomputable def f10c25 : Code := subCode [1, 1, 1, 1, 1, 0, 0] (bodyOf Try.prog 10)
def f10a25 : Ann := subAnn [1, 1, 1, 1, 1, 0, 0] ann10
noncomputable def f10c26 : Code := subCode [1, 1, 1, 1, 1, 0, 1] (bodyOf Try.prog 10)
def f10a26 : Ann := subAnn [1, 1, 1, 1, 1, 0, 1] ann10
noncomputable def f10c27 : Code := subCode [1, 1, 1, 1, 1, 0, 1, 0] (bodyOf Try.prog 10)
def f10a27 : Ann := subAnn [1, 1, 1, 1, 1, 0, 1, 0] ann10
noncomputable def f10c28 : Code := subCode [1, 1, 1, 1, 1, 0, 1, 0, 0] (bodyOf Try.prog 10)
def f10a28 : Ann := subAnn [1, 1, 1, 1, 1, 0, 1, 0, 0] ann10
noncomputable def f10c29 : Code := subCode [1, 1, 1, 1, 1, 0, 1, 0, 0, 0] (bodyOf Try.prog 10)
def f10a29 : Ann := subAnn [1, 1, 1, 1, 1, 0, 1, 0, 0, 0] ann10
noncomputable def f10c30 : Code := subCode [1, 1, 1, 1, 1, 0, 1, 0, 0, 1] (bodyOf Try.prog 10)
def f10a30 : Ann := subAnn [1, 1, 1, 1, 1, 0, 1, 0, 0, 1] ann10
noncomputable def f10c31 : Code := subCode [1, 1, 1, 1, 1, 0, 1, 0, 0, 1, 0] (bodyOf Try.prog 10)
def f10a31 : Ann := subAnn [1, 1, 1, 1, 1, 0, 1, 0, 0, 1, 0] ann10
noncomputable def f10c32 : Code := subCode [1, 1, 1, 1, 1, 0, 1, 0, 0, 1, 1] (bodyOf Try.prog 10)
def f10a32 : Ann := subAnn [1, 1, 1, 1, 1, 0, 1, 0, 0, 1, 1] ann10
noncomputable def f10c33 : Code := subCode [1, 1, 1, 1, 1, 0, 1, 0, 0, 1, 0, 0] (bodyOf Try.prog 10)
def f10a33 : Ann := subAnn [1, 1, 1, 1, 1, 0, 1, 0, 0, 1, 0, 0] ann10
noncomputable def f10c34 : Code := subCode [1, 1, 1, 1, 1, 0, 1, 0, 0, 1, 0, 1] (bodyOf Try.prog 10)
def f10a34 : Ann := subAnn [1, 1, 1, 1, 1, 0, 1, 0, 0, 1, 0, 1] ann10
noncomputable def f10c35 : Code := subCode [1, 1, 1, 1, 1, 0, 1, 0, 0, 1, 1, 0] (bodyOf Try.prog 10)
def f10a35 : Ann := subAnn [1, 1, 1, 1, 1, 0, 1, 0, 0, 1, 1, 0] ann10
noncomputable def f10c36 : Code := subCode [1, 1, 1, 1, 1, 0, 1, 0, 0, 1, 1, 1] (bodyOf Try.prog 10)
def f10a36 : Ann := subAnn [1, 1, 1, 1, 1, 0, 1, 0, 0, 1, 1, 1] ann10
noncomputable def f10c37 : Code := subCode [1, 1, 1, 1, 1, 0, 1, 0, 0, 1, 1, 0, 0] (bodyOf Try.prog 10)
def f10a37 : Ann := subAnn [1, 1, 1, 1, 1, 0, 1, 0, 0, 1, 1, 0, 0] ann10
noncomputable def f10c38 : Code := subCode [1, 1, 1, 1, 1, 0, 1, 0, 0, 1, 1, 0, 0, 0] (bodyOf Try.prog 10)
def f10a38 : Ann := subAnn [1, 1, 1, 1, 1, 0, 1, 0, 0, 1, 1, 0, 0, 0] ann10
noncomputable def f10c39 : Code := subCode [1, 1, 1, 1, 1, 0, 1, 0, 0, 1, 1, 0, 0, 1] (bodyOf Try.prog 10)
def f10a39 : Ann := subAnn [1, 1, 1, 1, 1, 0, 1, 0, 0, 1, 1, 0, 0, 1] ann10
noncomputable def f10c40 : Code := subCode [1, 1, 1, 1, 1, 0, 1, 0, 0, 1, 1, 0, 0, 1, 0] (bodyOf Try.prog 10)
def f10a40 : Ann := subAnn [1, 1, 1, 1, 1, 0, 1, 0, 0, 1, 1, 0, 0, 1, 0] ann10
noncomputable def f10c41 : Code := subCode [1, 1, 1, 1, 1, 0, 1, 0, 0, 1, 1, 0, 0, 1, 1] (bodyOf Try.prog 10)
def f10a41 : Ann := subAnn [1, 1, 1, 1, 1, 0, 1, 0, 0, 1, 1, 0, 0, 1, 1] ann10
noncomputable def f10c42 : Code := subCode [1, 1, 1, 1, 1, 0, 1, 0, 0, 1, 1, 0, 0, 1, 0, 0] (bodyOf Try.prog 10)
def f10a42 : Ann := subAnn [1, 1, 1, 1, 1, 0, 1, 0, 0, 1, 1, 0, 0, 1, 0, 0] ann10
noncomputable def f10c43 : Code := subCode [1, 1, 1, 1, 1, 0, 1, 0, 0, 1, 1, 0, 0, 1, 0, 1] (bodyOf Try.prog 10)
def f10a43 : Ann := subAnn [1, 1, 1, 1, 1, 0, 1, 0, 0, 1, 1, 0, 0, 1, 0, 1] ann10
noncomputable def f10c44 : Code := subCode [1, 1, 1, 1, 1, 0, 1, 0, 0, 1, 1, 0, 0, 1, 0, 1, 0] (bodyOf Try.prog 10)
def f10a44 : Ann := subAnn [1, 1, 1, 1, 1, 0, 1, 0, 0, 1, 1, 0, 0, 1, 0, 1, 0] ann10
noncomputable def f10c45 : Code := subCode [1, 1, 1, 1, 1, 0, 1, 0, 0, 1, 1, 0, 0, 1, 0, 1, 1] (bodyOf Try.prog 10)
def f10a45 : Ann := subAnn [1, 1, 1, 1, 1, 0, 1, 0, 0, 1, 1, 0, 0, 1, 0, 1, 1] ann10
noncomputable def f10c46 : Code := subCode [1, 1, 1, 1, 1, 0, 1, 0, 0, 1, 1, 0, 0, 1, 0, 1, 0, 0] (bodyOf Try.prog 10)
def f10a46 : Ann := subAnn [1, 1, 1, 1, 1, 0, 1, 0, 0, 1, 1, 0, 0, 1, 0, 1, 0, 0] ann10
noncomputable def f10c47 : Code := subCode [1, 1, 1, 1, 1, 0, 1, 0, 0, 1, 1, 0, 0, 1, 0, 1, 0, 1] (bodyOf Try.prog 10)
def f10a47 : Ann := subAnn [1, 1, 1, 1, 1, 0, 1, 0, 0, 1, 1, 0, 0, 1, 0, 1, 0, 1] ann10
noncomputable def f10c48 : Code := subCode [1, 1, 1, 1, 1, 0, 1, 0, 0, 1, 1, 0, 0, 1, 1, 0] (bodyOf Try.prog 10)
def f10a48 : Ann := subAnn [1, 1, 1, 1, 1, 0, 1, 0, 0, 1, 1, 0, 0, 1, 1, 0] ann10
noncomputable def f10c49 : Code := subCode [1, 1, 1, 1, 1, 0, 1, 0, 0, 1, 1, 0, 0, 1, 1, 1] (bodyOf Try.prog 10)
def f10a49 : Ann := subAnn [1, 1, 1, 1, 1, 0, 1, 0, 0, 1, 1, 0, 0, 1, 1, 1] ann10
noncomputable def f10c50 : Code := subCode [1, 1, 1, 1, 1, 0, 1, 0, 0, 1, 1, 0, 0, 1, 1, 1, 0] (bodyOf Try.prog 10)
def f10a50 : Ann := subAnn [1, 1, 1, 1, 1, 0, 1, 0, 0, 1, 1, 0, 0, 1, 1, 1, 0] ann10
noncomputable def f10c51 : Code := subCode [1, 1, 1, 1, 1, 0, 1, 0, 0, 1, 1, 0, 0, 1, 1, 1, 1] (bodyOf Try.prog 10)
def f10a51 : Ann := subAnn [1, 1, 1, 1, 1, 0, 1, 0, 0, 1, 1, 0, 0, 1, 1, 1, 1] ann10
noncomputable def f10c52 : Code := subCode [1, 1, 1, 1, 1, 0, 1, 0, 0, 1, 1, 0, 0, 1, 1, 1, 1, 0] (bodyOf Try.prog 10)
def f10a52 : Ann := subAnn [1, 1, 1, 1, 1, 0, 1, 0, 0, 1, 1, 0, 0, 1, 1, 1, 1, 0] ann10
noncomputable def f10c53 : Code := subCode [1, 1, 1, 1, 1, 0, 1, 0, 0, 1, 1, 0, 0, 1, 1, 1, 1, 1] (bodyOf Try.prog 10)
def f10a53 : Ann := subAnn [1, 1, 1, 1, 1, 0, 1, 0, 0, 1, 1, 0, 0, 1, 1, 1, 1, 1] ann10
noncomputable def f10c54 : Code := subCode [1, 1, 1, 1, 1, 0, 1, 0, 0, 1, 1, 0, 0, 1, 1, 1, 1, 1, 0] (bodyOf Try.prog 10)
def f10a54 : Ann := subAnn [1, 1, 1, 1, 1, 0, 1, 0, 0, 1, 1, 0, 0, 1, 1, 1, 1, 1, 0] ann10
noncomputable def f10c55 : Code := subCode [1, 1, 1, 1, 1, 0, 1, 0, 0, 1, 1, 0, 0, 1, 1, 1, 1, 1, 1] (bodyOf Try.prog 10)
def f10a55 : Ann := subAnn [1, 1, 1, 1, 1, 0, 1, 0, 0, 1, 1, 0, 0, 1, 1, 1, 1, 1, 1] ann10
noncomputable def f10c56 : Code := subCode [1, 1, 1, 1, 1, 0, 1, 0, 0, 1, 1, 0, 0, 1, 1, 1, 1, 1, 0, 0] (bodyOf Try.prog 10)
def f10a56 : Ann := subAnn [1, 1, 1, 1, 1, 0, 1, 0, 0, 1, 1, 0, 0, 1, 1, 1, 1, 1, 0, 0] ann10
noncomputable def f10c57 : Code := subCode [1, 1, 1, 1, 1, 0, 1, 0, 0, 1, 1, 0, 0, 1, 1, 1, 1, 1, 0, 1] (bodyOf Try.prog 10)
def f10a57 : Ann := subAnn [1, 1, 1, 1, 1, 0, 1, 0, 0, 1, 1, 0, 0, 1, 1, 1, 1, 1, 0, 1] ann10
noncomputable def f10c58 : Code := subCode [1, 1, 1, 1, 1, 1, 0] (bodyOf Try.prog 10)
def f10a58 : Ann := subAnn [1, 1, 1, 1, 1, 1, 0] ann10
noncomputable def f10c59 : Code := subCode [1, 1, 1, 1, 1, 1, 1] (bodyOf Try.prog 10)
def f10a59 : Ann := subAnn [1, 1, 1, 1, 1, 1, 1] ann10
noncomputable def f10L27 {R : Type} (call : Bool → CallF R) (dem : Bool) (N : Nat) : KF R → Env → St → Option R := fun K e σ => runK Try.prog call dem N f10c28 f10a28 K e σ
def f10e0 (y0 : Int) (y1 : Int) (y2 : Option (Nat × Nat)) (y3 : Nat) (y4 : Option Nat) : Env := AV.int IntKind.i64 y0 :: AV.int IntKind.i64 y1 :: AV.slice y2 y3 y4 (4 : Nat) :: Env.sp 117 []
def f10e1 (y0 : Int) (y1 : Int) (y2 : Option (Nat × Nat)) (y3 : Nat) (y4 : Option Nat) (y5 : Bool) : Env := AV.int IntKind.i64 y0 :: AV.int IntKind.i64 y1 :: AV.slice y2 y3 y4 (4 : Nat) :: Env.sp 3 (AV.bool y5 :: Env.sp 113 [])
def f10e2 (y0 : Int) (y1 : Int) (y2 : Option (Nat × Nat)) (y3 : Nat) (y4 : Option Nat) (y5 : Option (Nat × Nat)) (y6 : Int) (y7 : Option (Nat × Nat)) (y8 : Int) (y9 : Int) (y10 : Int) (y11 : Option (Nat × Nat)) (y12 : Int) (y13 : Option (Nat × Nat)) (y14 : Int) : Env := AV.int IntKind.i64 y0 :: AV.int IntKind.i64 y1 :: AV.slice y2 y3 y4 (4 : Nat) :: Env.sp 4 (AV.ptr y5 :: AV.int IntKind.i64 y6 :: Env.sp 8 (AV.tuple [AV.ptr y7, AV.int IntKind.i64 y8] :: AV.int IntKind.i64 y9 :: AV.int IntKind.i64 y10 :: AV.tuple [AV.ptr y11, AV.int IntKind.i64 y12] :: AV.ptr y13 :: AV.int IntKind.i64 y14 :: Env.sp 97 []))
def f10e3 (y0 : Int) (y1 : Int) (y2 : Option (Nat × Nat)) (y3 : Nat) (y4 : Option Nat) (y5 : Option (Nat × Nat)) (y6 : Int) : Env := AV.int IntKind.i64 y0 :: AV.int IntKind.i64 y1 :: AV.slice y2 y3 y4 (4 : Nat) :: Env.sp 4 (AV.ptr y5 :: AV.int IntKind.i64 y6 :: Env.sp 111 [])
def f10e4 (y0 : Int) (y1 : Int) (y2 : Option (Nat × Nat)) (y3 : Nat) (y4 : Option Nat) (y5 : Option (Nat × Nat)) (y6 : Int) (y7 : Int) (y8 : Bool) (y9 : Int) (y10 : Int) (y11 : Bool) (y12 : Bool) (y13 : Bool) (y14 : Bool) : Env := AV.int IntKind.i64 y0 :: AV.int IntKind.i64 y1 :: AV.slice y2 y3 y4 (4 : Nat) :: Env.sp 4 (AV.ptr y5 :: AV.int IntKind.i64 y6 :: Env.sp 14 (AV.int IntKind.i64 y7 :: AV.bool y8 :: AV.int IntKind.i64 y9 :: AV.int IntKind.i64 y10 :: AV.bool y11 :: AV.bool y12 :: AV.bool y13 :: AV.tuple [] :: AV.tuple [] :: AV.tuple [] :: AV.tuple [] :: AV.tuple [] :: AV.bool y14 :: Env.sp 84 []))
def f10e5 (y0 : Int) (y1 : Int) (y2 : Option (Nat × Nat)) (y3 : Nat) (y4 : Option Nat) (y5 : Option (Nat × Nat)) (y6 : Int) (y7 : Int) (y8 : Bool) (y9 : Int) (y10 : Int) (y11 : Bool) (y12 : Bool) (y13 : Bool) (y14 : Option (Nat × Nat)) (y15 : Bool) (y16 : Int) (y17 : Bool) (y18 : Bool) (y19 : Bool) : Env := AV.int IntKind.i64 y0 :: AV.int IntKind.i64 y1 :: AV.slice y2 y3 y4 (4 : Nat) :: Env.sp 4 (AV.ptr y5 :: AV.int IntKind.i64 y6 :: Env.sp 14 (AV.int IntKind.i64 y7 :: AV.bool y8 :: AV.int IntKind.i64 y9 :: AV.int IntKind.i64 y10 :: AV.bool y11 :: AV.bool y12 :: AV.bool y13 :: AV.ptr y14 :: AV.bool y15 :: AV.int IntKind.i64 y16 :: AV.bool y17 :: AV.bool y18 :: AV.bool y19 :: Env.sp 84 []))
def f10e6 (y0 : Option (Nat × Nat)) (y1 : Nat) (y2 : Option Nat) (y3 : Option (Nat × Nat)) (y4 : Bool) : Env := Env.sp 2 (AV.slice y0 y1 y2 (4 : Nat) :: Env.sp 4 (AV.ptr y3 :: Env.sp 27 (AV.bool y4 :: Env.sp 84 [])))
def f10e7 (y0 : Option (Nat × Nat)) (y1 : Nat) (y2 : Option Nat) (y3 : Bool) (y4 : Option (Nat × Nat)) (y5 : Bool) : Env := Env.sp 2 (AV.slice y0 y1 y2 (4 : Nat) :: Env.sp 3 (AV.bool y3 :: AV.ptr y4 :: Env.sp 27 (AV.bool y5 :: Env.sp 84 [])))
def f10e8 (y0 : Bool) : Env := Env.sp 6 (AV.bool y0 :: Env.sp 113 [])
def f10e9 (y0 : Option (Nat × Nat)) (y1 : Nat) (y2 : Option Nat) (y3 : Option (Nat × Nat)) : Env := Env.sp 2 (AV.slice y0 y1 y2 (4 : Nat) :: Env.sp 4 (AV.ptr y3 :: Env.sp 112 []))
def f10e10 (y0 : Option (Nat × Nat)) (y1 : Nat) (y2 : Option Nat) (y3 : Option (Nat × Nat)) (y4 : Option (Nat × Nat)) (y5 : Bool) (y6 : Bool) (y7 : Bool) : Env := Env.sp 2 (AV.slice y0 y1 y2 (4 : Nat) :: Env.sp 4 (AV.ptr y3 :: Env.sp 28 (AV.ptr y4 :: AV.bool y5 :: AV.bool y6 :: AV.tuple [] :: AV.tuple [] :: AV.tuple [] :: AV.bool y7 :: Env.sp 77 [])))
def f10e11 (y0 : Option (Nat × Nat)) (y1 : Nat) (y2 : Option Nat) (y3 : Option (Nat × Nat)) (y4 : Option (Nat × Nat)) (y5 : Bool) (y6 : Bool) (y7 : Option (Nat × Nat)) (y8 : Nat) (y9 : Option Nat) (y10 : Int) (y11 : Bool) (y12 : Bool) : Env := Env.sp 2 (AV.slice y0 y1 y2 (4 : Nat) :: Env.sp 4 (AV.ptr y3 :: Env.sp 28 (AV.ptr y4 :: AV.bool y5 :: AV.bool y6 :: AV.slice y7 y8 y9 (4 : Nat) :: AV.int IntKind.i64 y10 :: AV.bool y11 :: AV.bool y12 :: Env.sp 77 [])))
def f10e12 (y0 : Option (Nat × Nat)) (y1 : Nat) (y2 : Option Nat) (y3 : Option (Nat × Nat)) (y4 : Bool) : Env := Env.sp 2 (AV.slice y0 y1 y2 (4 : Nat) :: Env.sp 4 (AV.ptr y3 :: Env.sp 34 (AV.bool y4 :: Env.sp 77 [])))
def f10e13 (y0 : Option (Nat × Nat)) (y1 : Nat) (y2 : Option Nat) (y3 : Bool) (y4 : Option (Nat × Nat)) (y5 : Bool) (y6 : Bool) : Env := Env.sp 2 (AV.slice y0 y1 y2 (4 : Nat) :: Env.sp 3 (AV.bool y3 :: AV.ptr y4 :: Env.sp 34 (AV.bool y5 :: AV.bool y6 :: Env.sp 76 [])))
def f10e14 (y0 : Option (Nat × Nat)) (y1 : Nat) (y2 : Option Nat) (y3 : Option (Nat × Nat)) (y4 : Nat) (y5 : Int) (y6 : Option (Nat × Nat)) (y7 : Nat) (y8 : Option Nat) (y9 : Option (Nat × Nat)) (y10 : Nat) (y11 : Option Nat) (y12 : Nat) : Env := Env.sp 2 (AV.slice y0 y1 y2 (4 : Nat) :: Env.sp 4 (AV.ptr y3 :: Env.sp 1 (AV.ptr (some (y4, (0 : Nat))) :: Env.sp 34 (AV.agg [AV.int IntKind.i64 y5, AV.slice y6 y7 y8 (3 : Nat), AV.slice y9 y10 y11 (3 : Nat)] :: AV.ptr (some (y12, (0 : Nat))) :: Env.sp 74 []))))
def f10e15 (y0 : Option (Nat × Nat)) (y1 : Nat) (y2 : Option Nat) (y3 : Option (Nat × Nat)) (y4 : Nat) : Env := Env.sp 2 (AV.slice y0 y1 y2 (4 : Nat) :: Env.sp 4 (AV.ptr y3 :: Env.sp 1 (AV.ptr (some (y4, (0 : Nat))) :: Env.sp 110 [])))
def f10e16 (y0 : Option (Nat × Nat)) (y1 : Nat) (y2 : Option Nat) (y3 : Option (Nat × Nat)) (y4 : Nat) (y5 : Option (Nat × Nat)) (y6 : Nat) (y7 : Option Nat) (y8 : Int) (y9 : Int) : Env := Env.sp 2 (AV.slice y0 y1 y2 (4 : Nat) :: Env.sp 4 (AV.ptr y3 :: Env.sp 1 (AV.ptr (some (y4, (0 : Nat))) :: Env.sp 36 (AV.slice y5 y6 y7 (4 : Nat) :: AV.int IntKind.i64 y8 :: AV.int IntKind.i64 y9 :: Env.sp 71 []))))
def f10e17 (y0 : Option (Nat × Nat)) (y1 : Nat) (y2 : Option (Nat × Nat)) (y3 : Nat) (y4 : Option Nat) (y5 : Int) (y6 : Int) : Env := Env.sp 7 (AV.ptr y0 :: Env.sp 1 (AV.ptr (some (y1, (0 : Nat))) :: Env.sp 36 (AV.slice y2 y3 y4 (4 : Nat) :: AV.int IntKind.i64 y5 :: AV.int IntKind.i64 y6 :: Env.sp 71 [])))
def f10e18 (y0 : Option (Nat × Nat)) (y1 : Nat) (y2 : Option (Nat × Nat)) (y3 : Nat) (y4 : Option Nat) (y5 : Int) (y6 : Int) (y7 : Bool) : Env := Env.sp 7 (AV.ptr y0 :: Env.sp 1 (AV.ptr (some (y1, (0 : Nat))) :: Env.sp 36 (AV.slice y2 y3 y4 (4 : Nat) :: AV.int IntKind.i64 y5 :: AV.int IntKind.i64 y6 :: AV.bool y7 :: Env.sp 70 [])))
def f10e19 : Env := Env.sp 120 []
def f10e20 (y0 : Option (Nat × Nat)) (y1 : Nat) (y2 : Nat) (y3 : Option (Nat × Nat)) (y4 : Nat) (y5 : Option Nat) (y6 : Int) (y7 : Int) (y8 : Option (Nat × Nat)) (y9 : Int) (y10 : Int) (y11 : Int) (y12 : ByteArray) : Env := Env.sp 7 (AV.ptr y0 :: Env.sp 1 (AV.ptr (some (y1, (0 : Nat))) :: Env.sp 1 (AV.ptr (some (y2, (0 : Nat))) :: Env.sp 34 (AV.slice y3 y4 y5 (4 : Nat) :: AV.int IntKind.i64 y6 :: AV.int IntKind.i64 y7 :: Env.sp 1 (AV.ptr y8 :: AV.agg [AV.int IntKind.i64 y9, AV.int IntKind.i64 y10, AV.int IntKind.i64 y11, AV.str y12] :: Env.sp 68 [])))))
def f10e21 (y0 : Option (Nat × Nat)) (y1 : Nat) (y2 : Nat) (y3 : Option (Nat × Nat)) (y4 : Nat) (y5 : Option Nat) (y6 : Int) (y7 : Int) : Env := Env.sp 7 (AV.ptr y0 :: Env.sp 1 (AV.ptr (some (y1, (0 : Nat))) :: Env.sp 1 (AV.ptr (some (y2, (0 : Nat))) :: Env.sp 34 (AV.slice y3 y4 y5 (4 : Nat) :: AV.int IntKind.i64 y6 :: AV.int IntKind.i64 y7 :: Env.sp 71 []))))
def f10e22 (y0 : Option (Nat × Nat)) (y1 : Nat) (y2 : Nat) (y3 : Option (Nat × Nat)) (y4 : Nat) (y5 : Option Nat) (y6 : Int) (y7 : Int) (y8 : Option (Nat × Nat)) (y9 : Nat) (y10 : Int) (y11 : Int) (y12 : Int) (y13 : ByteArray) (y14 : Bool) (y15 : Bool) : Env := Env.sp 7 (AV.ptr y0 :: Env.sp 1 (AV.ptr (some (y1, (0 : Nat))) :: Env.sp 1 (AV.ptr (some (y2, (0 : Nat))) :: Env.sp 34 (AV.slice y3 y4 y5 (4 : Nat) :: AV.int IntKind.i64 y6 :: AV.int IntKind.i64 y7 :: Env.sp 3 (AV.ptr y8 :: AV.ptr (some (y9, (0 : Nat))) :: AV.agg [AV.int IntKind.i64 y10, AV.int IntKind.i64 y11, AV.int IntKind.i64 y12, AV.str y13] :: AV.bool y14 :: AV.bool y15 :: Env.sp 63 [])))))
def f10e23 (y0 : Option (Nat × Nat)) (y1 : Nat) (y2 : Nat) (y3 : Option (Nat × Nat)) (y4 : Nat) (y5 : Option Nat) (y6 : Int) (y7 : Int) (y8 : Bool) : Env := Env.sp 7 (AV.ptr y0 :: Env.sp 1 (AV.ptr (some (y1, (0 : Nat))) :: Env.sp 1 (AV.ptr (some (y2, (0 : Nat))) :: Env.sp 34 (AV.slice y3 y4 y5 (4 : Nat) :: AV.int IntKind.i64 y6 :: AV.int IntKind.i64 y7 :: Env.sp 7 (AV.bool y8 :: Env.sp 63 [])))))
def f10e24 (y0 : Bool) (y1 : Option (Nat × Nat)) (y2 : Nat) (y3 : Nat) (y4 : Option (Nat × Nat)) (y5 : Nat) (y6 : Option Nat) (y7 : Int) (y8 : Int) (y9 : Bool) : Env := Env.sp 6 (AV.bool y0 :: AV.ptr y1 :: Env.sp 1 (AV.ptr (some (y2, (0 : Nat))) :: Env.sp 1 (AV.ptr (some (y3, (0 : Nat))) :: Env.sp 34 (AV.slice y4 y5 y6 (4 : Nat) :: AV.int IntKind.i64 y7 :: AV.int IntKind.i64 y8 :: Env.sp 7 (AV.bool y9 :: Env.sp 63 [])))))
def f10e25 (y0 : Option (Nat × Nat)) (y1 : Nat) (y2 : Nat) (y3 : Int) (y4 : Nat) (y5 : Bool) (y6 : Option (Nat × Nat)) (y7 : Nat) (y8 : Option Nat) (y9 : Int) (y10 : Int) (y11 : Int) (y12 : ByteArray) (y13 : Int) (y14 : Option (Nat × Nat)) (y15 : Nat) (y16 : Option Nat) (y17 : Bool) (y18 : Option (Nat × Nat)) (y19 : Nat) (y20 : Int) (y21 : Int) (y22 : ByteArray) (y23 : Int) (y24 : Option (Nat × Nat)) (y25 : Nat) (y26 : Option Nat) (y27 : Bool) (y28 : Int) (y29 : ByteArray) (y30 : Int) (y31 : Option (Nat × Nat)) (y32 : Nat) (y33 : Option Nat) (y34 : Bool) : Env := Env.sp 7 (AV.ptr y0 :: Env.sp 1 (AV.ptr (some (y1, (0 : Nat))) :: Env.sp 1 (AV.ptr (some (y2, (0 : Nat))) :: AV.int IntKind.i64 y3 :: AV.ptr (some (y4, (0 : Nat))) :: AV.bool y5 :: Env.sp 31 (AV.slice y6 y7 y8 (4 : Nat) :: AV.int IntKind.i64 y9 :: AV.int IntKind.i64 y10 :: Env.sp 8 (AV.tuple [AV.int IntKind.i64 y11, AV.agg [AV.str y12, AV.int IntKind.i64 y13, AV.slice y14 y15 y16 (2 : Nat)], AV.bool y17] :: AV.ptr y18 :: AV.ptr (some (y19, (2 : Nat))) :: AV.int IntKind.i64 y20 :: AV.tuple [AV.int IntKind.i64 y21, AV.agg [AV.str y22, AV.int IntKind.i64 y23, AV.slice y24 y25 y26 (2 : Nat)], AV.bool y27] :: AV.int IntKind.i64 y28 :: AV.agg [AV.str y29, AV.int IntKind.i64 y30, AV.slice y31 y32 y33 (2 : Nat)] :: AV.bool y34 :: Env.sp 55 [])))))
def f10e26 (y0 : Option (Nat × Nat)) (y1 : Nat) (y2 : Nat) (y3 : Int) (y4 : Nat) (y5 : Bool) (y6 : Option (Nat × Nat)) (y7 : Nat) (y8 : Option Nat) (y9 : Int) (y10 : Int) : Env := Env.sp 7 (AV.ptr y0 :: Env.sp 1 (AV.ptr (some (y1, (0 : Nat))) :: Env.sp 1 (AV.ptr (some (y2, (0 : Nat))) :: AV.int IntKind.i64 y3 :: AV.ptr (some (y4, (0 : Nat))) :: AV.bool y5 :: Env.sp 31 (AV.slice y6 y7 y8 (4 : Nat) :: AV.int IntKind.i64 y9 :: AV.int IntKind.i64 y10 :: Env.sp 71 []))))
def f10e27 (y0 : Option (Nat × Nat)) (y1 : Nat) (y2 : Nat) (y3 : Int) (y4 : Nat) (y5 : Bool) (y6 : Nat) (y7 : Bool) (y8 : Option (Nat × Nat)) (y9 : Nat) (y10 : Option Nat) (y11 : Int) (y12 : Int) (y13 : Int) (y14 : Int) (y15 : ByteArray) (y16 : Bool) (y17 : Nat) (y18 : Nat) (y19 : Int) (y20 : Int) (y21 : Int) (y22 : ByteArray) (y23 : Bool) (y24 : Int) (y25 : Int) (y26 : ByteArray) (y27 : Bool) : Env := Env.sp 7 (AV.ptr y0 :: Env.sp 1 (AV.ptr (some (y1, (0 : Nat))) :: Env.sp 1 (AV.ptr (some (y2, (0 : Nat))) :: AV.int IntKind.i64 y3 :: AV.ptr (some (y4, (0 : Nat))) :: AV.bool y5 :: AV.ptr (some (y6, (0 : Nat))) :: AV.bool y7 :: Env.sp 29 (AV.slice y8 y9 y10 (4 : Nat) :: AV.int IntKind.i64 y11 :: AV.int IntKind.i64 y12 :: Env.sp 16 (AV.tuple [AV.agg [AV.int IntKind.i64 y13, AV.int IntKind.i64 y14, AV.str y15], AV.bool y16] :: AV.ptr (some (y17, (0 : Nat))) :: AV.ptr (some (y18, (2 : Nat))) :: AV.int IntKind.i64 y19 :: AV.tuple [AV.agg [AV.int IntKind.i64 y20, AV.int IntKind.i64 y21, AV.str y22], AV.bool y23] :: AV.agg [AV.int IntKind.i64 y24, AV.int IntKind.i64 y25, AV.str y26] :: AV.bool y27 :: Env.sp 48 [])))))
def f10e28 (y0 : Option (Nat × Nat)) (y1 : Nat) (y2 : Nat) (y3 : Int) (y4 : Nat) (y5 : Bool) (y6 : Nat) (y7 : Bool) (y8 : Option (Nat × Nat)) (y9 : Nat) (y10 : Option Nat) (y11 : Int) (y12 : Int) : Env := Env.sp 7 (AV.ptr y0 :: Env.sp 1 (AV.ptr (some (y1, (0 : Nat))) :: Env.sp 1 (AV.ptr (some (y2, (0 : Nat))) :: AV.int IntKind.i64 y3 :: AV.ptr (some (y4, (0 : Nat))) :: AV.bool y5 :: AV.ptr (some (y6, (0 : Nat))) :: AV.bool y7 :: Env.sp 29 (AV.slice y8 y9 y10 (4 : Nat) :: AV.int IntKind.i64 y11 :: AV.int IntKind.i64 y12 :: Env.sp 71 []))))
def f10e29 (y0 : Option (Nat × Nat)) (y1 : Nat) (y2 : Nat) (y3 : Int) (y4 : Nat) (y5 : Bool) (y6 : Nat) (y7 : Bool) (y8 : Option (Nat × Nat)) (y9 : Nat) (y10 : Option Nat) (y11 : Int) (y12 : Int) (y13 : Option (Nat × Nat)) (y14 : Int) (y15 : Nat) (y16 : Nat) (y17 : Nat) (y18 : Int) (y19 : Bool) (y20 : Bool) (y21 : Bool) (y22 : Bool) (y23 : Bool) (y24 : Bool) (y25 : Bool) (y26 : Bool) (y27 : Bool) (y28 : Bool) (y29 : Bool) : Env := Env.sp 7 (AV.ptr y0 :: Env.sp 1 (AV.ptr (some (y1, (0 : Nat))) :: Env.sp 1 (AV.ptr (some (y2, (0 : Nat))) :: AV.int IntKind.i64 y3 :: AV.ptr (some (y4, (0 : Nat))) :: AV.bool y5 :: AV.ptr (some (y6, (0 : Nat))) :: AV.bool y7 :: Env.sp 29 (AV.slice y8 y9 y10 (4 : Nat) :: AV.int IntKind.i64 y11 :: AV.int IntKind.i64 y12 :: Env.sp 23 (AV.ptr y13 :: AV.int IntKind.i64 y14 :: AV.ptr (some (y15, (0 : Nat))) :: AV.ptr (some (y16, (0 : Nat))) :: AV.ptr (some (y17, (0 : Nat))) :: AV.int IntKind.i64 y18 :: AV.bool y19 :: AV.bool y20 :: AV.tuple [] :: AV.tuple [] :: AV.tuple [] :: AV.tuple [] :: AV.tuple [] :: AV.tuple [] :: AV.tuple [] :: AV.tuple [] :: AV.tuple [] :: AV.bool y21 :: AV.bool y22 :: AV.tuple [] :: AV.tuple [] :: AV.tuple [] :: AV.tuple [] :: AV.tuple [] :: AV.tuple [] :: AV.tuple [] :: AV.tuple [] :: AV.bool y23 :: AV.bool y24 :: AV.tuple [] :: AV.tuple [] :: AV.tuple [] :: AV.bool y25 :: AV.bool y26 :: AV.tuple [] :: AV.tuple [] :: AV.tuple [] :: AV.tuple [] :: AV.bool y27 :: AV.bool y28 :: AV.tuple [] :: AV.tuple [] :: AV.tuple [] :: AV.tuple [] :: AV.tuple [] :: AV.bool y29 :: Env.sp 2 [])))))
def f10e30 (y0 : Option (Nat × Nat)) (y1 : Nat) (y2 : Nat) (y3 : Int) (y4 : Nat) (y5 : Bool) (y6 : Nat) (y7 : Bool) (y8 : Option (Nat × Nat)) (y9 : Nat) (y10 : Option Nat) (y11 : Int) (y12 : Int) (y13 : Option (Nat × Nat)) (y14 : Int) (y15 : Nat) (y16 : Nat) (y17 : Nat) (y18 : Int) (y19 : Bool) (y20 : Bool) (y21 : Option (Nat × Nat)) (y22 : Nat) (y23 : Int) (y24 : Bool) (y25 : Nat) (y26 : Nat) (y27 : Int) (y28 : Bool) (y29 : Bool) (y30 : Bool) (y31 : Bool) (y32 : Bool) (y33 : Bool) (y34 : Bool) (y35 : Bool) (y36 : Bool) (y37 : Bool) (y38 : Bool) : Env := Env.sp 7 (AV.ptr y0 :: Env.sp 1 (AV.ptr (some (y1, (0 : Nat))) :: Env.sp 1 (AV.ptr (some (y2, (0 : Nat))) :: AV.int IntKind.i64 y3 :: AV.ptr (some (y4, (0 : Nat))) :: AV.bool y5 :: AV.ptr (some (y6, (0 : Nat))) :: AV.bool y7 :: Env.sp 29 (AV.slice y8 y9 y10 (4 : Nat) :: AV.int IntKind.i64 y11 :: AV.int IntKind.i64 y12 :: Env.sp 23 (AV.ptr y13 :: AV.int IntKind.i64 y14 :: AV.ptr (some (y15, (0 : Nat))) :: AV.ptr (some (y16, (0 : Nat))) :: AV.ptr (some (y17, (0 : Nat))) :: AV.int IntKind.i64 y18 :: AV.bool y19 :: AV.bool y20 :: AV.ptr y21 :: AV.ptr (some (y22, (2 : Nat))) :: AV.int IntKind.i64 y23 :: AV.bool y24 :: AV.ptr (some (y25, (0 : Nat))) :: AV.ptr (some (y26, (2 : Nat))) :: AV.int IntKind.i64 y27 :: AV.bool y28 :: AV.bool y29 :: AV.bool y30 :: AV.bool y31 :: AV.tuple [] :: AV.tuple [] :: AV.tuple [] :: AV.tuple [] :: AV.tuple [] :: AV.tuple [] :: AV.tuple [] :: AV.tuple [] :: AV.bool y32 :: AV.bool y33 :: AV.tuple [] :: AV.tuple [] :: AV.tuple [] :: AV.bool y34 :: AV.bool y35 :: AV.tuple [] :: AV.tuple [] :: AV.tuple [] :: AV.tuple [] :: AV.bool y36 :: AV.bool y37 :: AV.tuple [] :: AV.tuple [] :: AV.tuple [] :: AV.tuple [] :: AV.tuple [] :: AV.bool y38 :: Env.sp 2 [])))))
def f10e31 (y0 : Option (Nat × Nat)) (y1 : Nat) (y2 : Nat) (y3 : Int) (y4 : Nat) (y5 : Bool) (y6 : Nat) (y7 : Bool) (y8 : Option (Nat × Nat)) (y9 : Nat) (y10 : Option Nat) (y11 : Int) (y12 : Int) (y13 : Option (Nat × Nat)) (y14 : Int) (y15 : Nat) (y16 : Nat) (y17 : Nat) (y18 : Int) (y19 : Bool) (y20 : Bool) (y21 : Option (Nat × Nat)) (y22 : Nat) (y23 : Int) (y24 : Bool) (y25 : Nat) (y26 : Nat) (y27 : Int) (y28 : Bool) (y29 : Bool) (y30 : Bool) (y31 : Bool) (y32 : Option (Nat × Nat)) (y33 : Int) (y34 : Nat) (y35 : Nat) (y36 : Nat) (y37 : Option (Nat × Nat)) (y38 : Nat) (y39 : Option Nat) (y40 : Int) (y41 : Bool) (y42 : Bool) (y43 : Bool) (y44 : Bool) (y45 : Bool) (y46 : Bool) (y47 : Bool) (y48 : Bool) : Env := Env.sp 7 (AV.ptr y0 :: Env.sp 1 (AV.ptr (some (y1, (0 : Nat))) :: Env.sp 1 (AV.ptr (some (y2, (0 : Nat))) :: AV.int IntKind.i64 y3 :: AV.ptr (some (y4, (0 : Nat))) :: AV.bool y5 :: AV.ptr (some (y6, (0 : Nat))) :: AV.bool y7 :: Env.sp 29 (AV.slice y8 y9 y10 (4 : Nat) :: AV.int IntKind.i64 y11 :: AV.int IntKind.i64 y12 :: Env.sp 23 (AV.ptr y13 :: AV.int IntKind.i64 y14 :: AV.ptr (some (y15, (0 : Nat))) :: AV.ptr (some (y16, (0 : Nat))) :: AV.ptr (some (y17, (0 : Nat))) :: AV.int IntKind.i64 y18 :: AV.bool y19 :: AV.bool y20 :: AV.ptr y21 :: AV.ptr (some (y22, (2 : Nat))) :: AV.int IntKind.i64 y23 :: AV.bool y24 :: AV.ptr (some (y25, (0 : Nat))) :: AV.ptr (some (y26, (2 : Nat))) :: AV.int IntKind.i64 y27 :: AV.bool y28 :: AV.bool y29 :: AV.bool y30 :: AV.bool y31 :: AV.ptr y32 :: AV.int IntKind.i64 y33 :: AV.ptr (some (y34, (0 : Nat))) :: AV.ptr (some (y35, (0 : Nat))) :: AV.ptr (some (y36, (1 : Nat))) :: AV.slice y37 y38 y39 (3 : Nat) :: AV.int IntKind.i64 y40 :: AV.bool y41 :: AV.bool y42 :: AV.bool y43 :: AV.tuple [] :: AV.tuple [] :: AV.tuple [] :: AV.bool y44 :: AV.bool y45 :: AV.tuple [] :: AV.tuple [] :: AV.tuple [] :: AV.tuple [] :: AV.bool y46 :: AV.bool y47 :: AV.tuple [] :: AV.tuple [] :: AV.tuple [] :: AV.tuple [] :: AV.tuple [] :: AV.bool y48 :: Env.sp 2 [])))))
def f10e32 (y0 : Option (Nat × Nat)) (y1 : Nat) (y2 : Nat) (y3 : Int) (y4 : Nat) (y5 : Bool) (y6 : Nat) (y7 : Bool) (y8 : Option (Nat × Nat)) (y9 : Nat) (y10 : Option Nat) (y11 : Int) (y12 : Int) (y13 : Option (Nat × Nat)) (y14 : Int) (y15 : Nat) (y16 : Nat) (y17 : Nat) (y18 : Int) (y19 : Bool) (y20 : Bool) (y21 : Option (Nat × Nat)) (y22 : Nat) (y23 : Int) (y24 : Bool) (y25 : Nat) (y26 : Nat) (y27 : Int) (y28 : Bool) (y29 : Bool) (y30 : Bool) (y31 : Bool) (y32 : Option (Nat × Nat)) (y33 : Int) (y34 : Nat) (y35 : Nat) (y36 : Nat) (y37 : Option (Nat × Nat)) (y38 : Nat) (y39 : Option Nat) (y40 : Int) (y41 : Bool) (y42 : Bool) (y43 : Bool) (y44 : Bool) (y45 : Bool) (y46 : Bool) (y47 : Bool) (y48 : Bool) (y49 : Bool) (y50 : Bool) (y51 : Bool) : Env := Env.sp 7 (AV.ptr y0 :: Env.sp 1 (AV.ptr (some (y1, (0 : Nat))) :: Env.sp 1 (AV.ptr (some (y2, (0 : Nat))) :: AV.int IntKind.i64 y3 :: AV.ptr (some (y4, (0 : Nat))) :: AV.bool y5 :: AV.ptr (some (y6, (0 : Nat))) :: AV.bool y7 :: Env.sp 29 (AV.slice y8 y9 y10 (4 : Nat) :: AV.int IntKind.i64 y11 :: AV.int IntKind.i64 y12 :: Env.sp 23 (AV.ptr y13 :: AV.int IntKind.i64 y14 :: AV.ptr (some (y15, (0 : Nat))) :: AV.ptr (some (y16, (0 : Nat))) :: AV.ptr (some (y17, (0 : Nat))) :: AV.int IntKind.i64 y18 :: AV.bool y19 :: AV.bool y20 :: AV.ptr y21 :: AV.ptr (some (y22, (2 : Nat))) :: AV.int IntKind.i64 y23 :: AV.bool y24 :: AV.ptr (some (y25, (0 : Nat))) :: AV.ptr (some (y26, (2 : Nat))) :: AV.int IntKind.i64 y27 :: AV.bool y28 :: AV.bool y29 :: AV.bool y30 :: AV.bool y31 :: AV.ptr y32 :: AV.int IntKind.i64 y33 :: AV.ptr (some (y34, (0 : Nat))) :: AV.ptr (some (y35, (0 : Nat))) :: AV.ptr (some (y36, (1 : Nat))) :: AV.slice y37 y38 y39 (3 : Nat) :: AV.int IntKind.i64 y40 :: AV.bool y41 :: AV.bool y42 :: AV.bool y43 :: AV.bool y44 :: AV.bool y45 :: AV.bool y46 :: AV.bool y47 :: AV.bool y48 :: AV.tuple [] :: AV.tuple [] :: AV.tuple [] :: AV.tuple [] :: AV.bool y49 :: AV.bool y50 :: AV.tuple [] :: AV.tuple [] :: AV.tuple [] :: AV.tuple [] :: AV.tuple [] :: AV.bool y51 :: Env.sp 2 [])))))
def f10e33 (y0 : Option (Nat × Nat)) (y1 : Nat) (y2 : Nat) (y3 : Int) (y4 : Nat) (y5 : Bool) (y6 : Nat) (y7 : Bool) (y8 : Option (Nat × Nat)) (y9 : Nat) (y10 : Option Nat) (y11 : Int) (y12 : Int) (y13 : Option (Nat × Nat)) (y14 : Int) (y15 : Nat) (y16 : Nat) (y17 : Nat) (y18 : Int) (y19 : Bool) (y20 : Bool) (y21 : Option (Nat × Nat)) (y22 : Nat) (y23 : Int) (y24 : Bool) (y25 : Nat) (y26 : Nat) (y27 : Int) (y28 : Bool) (y29 : Bool) (y30 : Bool) (y31 : Bool) (y32 : Option (Nat × Nat)) (y33 : Int) (y34 : Nat) (y35 : Nat) (y36 : Nat) (y37 : Option (Nat × Nat)) (y38 : Nat) (y39 : Option Nat) (y40 : Int) (y41 : Bool) (y42 : Bool) (y43 : Bool) (y44 : Bool) (y45 : Bool) (y46 : Bool) (y47 : Bool) (y48 : Bool) (y49 : Int) (y50 : Nat) (y51 : Int) (y52 : Bool) (y53 : Bool) (y54 : Bool) (y55 : Bool) : Env := Env.sp 7 (AV.ptr y0 :: Env.sp 1 (AV.ptr (some (y1, (0 : Nat))) :: Env.sp 1 (AV.ptr (some (y2, (0 : Nat))) :: AV.int IntKind.i64 y3 :: AV.ptr (some (y4, (0 : Nat))) :: AV.bool y5 :: AV.ptr (some (y6, (0 : Nat))) :: AV.bool y7 :: Env.sp 29 (AV.slice y8 y9 y10 (4 : Nat) :: AV.int IntKind.i64 y11 :: AV.int IntKind.i64 y12 :: Env.sp 23 (AV.ptr y13 :: AV.int IntKind.i64 y14 :: AV.ptr (some (y15, (0 : Nat))) :: AV.ptr (some (y16, (0 : Nat))) :: AV.ptr (some (y17, (0 : Nat))) :: AV.int IntKind.i64 y18 :: AV.bool y19 :: AV.bool y20 :: AV.ptr y21 :: AV.ptr (some (y22, (2 : Nat))) :: AV.int IntKind.i64 y23 :: AV.bool y24 :: AV.ptr (some (y25, (0 : Nat))) :: AV.ptr (some (y26, (2 : Nat))) :: AV.int IntKind.i64 y27 :: AV.bool y28 :: AV.bool y29 :: AV.bool y30 :: AV.bool y31 :: AV.ptr y32 :: AV.int IntKind.i64 y33 :: AV.ptr (some (y34, (0 : Nat))) :: AV.ptr (some (y35, (0 : Nat))) :: AV.ptr (some (y36, (1 : Nat))) :: AV.slice y37 y38 y39 (3 : Nat) :: AV.int IntKind.i64 y40 :: AV.bool y41 :: AV.bool y42 :: AV.bool y43 :: AV.bool y44 :: AV.bool y45 :: AV.bool y46 :: AV.bool y47 :: AV.bool y48 :: AV.int IntKind.i64 y49 :: AV.ptr (some (y50, (0 : Nat))) :: AV.int IntKind.i64 y51 :: AV.bool y52 :: AV.bool y53 :: AV.bool y54 :: AV.tuple [] :: AV.tuple [] :: AV.tuple [] :: AV.tuple [] :: AV.tuple [] :: AV.bool y55 :: Env.sp 2 [])))))
def f10e34 (y0 : Option (Nat × Nat)) (y1 : Nat) (y2 : Nat) (y3 : Int) (y4 : Nat) (y5 : Bool) (y6 : Nat) (y7 : Bool) (y8 : Option (Nat × Nat)) (y9 : Nat) (y10 : Option Nat) (y11 : Int) (y12 : Int) (y13 : Option (Nat × Nat)) (y14 : Int) (y15 : Nat) (y16 : Nat) (y17 : Nat) (y18 : Int) (y19 : Bool) (y20 : Bool) (y21 : Option (Nat × Nat)) (y22 : Nat) (y23 : Int) (y24 : Bool) (y25 : Nat) (y26 : Nat) (y27 : Int) (y28 : Bool) (y29 : Bool) (y30 : Bool) (y31 : Bool) (y32 : Option (Nat × Nat)) (y33 : Int) (y34 : Nat) (y35 : Nat) (y36 : Nat) (y37 : Option (Nat × Nat)) (y38 : Nat) (y39 : Option Nat) (y40 : Int) (y41 : Bool) (y42 : Bool) (y43 : Bool) (y44 : Bool) (y45 : Bool) (y46 : Bool) (y47 : Bool) (y48 : Bool) (y49 : Int) (y50 : Nat) (y51 : Int) (y52 : Bool) (y53 : Bool) (y54 : Bool) (y55 : Nat) (y56 : ByteArray) (y57 : Nat) (y58 : ByteArray) (y59 : Bool) (y60 : Bool) : Env := Env.sp 7 (AV.ptr y0 :: Env.sp 1 (AV.ptr (some (y1, (0 : Nat))) :: Env.sp 1 (AV.ptr (some (y2, (0 : Nat))) :: AV.int IntKind.i64 y3 :: AV.ptr (some (y4, (0 : Nat))) :: AV.bool y5 :: AV.ptr (some (y6, (0 : Nat))) :: AV.bool y7 :: Env.sp 29 (AV.slice y8 y9 y10 (4 : Nat) :: AV.int IntKind.i64 y11 :: AV.int IntKind.i64 y12 :: Env.sp 23 (AV.ptr y13 :: AV.int IntKind.i64 y14 :: AV.ptr (some (y15, (0 : Nat))) :: AV.ptr (some (y16, (0 : Nat))) :: AV.ptr (some (y17, (0 : Nat))) :: AV.int IntKind.i64 y18 :: AV.bool y19 :: AV.bool y20 :: AV.ptr y21 :: AV.ptr (some (y22, (2 : Nat))) :: AV.int IntKind.i64 y23 :: AV.bool y24 :: AV.ptr (some (y25, (0 : Nat))) :: AV.ptr (some (y26, (2 : Nat))) :: AV.int IntKind.i64 y27 :: AV.bool y28 :: AV.bool y29 :: AV.bool y30 :: AV.bool y31 :: AV.ptr y32 :: AV.int IntKind.i64 y33 :: AV.ptr (some (y34, (0 : Nat))) :: AV.ptr (some (y35, (0 : Nat))) :: AV.ptr (some (y36, (1 : Nat))) :: AV.slice y37 y38 y39 (3 : Nat) :: AV.int IntKind.i64 y40 :: AV.bool y41 :: AV.bool y42 :: AV.bool y43 :: AV.bool y44 :: AV.bool y45 :: AV.bool y46 :: AV.bool y47 :: AV.bool y48 :: AV.int IntKind.i64 y49 :: AV.ptr (some (y50, (0 : Nat))) :: AV.int IntKind.i64 y51 :: AV.bool y52 :: AV.bool y53 :: AV.bool y54 :: AV.ptr (some (y55, (0 : Nat))) :: AV.str y56 :: AV.ptr (some (y57, (2 : Nat))) :: AV.str y58 :: AV.bool y59 :: AV.bool y60 :: Env.sp 2 [])))))
def f10e35 (y0 : Option (Nat × Nat)) (y1 : Nat) (y2 : Option (Nat × Nat)) (y3 : Nat) (y4 : Option Nat) (y5 : Int) (y6 : Int) (y7 : Bool) : Env := Env.sp 7 (AV.ptr y0 :: Env.sp 1 (AV.ptr (some (y1, (0 : Nat))) :: Env.sp 36 (AV.slice y2 y3 y4 (4 : Nat) :: AV.int IntKind.i64 y5 :: AV.int IntKind.i64 y6 :: Env.sp 68 (AV.bool y7 :: Env.sp 2 []))))
def f10e36 (y0 : Bool) (y1 : Option (Nat × Nat)) (y2 : Nat) (y3 : Option (Nat × Nat)) (y4 : Nat) (y5 : Option Nat) (y6 : Int) (y7 : Int) (y8 : Bool) : Env := Env.sp 6 (AV.bool y0 :: AV.ptr y1 :: Env.sp 1 (AV.ptr (some (y2, (0 : Nat))) :: Env.sp 36 (AV.slice y3 y4 y5 (4 : Nat) :: AV.int IntKind.i64 y6 :: AV.int IntKind.i64 y7 :: Env.sp 68 (AV.bool y8 :: Env.sp 2 []))))
def f10e37 (y0 : Option (Nat × Nat)) (y1 : Nat) (y2 : Option (Nat × Nat)) (y3 : Nat) (y4 : Option Nat) (y5 : Int) (y6 : Int) (y7 : Int) : Env := Env.sp 7 (AV.ptr y0 :: Env.sp 1 (AV.ptr (some (y1, (0 : Nat))) :: Env.sp 36 (AV.slice y2 y3 y4 (4 : Nat) :: AV.int IntKind.i64 y5 :: AV.int IntKind.i64 y6 :: Env.sp 69 (AV.int IntKind.i64 y7 :: Env.sp 1 []))))
def f10e38 (y0 : Bool) (y1 : Bool) : Env := Env.sp 6 (AV.bool y0 :: Env.sp 112 (AV.bool y1 :: []))

/- function 10 -/
theorem f10_eq {R : Type} (call : Bool → CallF R) (dem : Bool) (N : Nat) (y0 : Int) (y1 : Int) (y2 : Option (Nat × Nat)) (y3 : Nat) (y4 : Option Nat) (σ : St) (K : AV → St → Option R) :
    bodyK Try.prog call dem N ann 10 [AV.int IntKind.i64 y0, AV.int IntKind.i64 y1, AV.slice y2 y3 y4 (4 : Nat)] σ K = runK Try.prog call dem N f10c0 f10a0 (bodyC Try.prog f10rs K) (f10e0 y0 y1 y2 y3 y4) σ := bodyK_of (fn := ((Try.prog.funcs[10]?).get rfl)) (by kernel_rfl) (by kernel_rfl) (by kernel_rfl) (by kernel_rfl) (by kernel_rfl) (by kernel_rfl)
theorem f10n0 {R : Type} (call : Bool → CallF R) (dem : Bool) (N : Nat) (J : KF R) (e : Env) (σ : St) : runK Try.prog call dem N f10c0 f10a0 J e σ = runK Try.prog call dem N f10c1 f10a1 (seqC (fun K e σ => runK Try.prog call dem N f10c2 f10a2 K e σ) f10a0 J) e σ := runK_seq' (by kernel_rfl) (by kernel_rfl) (by kernel_rfl)
theorem f10r1_f10e0 {R : Type} (call : Bool → CallF R) (dem : Bool) (N : Nat) (y0 : Int) (y1 : Int) (y2 : Option (Nat × Nat)) (y3 : Nat) (y4 : Option Nat) (J : KF R) (σ : St) :
    runK Try.prog call dem N f10c1 f10a1 J (f10e0 y0 y1 y2 y3 y4) σ =
J Ex.normal (f10e1 y0 y1 y2 y3 y4 false) σ := hide (by kernel_rfl)
theorem f10z0_f10e1 (y0 : Int) (y1 : Int) (y2 : Option (Nat × Nat)) (y3 : Nat) (y4 : Option Nat) (y5 : Bool) : Ann.clr f10a0 (f10e1 y0 y1 y2 y3 y4 y5) = f10e0 y0 y1 y2 y3 y4 := hide (by kernel_rfl)
theorem f10n2 {R : Type} (call : Bool → CallF R) (dem : Bool) (N : Nat) (J : KF R) (e : Env) (σ : St) : runK Try.prog call dem N f10c2 f10a2 J e σ = runK Try.prog call dem N f10c3 f10a3 (seqC (fun K e σ => runK Try.prog call dem N f10c4 f10a4 K e σ) f10a2 J) e σ := runK_seq' (by kernel_rfl) (by kernel_rfl) (by kernel_rfl)
theorem f10r3_f10e0 {R : Type} (call : Bool → CallF R) (dem : Bool) (N : Nat) (y0 : Int) (y1 : Int) (y2 : Option (Nat × Nat)) (y3 : Nat) (y4 : Option Nat) (J : KF R) (σ : St) :
    runK Try.prog call dem N f10c3 f10a3 J (f10e0 y0 y1 y2 y3 y4) σ =
call dem (13 : Nat) [AV.int IntKind.i64 y0, AV.int IntKind.i64 y1] σ fun v0 v1 =>
  Option.bind (AV.toTuple v0) fun v2 =>
    if List.length v2 = (2 : Nat) then
      Option.bind (List.head? v2) fun v3 =>
        Option.bind (AV.toPtr v3) fun v4 =>
          Option.bind (List.head? (List.tail v2)) fun v5 =>
            Option.bind (AV.toInt IntKind.i64 v5) fun v6 => J Ex.normal (f10e2 y0 y1 y2 y3 y4 v4 v6 v4 v6 y0 y1 v4 v6 v4 v6) v1
    else none := hide (by kernel_rfl)
theorem f10z2_f10e2 (y0 : Int) (y1 : Int) (y2 : Option (Nat × Nat)) (y3 : Nat) (y4 : Option Nat) (y5 : Option (Nat × Nat)) (y6 : Int) (y7 : Option (Nat × Nat)) (y8 : Int) (y9 : Int) (y10 : Int) (y11 : Option (Nat × Nat)) (y12 : Int) (y13 : Option (Nat × Nat)) (y14 : Int) : Ann.clr f10a2 (f10e2 y0 y1 y2 y3 y4 y5 y6 y7 y8 y9 y10 y11 y12 y13 y14) = f10e3 y0 y1 y2 y3 y4 y5 y6 := hide (by kernel_rfl)
theorem f10n4 {R : Type} (call : Bool → CallF R) (dem : Bool) (N : Nat) (J : KF R) (e : Env) (σ : St) : runK Try.prog call dem N f10c4 f10a4 J e σ = runK Try.prog call dem N f10c5 f10a5 (seqC (fun K e σ => runK Try.prog call dem N f10c6 f10a6 K e σ) f10a4 J) e σ := runK_seq' (by kernel_rfl) (by kernel_rfl) (by kernel_rfl)
theorem f10n5 {R : Type} (call : Bool → CallF R) (dem : Bool) (N : Nat) (J : KF R) (e : Env) (σ : St) : runK Try.prog call dem N f10c5 f10a5 J e σ = runK Try.prog call dem N f10c7 f10a7 (seqC (fun K e σ => runK Try.prog call dem N f10c8 f10a8 K e σ) f10a5 J) e σ := runK_seq' (by kernel_rfl) (by kernel_rfl) (by kernel_rfl)
theorem f10r7_f10e3 {R : Type} (call : Bool → CallF R) (dem : Bool) (N : Nat) (y0 : Int) (y1 : Int) (y2 : Option (Nat × Nat)) (y3 : Nat) (y4 : Option Nat) (y5 : Option (Nat × Nat)) (y6 : Int) (J : KF R) (σ : St) :
    runK Try.prog call dem N f10c7 f10a7 J (f10e3 y0 y1 y2 y3 y4 y5 y6) σ =
call dem (35 : Nat) [AV.int IntKind.i64 y0, AV.int IntKind.i64 y1] σ fun v0 v1 =>
  Option.bind (AV.toBool v0) fun v2 =>
    if (!(y6 == (0 : Int)) == v2) = true then
      J Ex.normal (f10e4 y0 y1 y2 y3 y4 y5 y6 y6 (y6 == (0 : Int)) y0 y1 v2 (!(y6 == (0 : Int)) == v2) true true) v1
    else
      J Ex.normal
        (f10e5 y0 y1 y2 y3 y4 y5 y6 y6 (y6 == (0 : Int)) y0 y1 v2 (!(y6 == (0 : Int)) == v2) false y5 (Option.isNone y5) y6 (y6 != (0 : Int))
          (!Option.isNone y5 == (y6 != (0 : Int))) !Option.isNone y5 == (y6 != (0 : Int)))
        v1 := hide (by kernel_rfl)
theorem f10z5_f10e4 (y0 : Int) (y1 : Int) (y2 : Option (Nat × Nat)) (y3 : Nat) (y4 : Option Nat) (y5 : Option (Nat × Nat)) (y6 : Int) (y7 : Int) (y8 : Bool) (y9 : Int) (y10 : Int) (y11 : Bool) (y12 : Bool) (y13 : Bool) (y14 : Bool) : Ann.clr f10a5 (f10e4 y0 y1 y2 y3 y4 y5 y6 y7 y8 y9 y10 y11 y12 y13 y14) = f10e6 y2 y3 y4 y5 y14 := hide (by kernel_rfl)
theorem f10x8_f10e6 {R : Type} (call : Bool → CallF R) (dem : Bool) (N : Nat) (y0 : Option (Nat × Nat)) (y1 : Nat) (y2 : Option Nat) (y3 : Option (Nat × Nat)) (y4 : Bool) (J : KF R) (σ : St) : runK Try.prog call dem N f10c8 f10a8 J (f10e6 y0 y1 y2 y3 y4) σ = if y4 = true then runK Try.prog call dem N f10c9 f10a9 (condC f10a8 J) (f10e6 y0 y1 y2 y3 y4) σ else runK Try.prog call dem N f10c10 f10a10 (condC f10a8 J) (f10e6 y0 y1 y2 y3 y4) σ := runK_cond' (o := Operand.tmp (35 : Nat)) (by kernel_rfl) (by kernel_rfl) (by kernel_rfl) (by kernel_rfl)
theorem f10n9 {R : Type} (call : Bool → CallF R) (dem : Bool) (N : Nat) (J : KF R) (e : Env) (σ : St) : runK Try.prog call dem N f10c9 f10a9 J e σ = runK Try.prog call dem N f10c11 f10a11 (seqC (fun K e σ => runK Try.prog call dem N f10c12 f10a12 K e σ) f10a9 J) e σ := runK_seq' (by kernel_rfl) (by kernel_rfl) (by kernel_rfl)
theorem f10r11_f10e6 {R : Type} (call : Bool → CallF R) (dem : Bool) (N : Nat) (y0 : Option (Nat × Nat)) (y1 : Nat) (y2 : Option Nat) (y3 : Option (Nat × Nat)) (y4 : Bool) (J : KF R) (σ : St) :
    runK Try.prog call dem N f10c11 f10a11 J (f10e6 y0 y1 y2 y3 y4) σ =
J Ex.normal (f10e7 y0 y1 y2 false y3 y4) σ := hide (by kernel_rfl)
theorem f10z9_f10e7 (y0 : Option (Nat × Nat)) (y1 : Nat) (y2 : Option Nat) (y3 : Bool) (y4 : Option (Nat × Nat)) (y5 : Bool) : Ann.clr f10a9 (f10e7 y0 y1 y2 y3 y4 y5) = f10e8 y3 := hide (by kernel_rfl)
theorem f10y12_f10e8 {R : Type} (call : Bool → CallF R) (dem : Bool) (N : Nat) (y0 : Bool) (J : KF R) (σ : St) : runK Try.prog call dem N f10c12 f10a12 J (f10e8 y0) σ = J .ret (f10e8 y0) σ := runK_ret' (by kernel_rfl) (by kernel_rfl)
theorem f10n10 {R : Type} (call : Bool → CallF R) (dem : Bool) (N : Nat) (J : KF R) (e : Env) (σ : St) : runK Try.prog call dem N f10c10 f10a10 J e σ = J .normal e σ := runK_skip' (by kernel_rfl)
theorem f10z8_f10e6 (y0 : Option (Nat × Nat)) (y1 : Nat) (y2 : Option Nat) (y3 : Option (Nat × Nat)) (y4 : Bool) : Ann.clr f10a8 (f10e6 y0 y1 y2 y3 y4) = f10e9 y0 y1 y2 y3 := hide (by kernel_rfl)
theorem f10z5_f10e5 (y0 : Int) (y1 : Int) (y2 : Option (Nat × Nat)) (y3 : Nat) (y4 : Option Nat) (y5 : Option (Nat × Nat)) (y6 : Int) (y7 : Int) (y8 : Bool) (y9 : Int) (y10 : Int) (y11 : Bool) (y12 : Bool) (y13 : Bool) (y14 : Option (Nat × Nat)) (y15 : Bool) (y16 : Int) (y17 : Bool) (y18 : Bool) (y19 : Bool) : Ann.clr f10a5 (f10e5 y0 y1 y2 y3 y4 y5 y6 y7 y8 y9 y10 y11 y12 y13 y14 y15 y16 y17 y18 y19) = f10e6 y2 y3 y4 y5 y19 := hide (by kernel_rfl)
theorem f10z4_f10e9 (y0 : Option (Nat × Nat)) (y1 : Nat) (y2 : Option Nat) (y3 : Option (Nat × Nat)) : Ann.clr f10a4 (f10e9 y0 y1 y2 y3) = f10e9 y0 y1 y2 y3 := hide (by kernel_rfl)
theorem f10n6 {R : Type} (call : Bool → CallF R) (dem : Bool) (N : Nat) (J : KF R) (e : Env) (σ : St) : runK Try.prog call dem N f10c6 f10a6 J e σ = runK Try.prog call dem N f10c13 f10a13 (seqC (fun K e σ => runK Try.prog call dem N f10c14 f10a14 K e σ) f10a6 J) e σ := runK_seq' (by kernel_rfl) (by kernel_rfl) (by kernel_rfl)
theorem f10n13 {R : Type} (call : Bool → CallF R) (dem : Bool) (N : Nat) (J : KF R) (e : Env) (σ : St) : runK Try.prog call dem N f10c13 f10a13 J e σ = runK Try.prog call dem N f10c15 f10a15 (seqC (fun K e σ => runK Try.prog call dem N f10c16 f10a16 K e σ) f10a13 J) e σ := runK_seq' (by kernel_rfl) (by kernel_rfl) (by kernel_rfl)
theorem f10r15_f10e9 {R : Type} (call : Bool → CallF R) (dem : Bool) (N : Nat) (y0 : Option (Nat × Nat)) (y1 : Nat) (y2 : Option Nat) (y3 : Option (Nat × Nat)) (J : KF R) (σ : St) :
    runK Try.prog call dem N f10c15 f10a15 J (f10e9 y0 y1 y2 y3) σ =
if Option.isNone y3 = true then J Ex.normal (f10e10 y0 y1 y2 y3 y3 (Option.isNone y3) true true) σ
else
  J Ex.normal
    (f10e11 y0 y1 y2 y3 y3 (Option.isNone y3) false y0 y1 y2 (↑y1 : Int) (decide ((↑y1 : Int) > (200 : Int))) (decide ((↑y1 : Int) > (200 : Int)))) σ := hide (by kernel_rfl)
theorem f10z13_f10e10 (y0 : Option (Nat × Nat)) (y1 : Nat) (y2 : Option Nat) (y3 : Option (Nat × Nat)) (y4 : Option (Nat × Nat)) (y5 : Bool) (y6 : Bool) (y7 : Bool) : Ann.clr f10a13 (f10e10 y0 y1 y2 y3 y4 y5 y6 y7) = f10e12 y0 y1 y2 y3 y7 := hide (by kernel_rfl)
theorem f10x16_f10e12 {R : Type} (call : Bool → CallF R) (dem : Bool) (N : Nat) (y0 : Option (Nat × Nat)) (y1 : Nat) (y2 : Option Nat) (y3 : Option (Nat × Nat)) (y4 : Bool) (J : KF R) (σ : St) : runK Try.prog call dem N f10c16 f10a16 J (f10e12 y0 y1 y2 y3 y4) σ = if y4 = true then runK Try.prog call dem N f10c17 f10a17 (condC f10a16 J) (f10e12 y0 y1 y2 y3 y4) σ else runK Try.prog call dem N f10c18 f10a18 (condC f10a16 J) (f10e12 y0 y1 y2 y3 y4) σ := runK_cond' (o := Operand.tmp (42 : Nat)) (by kernel_rfl) (by kernel_rfl) (by kernel_rfl) (by kernel_rfl)
theorem f10n17 {R : Type} (call : Bool → CallF R) (dem : Bool) (N : Nat) (J : KF R) (e : Env) (σ : St) : runK Try.prog call dem N f10c17 f10a17 J e σ = runK Try.prog call dem N f10c19 f10a19 (seqC (fun K e σ => runK Try.prog call dem N f10c20 f10a20 K e σ) f10a17 J) e σ := runK_seq' (by kernel_rfl) (by kernel_rfl) (by kernel_rfl)
theorem f10r19_f10e12 {R : Type} (call : Bool → CallF R) (dem : Bool) (N : Nat) (y0 : Option (Nat × Nat)) (y1 : Nat) (y2 : Option Nat) (y3 : Option (Nat × Nat)) (y4 : Bool) (J : KF R) (σ : St) :
    runK Try.prog call dem N f10c19 f10a19 J (f10e12 y0 y1 y2 y3 y4) σ =
call dem (15 : Nat) [] σ fun v0 v1 => Option.bind (AV.toBool v0) fun v2 => J Ex.normal (f10e13 y0 y1 y2 v2 y3 y4 v2) v1 := hide (by kernel_rfl)
theorem f10z17_f10e13 (y0 : Option (Nat × Nat)) (y1 : Nat) (y2 : Option Nat) (y3 : Bool) (y4 : Option (Nat × Nat)) (y5 : Bool) (y6 : Bool) : Ann.clr f10a17 (f10e13 y0 y1 y2 y3 y4 y5 y6) = f10e8 y3 := hide (by kernel_rfl)
theorem f10y20_f10e8 {R : Type} (call : Bool → CallF R) (dem : Bool) (N : Nat) (y0 : Bool) (J : KF R) (σ : St) : runK Try.prog call dem N f10c20 f10a20 J (f10e8 y0) σ = J .ret (f10e8 y0) σ := runK_ret' (by kernel_rfl) (by kernel_rfl)
theorem f10n18 {R : Type} (call : Bool → CallF R) (dem : Bool) (N : Nat) (J : KF R) (e : Env) (σ : St) : runK Try.prog call dem N f10c18 f10a18 J e σ = J .normal e σ := runK_skip' (by kernel_rfl)
theorem f10z16_f10e12 (y0 : Option (Nat × Nat)) (y1 : Nat) (y2 : Option Nat) (y3 : Option (Nat × Nat)) (y4 : Bool) : Ann.clr f10a16 (f10e12 y0 y1 y2 y3 y4) = f10e9 y0 y1 y2 y3 := hide (by kernel_rfl)
theorem f10z13_f10e11 (y0 : Option (Nat × Nat)) (y1 : Nat) (y2 : Option Nat) (y3 : Option (Nat × Nat)) (y4 : Option (Nat × Nat)) (y5 : Bool) (y6 : Bool) (y7 : Option (Nat × Nat)) (y8 : Nat) (y9 : Option Nat) (y10 : Int) (y11 : Bool) (y12 : Bool) : Ann.clr f10a13 (f10e11 y0 y1 y2 y3 y4 y5 y6 y7 y8 y9 y10 y11 y12) = f10e12 y0 y1 y2 y3 y12 := hide (by kernel_rfl)
theorem f10z6_f10e9 (y0 : Option (Nat × Nat)) (y1 : Nat) (y2 : Option Nat) (y3 : Option (Nat × Nat)) : Ann.clr f10a6 (f10e9 y0 y1 y2 y3) = f10e9 y0 y1 y2 y3 := hide (by kernel_rfl)
theorem f10n14 {R : Type} (call : Bool → CallF R) (dem : Bool) (N : Nat) (J : KF R) (e : Env) (σ : St) : runK Try.prog call dem N f10c14 f10a14 J e σ = runK Try.prog call dem N f10c21 f10a21 (seqC (fun K e σ => runK Try.prog call dem N f10c22 f10a22 K e σ) f10a14 J) e σ := runK_seq' (by kernel_rfl) (by kernel_rfl) (by kernel_rfl)
theorem f10r21_f10e9 {R : Type} (call : Bool → CallF R) (dem : Bool) (N : Nat) (y0 : Option (Nat × Nat)) (y1 : Nat) (y2 : Option Nat) (y3 : Option (Nat × Nat)) (J : KF R) (σ : St) :
    runK Try.prog call dem N f10c21 f10a21 J (f10e9 y0 y1 y2 y3) σ =
J Ex.normal (f10e14 y0 y1 y2 y3 (St.next σ) (0 : Int) none (0 : Nat) (some (0 : Nat)) none (0 : Nat) (some (0 : Nat)) (St.next σ))
  (St.new σ
    (Blk.cells [AV.int IntKind.i64 (0 : Int), AV.slice none (0 : Nat) (some (0 : Nat)) (3 : Nat), AV.slice none (0 : Nat) (some (0 : Nat)) (3 : Nat)]
      true)) := hide (by kernel_rfl)
theorem f10z14_f10e14 (y0 : Option (Nat × Nat)) (y1 : Nat) (y2 : Option Nat) (y3 : Option (Nat × Nat)) (y4 : Nat) (y5 : Int) (y6 : Option (Nat × Nat)) (y7 : Nat) (y8 : Option Nat) (y9 : Option (Nat × Nat)) (y10 : Nat) (y11 : Option Nat) (y12 : Nat) : Ann.clr f10a14 (f10e14 y0 y1 y2 y3 y4 y5 y6 y7 y8 y9 y10 y11 y12) = f10e15 y0 y1 y2 y3 y4 := hide (by kernel_rfl)
theorem f10n22 {R : Type} (call : Bool → CallF R) (dem : Bool) (N : Nat) (J : KF R) (e : Env) (σ : St) : runK Try.prog call dem N f10c22 f10a22 J e σ = runK Try.prog call dem N f10c23 f10a23 (seqC (fun K e σ => runK Try.prog call dem N f10c24 f10a24 K e σ) f10a22 J) e σ := runK_seq' (by kernel_rfl) (by kernel_rfl) (by kernel_rfl)
theorem f10n23 {R : Type} (call : Bool → CallF R) (dem : Bool) (N : Nat) (J : KF R) (e : Env) (σ : St) : runK Try.prog call dem N f10c23 f10a23 J e σ = runK Try.prog call dem N f10c25 f10a25 (seqC (fun K e σ => runK Try.prog call dem N f10c26 f10a26 K e σ) f10a23 J) e σ := runK_seq' (by kernel_rfl) (by kernel_rfl) (by kernel_rfl)
theorem f10r25_f10e15 {R : Type} (call : Bool → CallF R) (dem : Bool) (N : Nat) (y0 : Option (Nat × Nat)) (y1 : Nat) (y2 : Option Nat) (y3 : Option (Nat × Nat)) (y4 : Nat) (J : KF R) (σ : St) :
    runK Try.prog call dem N f10c25 f10a25 J (f10e15 y0 y1 y2 y3 y4) σ =
J Ex.normal (f10e16 y0 y1 y2 y3 y4 y0 y1 y2 (↑y1 : Int) (0 : Int)) σ := hide (by kernel_rfl)
theorem f10z23_f10e16 (y0 : Option (Nat × Nat)) (y1 : Nat) (y2 : Option Nat) (y3 : Option (Nat × Nat)) (y4 : Nat) (y5 : Option (Nat × Nat)) (y6 : Nat) (y7 : Option Nat) (y8 : Int) (y9 : Int) : Ann.clr f10a23 (f10e16 y0 y1 y2 y3 y4 y5 y6 y7 y8 y9) = f10e17 y3 y4 y5 y6 y7 y8 y9 := hide (by kernel_rfl)
theorem f10n26 {R : Type} (call : Bool → CallF R) (dem : Bool) (N : Nat) (J : KF R) (e : Env) (σ : St) : runK Try.prog call dem N f10c26 f10a26 J e σ = runK Try.prog call dem N f10c27 f10a27 (blockC 0 f10a26 J) e σ := runK_block' (by kernel_rfl) (by kernel_rfl)
theorem f10L27_eq {R : Type} (call : Bool → CallF R) (dem : Bool) (N : Nat) (J : KF R) (e : Env) (σ : St) : f10L27 call dem N J e σ = runK Try.prog call dem N f10c28 f10a28 J e σ := hide rfl
theorem f10z27_f10e17 (y0 : Option (Nat × Nat)) (y1 : Nat) (y2 : Option (Nat × Nat)) (y3 : Nat) (y4 : Option Nat) (y5 : Int) (y6 : Int) : Ann.clr f10a27 (f10e17 y0 y1 y2 y3 y4 y5 y6) = f10e17 y0 y1 y2 y3 y4 y5 y6 := hide (by kernel_rfl)
theorem f10l27_f10e17 {R : Type} (call : Bool → CallF R) (dem : Bool) (N : Nat) (y0 : Option (Nat × Nat)) (y1 : Nat) (y2 : Option (Nat × Nat)) (y3 : Nat) (y4 : Option Nat) (y5 : Int) (y6 : Int) (J : KF R) (σ : St) : runK Try.prog call dem N f10c27 f10a27 J (f10e17 y0 y1 y2 y3 y4 y5 y6) σ = loopK (f10L27 call dem N) f10a27 N J (f10e17 y0 y1 y2 y3 y4 y5 y6) σ := runK_loop' (by kernel_rfl) (by kernel_rfl) (by kernel_rfl)
theorem f10n28 {R : Type} (call : Bool → CallF R) (dem : Bool) (N : Nat) (J : KF R) (e : Env) (σ : St) : runK Try.prog call dem N f10c28 f10a28 J e σ = runK Try.prog call dem N f10c29 f10a29 (seqC (fun K e σ => runK Try.prog call dem N f10c30 f10a30 K e σ) f10a28 J) e σ := runK_seq' (by kernel_rfl) (by kernel_rfl) (by kernel_rfl)
theorem f10r29_f10e17 {R : Type} (call : Bool → CallF R) (dem : Bool) (N : Nat) (y0 : Option (Nat × Nat)) (y1 : Nat) (y2 : Option (Nat × Nat)) (y3 : Nat) (y4 : Option Nat) (y5 : Int) (y6 : Int) (J : KF R) (σ : St) :
    runK Try.prog call dem N f10c29 f10a29 J (f10e17 y0 y1 y2 y3 y4 y5 y6) σ =
J Ex.normal (f10e18 y0 y1 y2 y3 y4 y5 y6 (decide (y6 < y5))) σ := hide (by kernel_rfl)
theorem f10z28_f10e18 (y0 : Option (Nat × Nat)) (y1 : Nat) (y2 : Option (Nat × Nat)) (y3 : Nat) (y4 : Option Nat) (y5 : Int) (y6 : Int) (y7 : Bool) : Ann.clr f10a28 (f10e18 y0 y1 y2 y3 y4 y5 y6 y7) = f10e18 y0 y1 y2 y3 y4 y5 y6 y7 := hide (by kernel_rfl)
theorem f10n30 {R : Type} (call : Bool → CallF R) (dem : Bool) (N : Nat) (J : KF R) (e : Env) (σ : St) : runK Try.prog call dem N f10c30 f10a30 J e σ = runK Try.prog call dem N f10c31 f10a31 (seqC (fun K e σ => runK Try.prog call dem N f10c32 f10a32 K e σ) f10a30 J) e σ := runK_seq' (by kernel_rfl) (by kernel_rfl) (by kernel_rfl)
theorem f10x31_f10e18 {R : Type} (call : Bool → CallF R) (dem : Bool) (N : Nat) (y0 : Option (Nat × Nat)) (y1 : Nat) (y2 : Option (Nat × Nat)) (y3 : Nat) (y4 : Option Nat) (y5 : Int) (y6 : Int) (y7 : Bool) (J : KF R) (σ : St) : runK Try.prog call dem N f10c31 f10a31 J (f10e18 y0 y1 y2 y3 y4 y5 y6 y7) σ = if y7 = true then runK Try.prog call dem N f10c33 f10a33 (condC f10a31 J) (f10e18 y0 y1 y2 y3 y4 y5 y6 y7) σ else runK Try.prog call dem N f10c34 f10a34 (condC f10a31 J) (f10e18 y0 y1 y2 y3 y4 y5 y6 y7) σ := runK_cond' (o := Operand.tmp (49 : Nat)) (by kernel_rfl) (by kernel_rfl) (by kernel_rfl) (by kernel_rfl)
theorem f10n33 {R : Type} (call : Bool → CallF R) (dem : Bool) (N : Nat) (J : KF R) (e : Env) (σ : St) : runK Try.prog call dem N f10c33 f10a33 J e σ = J .normal e σ := runK_skip' (by kernel_rfl)
theorem f10z31_f10e18 (y0 : Option (Nat × Nat)) (y1 : Nat) (y2 : Option (Nat × Nat)) (y3 : Nat) (y4 : Option Nat) (y5 : Int) (y6 : Int) (y7 : Bool) : Ann.clr f10a31 (f10e18 y0 y1 y2 y3 y4 y5 y6 y7) = f10e17 y0 y1 y2 y3 y4 y5 y6 := hide (by kernel_rfl)
theorem f10y34_f10e18 {R : Type} (call : Bool → CallF R) (dem : Bool) (N : Nat) (y0 : Option (Nat × Nat)) (y1 : Nat) (y2 : Option (Nat × Nat)) (y3 : Nat) (y4 : Option Nat) (y5 : Int) (y6 : Int) (y7 : Bool) (J : KF R) (σ : St) : runK Try.prog call dem N f10c34 f10a34 J (f10e18 y0 y1 y2 y3 y4 y5 y6 y7) σ = J (.exit 0) (f10e19) σ := runK_exit' (by kernel_rfl) (by kernel_rfl)
theorem f10z30_f10e17 (y0 : Option (Nat × Nat)) (y1 : Nat) (y2 : Option (Nat × Nat)) (y3 : Nat) (y4 : Option Nat) (y5 : Int) (y6 : Int) : Ann.clr f10a30 (f10e17 y0 y1 y2 y3 y4 y5 y6) = f10e17 y0 y1 y2 y3 y4 y5 y6 := hide (by kernel_rfl)
theorem f10n32 {R : Type} (call : Bool → CallF R) (dem : Bool) (N : Nat) (J : KF R) (e : Env) (σ : St) : runK Try.prog call dem N f10c32 f10a32 J e σ = runK Try.prog call dem N f10c35 f10a35 (seqC (fun K e σ => runK Try.prog call dem N f10c36 f10a36 K e σ) f10a32 J) e σ := runK_seq' (by kernel_rfl) (by kernel_rfl) (by kernel_rfl)
theorem f10n35 {R : Type} (call : Bool → CallF R) (dem : Bool) (N : Nat) (J : KF R) (e : Env) (σ : St) : runK Try.prog call dem N f10c35 f10a35 J e σ = runK Try.prog call dem N f10c37 f10a37 (blockC 1 f10a35 J) e σ := runK_block' (by kernel_rfl) (by kernel_rfl)
theorem f10n37 {R : Type} (call : Bool → CallF R) (dem : Bool) (N : Nat) (J : KF R) (e : Env) (σ : St) : runK Try.prog call dem N f10c37 f10a37 J e σ = runK Try.prog call dem N f10c38 f10a38 (seqC (fun K e σ => runK Try.prog call dem N f10c39 f10a39 K e σ) f10a37 J) e σ := runK_seq' (by kernel_rfl) (by kernel_rfl) (by kernel_rfl)
theorem f10r38_f10e17 {R : Type} (call : Bool → CallF R) (dem : Bool) (N : Nat) (y0 : Option (Nat × Nat)) (y1 : Nat) (y2 : Option (Nat × Nat)) (y3 : Nat) (y4 : Option Nat) (y5 : Int) (y6 : Int) (J : KF R) (σ : St) :
    runK Try.prog call dem N f10c38 f10a38 J (f10e17 y0 y1 y2 y3 y4 y5 y6) σ =
if (0 : Int) ≤ y6 ∧ y6 < (↑y3 : Int) then
  Option.bind y2 fun v0 =>
    Option.bind (St.ld σ (Prod.fst v0) (Prod.snd v0 + Int.toNat y6 * (4 : Nat))) fun v1 =>
      Option.bind (AV.toInt IntKind.i64 v1) fun v2 =>
        Option.bind (St.ld σ (Prod.fst v0) (Prod.snd v0 + Int.toNat y6 * (4 : Nat) + (1 : Nat))) fun v3 =>
          Option.bind (AV.toInt IntKind.i64 v3) fun v4 =>
            Option.bind (St.ld σ (Prod.fst v0) (Prod.snd v0 + Int.toNat y6 * (4 : Nat) + (2 : Nat))) fun v5 =>
              Option.bind (AV.toInt IntKind.i64 v5) fun v6 =>
                Option.bind (St.ld σ (Prod.fst v0) (Prod.snd v0 + Int.toNat y6 * (4 : Nat) + (3 : Nat))) fun v7 =>
                  Option.bind (AV.toStr v7) fun v8 =>
                    Option.bind
                      (St.st
                        (St.new σ
                          (Blk.cells
                            [AV.int IntKind.i64 (0 : Int), AV.int IntKind.i64 (0 : Int), AV.int IntKind.i64 (0 : Int), AV.str (ByteArray.mk #[])]
                            true))
                        (St.next σ) (0 : Nat) [AV.int IntKind.i64 v2, AV.int IntKind.i64 v4, AV.int IntKind.i64 v6, AV.str v8])
                      fun v9 =>
                      J Ex.normal (f10e20 y0 y1 (St.next σ) y2 y3 y4 y5 y6 (some (Prod.fst v0, Prod.snd v0 + Int.toNat y6 * (4 : Nat))) v2 v4 v6 v8)
                        v9
else none := hide (by kernel_rfl)
theorem f10z37_f10e20 (y0 : Option (Nat × Nat)) (y1 : Nat) (y2 : Nat) (y3 : Option (Nat × Nat)) (y4 : Nat) (y5 : Option Nat) (y6 : Int) (y7 : Int) (y8 : Option (Nat × Nat)) (y9 : Int) (y10 : Int) (y11 : Int) (y12 : ByteArray) : Ann.clr f10a37 (f10e20 y0 y1 y2 y3 y4 y5 y6 y7 y8 y9 y10 y11 y12) = f10e21 y0 y1 y2 y3 y4 y5 y6 y7 := hide (by kernel_rfl)
theorem f10n39 {R : Type} (call : Bool → CallF R) (dem : Bool) (N : Nat) (J : KF R) (e : Env) (σ : St) : runK Try.prog call dem N f10c39 f10a39 J e σ = runK Try.prog call dem N f10c40 f10a40 (seqC (fun K e σ => runK Try.prog call dem N f10c41 f10a41 K e σ) f10a39 J) e σ := runK_seq' (by kernel_rfl) (by kernel_rfl) (by kernel_rfl)
theorem f10n40 {R : Type} (call : Bool → CallF R) (dem : Bool) (N : Nat) (J : KF R) (e : Env) (σ : St) : runK Try.prog call dem N f10c40 f10a40 J e σ = runK Try.prog call dem N f10c42 f10a42 (seqC (fun K e σ => runK Try.prog call dem N f10c43 f10a43 K e σ) f10a40 J) e σ := runK_seq' (by kernel_rfl) (by kernel_rfl) (by kernel_rfl)
theorem f10r42_f10e21 {R : Type} (call : Bool → CallF R) (dem : Bool) (N : Nat) (y0 : Option (Nat × Nat)) (y1 : Nat) (y2 : Nat) (y3 : Option (Nat × Nat)) (y4 : Nat) (y5 : Option Nat) (y6 : Int) (y7 : Int) (J : KF R) (σ : St) :
    runK Try.prog call dem N f10c42 f10a42 J (f10e21 y0 y1 y2 y3 y4 y5 y6 y7) σ =
Option.bind (St.ld σ y2 (0 : Nat)) fun v0 =>
  Option.bind (AV.toInt IntKind.i64 v0) fun v1 =>
    Option.bind (St.ld σ y2 (1 : Nat)) fun v2 =>
      Option.bind (AV.toInt IntKind.i64 v2) fun v3 =>
        Option.bind (St.ld σ y2 (2 : Nat)) fun v4 =>
          Option.bind (AV.toInt IntKind.i64 v4) fun v5 =>
            Option.bind (St.ld σ y2 (3 : Nat)) fun v6 =>
              Option.bind (AV.toStr v6) fun v7 =>
                call dem (36 : Nat)
                  [AV.ptr y0, AV.ptr (some (y1, (0 : Nat))), AV.agg [AV.int IntKind.i64 v1, AV.int IntKind.i64 v3, AV.int IntKind.i64 v5, AV.str v7]]
                  σ fun v8 v9 => Option.bind (AV.toBool v8) fun v10 => J Ex.normal (f10e22 y0 y1 y2 y3 y4 y5 y6 y7 y0 y1 v1 v3 v5 v7 v10 !v10) v9 := hide (by kernel_rfl)
theorem f10z40_f10e22 (y0 : Option (Nat × Nat)) (y1 : Nat) (y2 : Nat) (y3 : Option (Nat × Nat)) (y4 : Nat) (y5 : Option Nat) (y6 : Int) (y7 : Int) (y8 : Option (Nat × Nat)) (y9 : Nat) (y10 : Int) (y11 : Int) (y12 : Int) (y13 : ByteArray) (y14 : Bool) (y15 : Bool) : Ann.clr f10a40 (f10e22 y0 y1 y2 y3 y4 y5 y6 y7 y8 y9 y10 y11 y12 y13 y14 y15) = f10e23 y0 y1 y2 y3 y4 y5 y6 y7 y15 := hide (by kernel_rfl)
theorem f10x43_f10e23 {R : Type} (call : Bool → CallF R) (dem : Bool) (N : Nat) (y0 : Option (Nat × Nat)) (y1 : Nat) (y2 : Nat) (y3 : Option (Nat × Nat)) (y4 : Nat) (y5 : Option Nat) (y6 : Int) (y7 : Int) (y8 : Bool) (J : KF R) (σ : St) : runK Try.prog call dem N f10c43 f10a43 J (f10e23 y0 y1 y2 y3 y4 y5 y6 y7 y8) σ = if y8 = true then runK Try.prog call dem N f10c44 f10a44 (condC f10a43 J) (f10e23 y0 y1 y2 y3 y4 y5 y6 y7 y8) σ else runK Try.prog call dem N f10c45 f10a45 (condC f10a43 J) (f10e23 y0 y1 y2 y3 y4 y5 y6 y7 y8) σ := runK_cond' (o := Operand.tmp (56 : Nat)) (by kernel_rfl) (by kernel_rfl) (by kernel_rfl) (by kernel_rfl)
theorem f10n44 {R : Type} (call : Bool → CallF R) (dem : Bool) (N : Nat) (J : KF R) (e : Env) (σ : St) : runK Try.prog call dem N f10c44 f10a44 J e σ = runK Try.prog call dem N f10c46 f10a46 (seqC (fun K e σ => runK Try.prog call dem N f10c47 f10a47 K e σ) f10a44 J) e σ := runK_seq' (by kernel_rfl) (by kernel_rfl) (by kernel_rfl)
theorem f10r46_f10e23 {R : Type} (call : Bool → CallF R) (dem : Bool) (N : Nat) (y0 : Option (Nat × Nat)) (y1 : Nat) (y2 : Nat) (y3 : Option (Nat × Nat)) (y4 : Nat) (y5 : Option Nat) (y6 : Int) (y7 : Int) (y8 : Bool) (J : KF R) (σ : St) :
    runK Try.prog call dem N f10c46 f10a46 J (f10e23 y0 y1 y2 y3 y4 y5 y6 y7 y8) σ =
J Ex.normal (f10e24 false y0 y1 y2 y3 y4 y5 y6 y7 y8) σ := hide (by kernel_rfl)
theorem f10z44_f10e24 (y0 : Bool) (y1 : Option (Nat × Nat)) (y2 : Nat) (y3 : Nat) (y4 : Option (Nat × Nat)) (y5 : Nat) (y6 : Option Nat) (y7 : Int) (y8 : Int) (y9 : Bool) : Ann.clr f10a44 (f10e24 y0 y1 y2 y3 y4 y5 y6 y7 y8 y9) = f10e8 y0 := hide (by kernel_rfl)
theorem f10y47_f10e8 {R : Type} (call : Bool → CallF R) (dem : Bool) (N : Nat) (y0 : Bool) (J : KF R) (σ : St) : runK Try.prog call dem N f10c47 f10a47 J (f10e8 y0) σ = J .ret (f10e8 y0) σ := runK_ret' (by kernel_rfl) (by kernel_rfl)
theorem f10n45 {R : Type} (call : Bool → CallF R) (dem : Bool) (N : Nat) (J : KF R) (e : Env) (σ : St) : runK Try.prog call dem N f10c45 f10a45 J e σ = J .normal e σ := runK_skip' (by kernel_rfl)
theorem f10z43_f10e23 (y0 : Option (Nat × Nat)) (y1 : Nat) (y2 : Nat) (y3 : Option (Nat × Nat)) (y4 : Nat) (y5 : Option Nat) (y6 : Int) (y7 : Int) (y8 : Bool) : Ann.clr f10a43 (f10e23 y0 y1 y2 y3 y4 y5 y6 y7 y8) = f10e21 y0 y1 y2 y3 y4 y5 y6 y7 := hide (by kernel_rfl)
theorem f10z39_f10e21 (y0 : Option (Nat × Nat)) (y1 : Nat) (y2 : Nat) (y3 : Option (Nat × Nat)) (y4 : Nat) (y5 : Option Nat) (y6 : Int) (y7 : Int) : Ann.clr f10a39 (f10e21 y0 y1 y2 y3 y4 y5 y6 y7) = f10e21 y0 y1 y2 y3 y4 y5 y6 y7 := hide (by kernel_rfl)
theorem f10n41 {R : Type} (call : Bool → CallF R) (dem : Bool) (N : Nat) (J : KF R) (e : Env) (σ : St) : runK Try.prog call dem N f10c41 f10a41 J e σ = runK Try.prog call dem N f10c48 f10a48 (seqC (fun K e σ => runK Try.prog call dem N f10c49 f10a49 K e σ) f10a41 J) e σ := runK_seq' (by kernel_rfl) (by kernel_rfl) (by kernel_rfl)
theorem f10r48_f10e21 {R : Type} (call : Bool → CallF R) (dem : Bool) (N : Nat) (y0 : Option (Nat × Nat)) (y1 : Nat) (y2 : Nat) (y3 : Option (Nat × Nat)) (y4 : Nat) (y5 : Option Nat) (y6 : Int) (y7 : Int) (J : KF R) (σ : St) :
    runK Try.prog call dem N f10c48 f10a48 J (f10e21 y0 y1 y2 y3 y4 y5 y6 y7) σ =
Option.bind (St.ld σ y2 (2 : Nat)) fun v0 =>
  Option.bind (AV.toInt IntKind.i64 v0) fun v1 =>
    call dem (34 : Nat) [AV.ptr y0, AV.int IntKind.i64 v1] σ fun v2 v3 =>
      Option.bind (AV.toTuple v2) fun v4 =>
        if List.length v4 = (3 : Nat) then
          Option.bind (List.head? v4) fun v5 =>
            Option.bind (AV.toInt IntKind.i64 v5) fun v6 =>
              Option.bind (List.head? (List.tail v4)) fun v7 =>
                Option.bind (AV.toAgg v7) fun v8 =>
                  if List.length v8 = (3 : Nat) then
                    Option.bind (List.head? v8) fun v9 =>
                      Option.bind (AV.toStr v9) fun v10 =>
                        Option.bind (List.head? (List.tail v8)) fun v11 =>
                          Option.bind (AV.toInt IntKind.i64 v11) fun v12 =>
                            Option.bind (List.head? (List.tail (List.tail v8))) fun v13 =>
                              Option.bind (AV.toSl (2 : Nat) v13) fun v14 =>
                                Option.bind (List.head? (List.tail (List.tail v4))) fun v15 =>
                                  Option.bind (AV.toBool v15) fun v16 =>
                                    Option.bind
                                      (St.st
                                        (St.new v3
                                          (Blk.cells
                                            [AV.str (ByteArray.mk #[]), AV.int IntKind.i64 (0 : Int),
                                              AV.slice none (0 : Nat) (some (0 : Nat)) (2 : Nat)]
                                            true))
                                        (St.next v3) (0 : Nat)
                                        [AV.str v10, AV.int IntKind.i64 v12, AV.slice (Sl.o v14) (Sl.len v14) (Sl.cap v14) (2 : Nat)])
                                      fun v17 =>
                                      J Ex.normal
                                        (f10e25 y0 y1 y2 v6 (St.next v3) v16 y3 y4 y5 y6 y7 v6 v10 v12 (Sl.o v14) (Sl.len v14) (Sl.cap v14) v16 y0 y2
                                          v1 v6 v10 v12 (Sl.o v14) (Sl.len v14) (Sl.cap v14) v16 v6 v10 v12 (Sl.o v14) (Sl.len v14) (Sl.cap v14) v16)
                                        v17
                  else none
        else none := hide (by kernel_rfl)
theorem f10z41_f10e25 (y0 : Option (Nat × Nat)) (y1 : Nat) (y2 : Nat) (y3 : Int) (y4 : Nat) (y5 : Bool) (y6 : Option (Nat × Nat)) (y7 : Nat) (y8 : Option Nat) (y9 : Int) (y10 : Int) (y11 : Int) (y12 : ByteArray) (y13 : Int) (y14 : Option (Nat × Nat)) (y15 : Nat) (y16 : Option Nat) (y17 : Bool) (y18 : Option (Nat × Nat)) (y19 : Nat) (y20 : Int) (y21 : Int) (y22 : ByteArray) (y23 : Int) (y24 : Option (Nat × Nat)) (y25 : Nat) (y26 : Option Nat) (y27 : Bool) (y28 : Int) (y29 : ByteArray) (y30 : Int) (y31 : Option (Nat × Nat)) (y32 : Nat) (y33 : Option Nat) (y34 : Bool) : Ann.clr f10a41 (f10e25 y0 y1 y2 y3 y4 y5 y6 y7 y8 y9 y10 y11 y12 y13 y14 y15 y16 y17 y18 y19 y20 y21 y22 y23 y24 y25 y26 y27 y28 y29 y30 y31 y32 y33 y34) = f10e26 y0 y1 y2 y3 y4 y5 y6 y7 y8 y9 y10 := hide (by kernel_rfl)
theorem f10n49 {R : Type} (call : Bool → CallF R) (dem : Bool) (N : Nat) (J : KF R) (e : Env) (σ : St) : runK Try.prog call dem N f10c49 f10a49 J e σ = runK Try.prog call dem N f10c50 f10a50 (seqC (fun K e σ => runK Try.prog call dem N f10c51 f10a51 K e σ) f10a49 J) e σ := runK_seq' (by kernel_rfl) (by kernel_rfl) (by kernel_rfl)
theorem f10r50_f10e26 {R : Type} (call : Bool → CallF R) (dem : Bool) (N : Nat) (y0 : Option (Nat × Nat)) (y1 : Nat) (y2 : Nat) (y3 : Int) (y4 : Nat) (y5 : Bool) (y6 : Option (Nat × Nat)) (y7 : Nat) (y8 : Option Nat) (y9 : Int) (y10 : Int) (J : KF R) (σ : St) :
    runK Try.prog call dem N f10c50 f10a50 J (f10e26 y0 y1 y2 y3 y4 y5 y6 y7 y8 y9 y10) σ =
Option.bind (St.ld σ y2 (2 : Nat)) fun v0 =>
  Option.bind (AV.toInt IntKind.i64 v0) fun v1 =>
    call dem (37 : Nat) [AV.ptr (some (y1, (0 : Nat))), AV.int IntKind.i64 v1] σ fun v2 v3 =>
      Option.bind (AV.toTuple v2) fun v4 =>
        if List.length v4 = (2 : Nat) then
          Option.bind (List.head? v4) fun v5 =>
            Option.bind (AV.toAgg v5) fun v6 =>
              if List.length v6 = (3 : Nat) then
                Option.bind (List.head? v6) fun v7 =>
                  Option.bind (AV.toInt IntKind.i64 v7) fun v8 =>
                    Option.bind (List.head? (List.tail v6)) fun v9 =>
                      Option.bind (AV.toInt IntKind.i64 v9) fun v10 =>
                        Option.bind (List.head? (List.tail (List.tail v6))) fun v11 =>
                          Option.bind (AV.toStr v11) fun v12 =>
                            Option.bind (List.head? (List.tail v4)) fun v13 =>
                              Option.bind (AV.toBool v13) fun v14 =>
                                Option.bind
                                  (St.st
                                    (St.new v3
                                      (Blk.cells [AV.int IntKind.i64 (0 : Int), AV.int IntKind.i64 (0 : Int), AV.str (ByteArray.mk #[])] true))
                                    (St.next v3) (0 : Nat) [AV.int IntKind.i64 v8, AV.int IntKind.i64 v10, AV.str v12])
                                  fun v15 =>
                                  J Ex.normal
                                    (f10e27 y0 y1 y2 y3 y4 y5 (St.next v3) v14 y6 y7 y8 y9 y10 v8 v10 v12 v14 y1 y2 v1 v8 v10 v12 v14 v8 v10 v12 v14)
                                    v15
              else none
        else none := hide (by kernel_rfl)
theorem f10z49_f10e27 (y0 : Option (Nat × Nat)) (y1 : Nat) (y2 : Nat) (y3 : Int) (y4 : Nat) (y5 : Bool) (y6 : Nat) (y7 : Bool) (y8 : Option (Nat × Nat)) (y9 : Nat) (y10 : Option Nat) (y11 : Int) (y12 : Int) (y13 : Int) (y14 : Int) (y15 : ByteArray) (y16 : Bool) (y17 : Nat) (y18 : Nat) (y19 : Int) (y20 : Int) (y21 : Int) (y22 : ByteArray) (y23 : Bool) (y24 : Int) (y25 : Int) (y26 : ByteArray) (y27 : Bool) : Ann.clr f10a49 (f10e27 y0 y1 y2 y3 y4 y5 y6 y7 y8 y9 y10 y11 y12 y13 y14 y15 y16 y17 y18 y19 y20 y21 y22 y23 y24 y25 y26 y27) = f10e28 y0 y1 y2 y3 y4 y5 y6 y7 y8 y9 y10 y11 y12 := hide (by kernel_rfl)
theorem f10n51 {R : Type} (call : Bool → CallF R) (dem : Bool) (N : Nat) (J : KF R) (e : Env) (σ : St) : runK Try.prog call dem N f10c51 f10a51 J e σ = runK Try.prog call dem N f10c52 f10a52 (seqC (fun K e σ => runK Try.prog call dem N f10c53 f10a53 K e σ) f10a51 J) e σ := runK_seq' (by kernel_rfl) (by kernel_rfl) (by kernel_rfl)
theorem f10r52_f10e28 {R : Type} (call : Bool → CallF R) (dem : Bool) (N : Nat) (y0 : Option (Nat × Nat)) (y1 : Nat) (y2 : Nat) (y3 : Int) (y4 : Nat) (y5 : Bool) (y6 : Nat) (y7 : Bool) (y8 : Option (Nat × Nat)) (y9 : Nat) (y10 : Option Nat) (y11 : Int) (y12 : Int) (J : KF R) (σ : St) :
    runK Try.prog call dem N f10c52 f10a52 J (f10e28 y0 y1 y2 y3 y4 y5 y6 y7 y8 y9 y10 y11 y12) σ =
call false (18 : Nat) [AV.ptr y0] σ fun v0 v1 =>
  Option.bind (AV.toInt IntKind.i64 v0) fun v2 =>
    Option.bind (St.ld v1 y1 (0 : Nat)) fun v3 =>
      Option.bind (AV.toInt IntKind.i64 v3) fun v4 =>
        if St.same σ y1 (0 : Nat) [AV.int IntKind.i64 v4] = true then
          if (v2 != v4) = true then
            J Ex.normal
              (f10e29 y0 y1 y2 y3 y4 y5 y6 y7 y8 y9 y10 y11 y12 y0 v2 y1 y1 y1 v4 (v2 != v4) true true true true true true true true true true) v1
          else
            Option.bind (St.ld v1 y2 (2 : Nat)) fun v5 =>
              Option.bind (AV.toInt IntKind.i64 v5) fun v6 =>
                call false (16 : Nat) [AV.ptr y0, AV.int IntKind.i64 v6] v1 fun v7 v8 =>
                  Option.bind (AV.toBool v7) fun v9 =>
                    Option.bind (St.ld v8 y2 (2 : Nat)) fun v10 =>
                      Option.bind (AV.toInt IntKind.i64 v10) fun v11 =>
                        if St.same v1 y2 (2 : Nat) [AV.int IntKind.i64 v11] = true then
                          call false (38 : Nat) [AV.ptr (some (y1, (0 : Nat))), AV.int IntKind.i64 v11] v8 fun v12 v13 =>
                            Option.bind (AV.toBool v12) fun v14 =>
                              if (!v9 == v14) = true then
                                J Ex.normal
                                  (f10e30 y0 y1 y2 y3 y4 y5 y6 y7 y8 y9 y10 y11 y12 y0 v2 y1 y1 y1 v4 (v2 != v4) false y0 y2 v6 v9 y1 y2 v11 v14
                                    (!v9 == v14) (!v9 == v14) true true true true true true true true)
                                  v13
                              else
                                call false (39 : Nat) [AV.ptr y0] v13 fun v15 v16 =>
                                  Option.bind (AV.toInt IntKind.i64 v15) fun v17 =>
                                    Option.bind (St.ld v16 y1 (1 : Nat)) fun v18 =>
                                      Option.bind (AV.toSl (3 : Nat) v18) fun v19 =>
                                        if St.same v13 y1 (1 : Nat) [AV.slice (Sl.o v19) (Sl.len v19) (Sl.cap v19) (3 : Nat)] = true then
                                          if (v17 != (↑(Sl.len v19) : Int)) = true then
                                            J Ex.normal
                                              (f10e31 y0 y1 y2 y3 y4 y5 y6 y7 y8 y9 y10 y11 y12 y0 v2 y1 y1 y1 v4 (v2 != v4) false y0 y2 v6 v9 y1 y2
                                                v11 v14 (!v9 == v14) (!v9 == v14) false y0 v17 y1 y1 y1 (Sl.o v19) (Sl.len v19) (Sl.cap v19)
                                                (↑(Sl.len v19) : Int) (v17 != (↑(Sl.len v19) : Int)) (v17 != (↑(Sl.len v19) : Int)) true true true
                                                true true true)
                                              v16
                                          else
                                            if (!y5 == y7) = true then
                                              J Ex.normal
                                                (f10e32 y0 y1 y2 y3 y4 y5 y6 y7 y8 y9 y10 y11 y12 y0 v2 y1 y1 y1 v4 (v2 != v4) false y0 y2 v6 v9 y1 y2
                                                  v11 v14 (!v9 == v14) (!v9 == v14) false y0 v17 y1 y1 y1 (Sl.o v19) (Sl.len v19) (Sl.cap v19)
                                                  (↑(Sl.len v19) : Int) (v17 != (↑(Sl.len v19) : Int)) (v17 != (↑(Sl.len v19) : Int)) false y5 y7
                                                  (!y5 == y7) (!y5 == y7) true true true true)
                                                v16
                                            else
                                              Option.bind (St.ld v16 y6 (0 : Nat)) fun v20 =>
                                                Option.bind (AV.toInt IntKind.i64 v20) fun v21 =>
                                                  if (y3 != v21) = true then
                                                    J Ex.normal
                                                      (f10e33 y0 y1 y2 y3 y4 y5 y6 y7 y8 y9 y10 y11 y12 y0 v2 y1 y1 y1 v4 (v2 != v4) false y0 y2 v6 v9
                                                        y1 y2 v11 v14 (!v9 == v14) (!v9 == v14) false y0 v17 y1 y1 y1 (Sl.o v19) (Sl.len v19)
                                                        (Sl.cap v19) (↑(Sl.len v19) : Int) (v17 != (↑(Sl.len v19) : Int))
                                                        (v17 != (↑(Sl.len v19) : Int)) false y5 y7 (!y5 == y7) (!y5 == y7) false y3 y6 v21 (y3 != v21)
                                                        (y3 != v21) true true)
                                                      v16
                                                  else
                                                    Option.bind (St.ld v16 y4 (0 : Nat)) fun v22 =>
                                                      Option.bind (AV.toStr v22) fun v23 =>
                                                        Option.bind (St.ld v16 y6 (2 : Nat)) fun v24 =>
                                                          Option.bind (AV.toStr v24) fun v25 =>
                                                            J Ex.normal
                                                              (f10e34 y0 y1 y2 y3 y4 y5 y6 y7 y8 y9 y10 y11 y12 y0 v2 y1 y1 y1 v4 (v2 != v4) false y0
                                                                y2 v6 v9 y1 y2 v11 v14 (!v9 == v14) (!v9 == v14) false y0 v17 y1 y1 y1 (Sl.o v19)
                                                                (Sl.len v19) (Sl.cap v19) (↑(Sl.len v19) : Int) (v17 != (↑(Sl.len v19) : Int))
                                                                (v17 != (↑(Sl.len v19) : Int)) false y5 y7 (!y5 == y7) (!y5 == y7) false y3 y6 v21
                                                                (y3 != v21) (y3 != v21) false y4 v23 y6 v25 (!decide (v23 = v25)) !decide (v23 = v25))
                                                              v16
                                        else none
                        else none
        else none := hide (by kernel_rfl)
theorem f10z51_f10e29 (y0 : Option (Nat × Nat)) (y1 : Nat) (y2 : Nat) (y3 : Int) (y4 : Nat) (y5 : Bool) (y6 : Nat) (y7 : Bool) (y8 : Option (Nat × Nat)) (y9 : Nat) (y10 : Option Nat) (y11 : Int) (y12 : Int) (y13 : Option (Nat × Nat)) (y14 : Int) (y15 : Nat) (y16 : Nat) (y17 : Nat) (y18 : Int) (y19 : Bool) (y20 : Bool) (y21 : Bool) (y22 : Bool) (y23 : Bool) (y24 : Bool) (y25 : Bool) (y26 : Bool) (y27 : Bool) (y28 : Bool) (y29 : Bool) : Ann.clr f10a51 (f10e29 y0 y1 y2 y3 y4 y5 y6 y7 y8 y9 y10 y11 y12 y13 y14 y15 y16 y17 y18 y19 y20 y21 y22 y23 y24 y25 y26 y27 y28 y29) = f10e35 y0 y1 y8 y9 y10 y11 y12 y29 := hide (by kernel_rfl)
theorem f10x53_f10e35 {R : Type} (call : Bool → CallF R) (dem : Bool) (N : Nat) (y0 : Option (Nat × Nat)) (y1 : Nat) (y2 : Option (Nat × Nat)) (y3 : Nat) (y4 : Option Nat) (y5 : Int) (y6 : Int) (y7 : Bool) (J : KF R) (σ : St) : runK Try.prog call dem N f10c53 f10a53 J (f10e35 y0 y1 y2 y3 y4 y5 y6 y7) σ = if y7 = true then runK Try.prog call dem N f10c54 f10a54 (condC f10a53 J) (f10e35 y0 y1 y2 y3 y4 y5 y6 y7) σ else runK Try.prog call dem N f10c55 f10a55 (condC f10a53 J) (f10e35 y0 y1 y2 y3 y4 y5 y6 y7) σ := runK_cond' (o := Operand.tmp (117 : Nat)) (by kernel_rfl) (by kernel_rfl) (by kernel_rfl) (by kernel_rfl)
theorem f10n54 {R : Type} (call : Bool → CallF R) (dem : Bool) (N : Nat) (J : KF R) (e : Env) (σ : St) : runK Try.prog call dem N f10c54 f10a54 J e σ = runK Try.prog call dem N f10c56 f10a56 (seqC (fun K e σ => runK Try.prog call dem N f10c57 f10a57 K e σ) f10a54 J) e σ := runK_seq' (by kernel_rfl) (by kernel_rfl) (by kernel_rfl)
theorem f10r56_f10e35 {R : Type} (call : Bool → CallF R) (dem : Bool) (N : Nat) (y0 : Option (Nat × Nat)) (y1 : Nat) (y2 : Option (Nat × Nat)) (y3 : Nat) (y4 : Option Nat) (y5 : Int) (y6 : Int) (y7 : Bool) (J : KF R) (σ : St) :
    runK Try.prog call dem N f10c56 f10a56 J (f10e35 y0 y1 y2 y3 y4 y5 y6 y7) σ =
J Ex.normal (f10e36 false y0 y1 y2 y3 y4 y5 y6 y7) σ := hide (by kernel_rfl)
theorem f10z54_f10e36 (y0 : Bool) (y1 : Option (Nat × Nat)) (y2 : Nat) (y3 : Option (Nat × Nat)) (y4 : Nat) (y5 : Option Nat) (y6 : Int) (y7 : Int) (y8 : Bool) : Ann.clr f10a54 (f10e36 y0 y1 y2 y3 y4 y5 y6 y7 y8) = f10e8 y0 := hide (by kernel_rfl)
theorem f10y57_f10e8 {R : Type} (call : Bool → CallF R) (dem : Bool) (N : Nat) (y0 : Bool) (J : KF R) (σ : St) : runK Try.prog call dem N f10c57 f10a57 J (f10e8 y0) σ = J .ret (f10e8 y0) σ := runK_ret' (by kernel_rfl) (by kernel_rfl)
theorem f10n55 {R : Type} (call : Bool → CallF R) (dem : Bool) (N : Nat) (J : KF R) (e : Env) (σ : St) : runK Try.prog call dem N f10c55 f10a55 J e σ = J .normal e σ := runK_skip' (by kernel_rfl)
theorem f10z53_f10e35 (y0 : Option (Nat × Nat)) (y1 : Nat) (y2 : Option (Nat × Nat)) (y3 : Nat) (y4 : Option Nat) (y5 : Int) (y6 : Int) (y7 : Bool) : Ann.clr f10a53 (f10e35 y0 y1 y2 y3 y4 y5 y6 y7) = f10e17 y0 y1 y2 y3 y4 y5 y6 := hide (by kernel_rfl)
theorem f10z51_f10e30 (y0 : Option (Nat × Nat)) (y1 : Nat) (y2 : Nat) (y3 : Int) (y4 : Nat) (y5 : Bool) (y6 : Nat) (y7 : Bool) (y8 : Option (Nat × Nat)) (y9 : Nat) (y10 : Option Nat) (y11 : Int) (y12 : Int) (y13 : Option (Nat × Nat)) (y14 : Int) (y15 : Nat) (y16 : Nat) (y17 : Nat) (y18 : Int) (y19 : Bool) (y20 : Bool) (y21 : Option (Nat × Nat)) (y22 : Nat) (y23 : Int) (y24 : Bool) (y25 : Nat) (y26 : Nat) (y27 : Int) (y28 : Bool) (y29 : Bool) (y30 : Bool) (y31 : Bool) (y32 : Bool) (y33 : Bool) (y34 : Bool) (y35 : Bool) (y36 : Bool) (y37 : Bool) (y38 : Bool) : Ann.clr f10a51 (f10e30 y0 y1 y2 y3 y4 y5 y6 y7 y8 y9 y10 y11 y12 y13 y14 y15 y16 y17 y18 y19 y20 y21 y22 y23 y24 y25 y26 y27 y28 y29 y30 y31 y32 y33 y34 y35 y36 y37
  y38) = f10e35 y0 y1 y8 y9 y10 y11 y12 y38 := hide (by kernel_rfl)
theorem f10z51_f10e31 (y0 : Option (Nat × Nat)) (y1 : Nat) (y2 : Nat) (y3 : Int) (y4 : Nat) (y5 : Bool) (y6 : Nat) (y7 : Bool) (y8 : Option (Nat × Nat)) (y9 : Nat) (y10 : Option Nat) (y11 : Int) (y12 : Int) (y13 : Option (Nat × Nat)) (y14 : Int) (y15 : Nat) (y16 : Nat) (y17 : Nat) (y18 : Int) (y19 : Bool) (y20 : Bool) (y21 : Option (Nat × Nat)) (y22 : Nat) (y23 : Int) (y24 : Bool) (y25 : Nat) (y26 : Nat) (y27 : Int) (y28 : Bool) (y29 : Bool) (y30 : Bool) (y31 : Bool) (y32 : Option (Nat × Nat)) (y33 : Int) (y34 : Nat) (y35 : Nat) (y36 : Nat) (y37 : Option (Nat × Nat)) (y38 : Nat) (y39 : Option Nat) (y40 : Int) (y41 : Bool) (y42 : Bool) (y43 : Bool) (y44 : Bool) (y45 : Bool) (y46 : Bool) (y47 : Bool) (y48 : Bool) : Ann.clr f10a51 (f10e31 y0 y1 y2 y3 y4 y5 y6 y7 y8 y9 y10 y11 y12 y13 y14 y15 y16 y17 y18 y19 y20 y21 y22 y23 y24 y25 y26 y27 y28 y29 y30 y31 y32 y33 y34 y35 y36 y37
  y38 y39 y40 y41 y42 y43 y44 y45 y46 y47 y48) = f10e35 y0 y1 y8 y9 y10 y11 y12 y48 := hide (by kernel_rfl)
theorem f10z51_f10e32 (y0 : Option (Nat × Nat)) (y1 : Nat) (y2 : Nat) (y3 : Int) (y4 : Nat) (y5 : Bool) (y6 : Nat) (y7 : Bool) (y8 : Option (Nat × Nat)) (y9 : Nat) (y10 : Option Nat) (y11 : Int) (y12 : Int) (y13 : Option (Nat × Nat)) (y14 : Int) (y15 : Nat) (y16 : Nat) (y17 : Nat) (y18 : Int) (y19 : Bool) (y20 : Bool) (y21 : Option (Nat × Nat)) (y22 : Nat) (y23 : Int) (y24 : Bool) (y25 : Nat) (y26 : Nat) (y27 : Int) (y28 : Bool) (y29 : Bool) (y30 : Bool) (y31 : Bool) (y32 : Option (Nat × Nat)) (y33 : Int) (y34 : Nat) (y35 : Nat) (y36 : Nat) (y37 : Option (Nat × Nat)) (y38 : Nat) (y39 : Option Nat) (y40 : Int) (y41 : Bool) (y42 : Bool) (y43 : Bool) (y44 : Bool) (y45 : Bool) (y46 : Bool) (y47 : Bool) (y48 : Bool) (y49 : Bool) (y50 : Bool) (y51 : Bool) : Ann.clr f10a51 (f10e32 y0 y1 y2 y3 y4 y5 y6 y7 y8 y9 y10 y11 y12 y13 y14 y15 y16 y17 y18 y19 y20 y21 y22 y23 y24 y25 y26 y27 y28 y29 y30 y31 y32 y33 y34 y35 y36 y37
  y38 y39 y40 y41 y42 y43 y44 y45 y46 y47 y48 y49 y50 y51) = f10e35 y0 y1 y8 y9 y10 y11 y12 y51 := hide (by kernel_rfl)
theorem f10z51_f10e33 (y0 : Option (Nat × Nat)) (y1 : Nat) (y2 : Nat) (y3 : Int) (y4 : Nat) (y5 : Bool) (y6 : Nat) (y7 : Bool) (y8 : Option (Nat × Nat)) (y9 : Nat) (y10 : Option Nat) (y11 : Int) (y12 : Int) (y13 : Option (Nat × Nat)) (y14 : Int) (y15 : Nat) (y16 : Nat) (y17 : Nat) (y18 : Int) (y19 : Bool) (y20 : Bool) (y21 : Option (Nat × Nat)) (y22 : Nat) (y23 : Int) (y24 : Bool) (y25 : Nat) (y26 : Nat) (y27 : Int) (y28 : Bool) (y29 : Bool) (y30 : Bool) (y31 : Bool) (y32 : Option (Nat × Nat)) (y33 : Int) (y34 : Nat) (y35 : Nat) (y36 : Nat) (y37 : Option (Nat × Nat)) (y38 : Nat) (y39 : Option Nat) (y40 : Int) (y41 : Bool) (y42 : Bool) (y43 : Bool) (y44 : Bool) (y45 : Bool) (y46 : Bool) (y47 : Bool) (y48 : Bool) (y49 : Int) (y50 : Nat) (y51 : Int) (y52 : Bool) (y53 : Bool) (y54 : Bool) (y55 : Bool) : Ann.clr f10a51 (f10e33 y0 y1 y2 y3 y4 y5 y6 y7 y8 y9 y10 y11 y12 y13 y14 y15 y16 y17 y18 y19 y20 y21 y22 y23 y24 y25 y26 y27 y28 y29 y30 y31 y32 y33 y34 y35 y36 y37
  y38 y39 y40 y41 y42 y43 y44 y45 y46 y47 y48 y49 y50 y51 y52 y53 y54 y55) = f10e35 y0 y1 y8 y9 y10 y11 y12 y55 := hide (by kernel_rfl)
theorem f10z51_f10e34 (y0 : Option (Nat × Nat)) (y1 : Nat) (y2 : Nat) (y3 : Int) (y4 : Nat) (y5 : Bool) (y6 : Nat) (y7 : Bool) (y8 : Option (Nat × Nat)) (y9 : Nat) (y10 : Option Nat) (y11 : Int) (y12 : Int) (y13 : Option (Nat × Nat)) (y14 : Int) (y15 : Nat) (y16 : Nat) (y17 : Nat) (y18 : Int) (y19 : Bool) (y20 : Bool) (y21 : Option (Nat × Nat)) (y22 : Nat) (y23 : Int) (y24 : Bool) (y25 : Nat) (y26 : Nat) (y27 : Int) (y28 : Bool) (y29 : Bool) (y30 : Bool) (y31 : Bool) (y32 : Option (Nat × Nat)) (y33 : Int) (y34 : Nat) (y35 : Nat) (y36 : Nat) (y37 : Option (Nat × Nat)) (y38 : Nat) (y39 : Option Nat) (y40 : Int) (y41 : Bool) (y42 : Bool) (y43 : Bool) (y44 : Bool) (y45 : Bool) (y46 : Bool) (y47 : Bool) (y48 : Bool) (y49 : Int) (y50 : Nat) (y51 : Int) (y52 : Bool) (y53 : Bool) (y54 : Bool) (y55 : Nat) (y56 : ByteArray) (y57 : Nat) (y58 : ByteArray) (y59 : Bool) (y60 : Bool) : Ann.clr f10a51 (f10e34 y0 y1 y2 y3 y4 y5 y6 y7 y8 y9 y10 y11 y12 y13 y14 y15 y16 y17 y18 y19 y20 y21 y22 y23 y24 y25 y26 y27 y28 y29 y30 y31 y32 y33 y34 y35 y36 y37
  y38 y39 y40 y41 y42 y43 y44 y45 y46 y47 y48 y49 y50 y51 y52 y53 y54 y55 y56 y57 y58 y59 y60) = f10e35 y0 y1 y8 y9 y10 y11 y12 y60 := hide (by kernel_rfl)
theorem f10z35_f10e17 (y0 : Option (Nat × Nat)) (y1 : Nat) (y2 : Option (Nat × Nat)) (y3 : Nat) (y4 : Option Nat) (y5 : Int) (y6 : Int) : Ann.clr f10a35 (f10e17 y0 y1 y2 y3 y4 y5 y6) = f10e17 y0 y1 y2 y3 y4 y5 y6 := hide (by kernel_rfl)
theorem f10z32_f10e17 (y0 : Option (Nat × Nat)) (y1 : Nat) (y2 : Option (Nat × Nat)) (y3 : Nat) (y4 : Option Nat) (y5 : Int) (y6 : Int) : Ann.clr f10a32 (f10e17 y0 y1 y2 y3 y4 y5 y6) = f10e17 y0 y1 y2 y3 y4 y5 y6 := hide (by kernel_rfl)
theorem f10r36_f10e17 {R : Type} (call : Bool → CallF R) (dem : Bool) (N : Nat) (y0 : Option (Nat × Nat)) (y1 : Nat) (y2 : Option (Nat × Nat)) (y3 : Nat) (y4 : Option Nat) (y5 : Int) (y6 : Int) (J : KF R) (σ : St) :
    runK Try.prog call dem N f10c36 f10a36 J (f10e17 y0 y1 y2 y3 y4 y5 y6) σ =
J Ex.normal (f10e37 y0 y1 y2 y3 y4 y5 (IntKind.wrap IntKind.i64 (y6 + (1 : Int))) (IntKind.wrap IntKind.i64 (y6 + (1 : Int)))) σ := hide (by kernel_rfl)
theorem f10z27_f10e37 (y0 : Option (Nat × Nat)) (y1 : Nat) (y2 : Option (Nat × Nat)) (y3 : Nat) (y4 : Option Nat) (y5 : Int) (y6 : Int) (y7 : Int) : Ann.clr f10a27 (f10e37 y0 y1 y2 y3 y4 y5 y6 y7) = f10e17 y0 y1 y2 y3 y4 y5 y6 := hide (by kernel_rfl)
theorem f10z26_f10e19 : Ann.clr f10a26 (f10e19) = f10e19 := hide (by kernel_rfl)
theorem f10z22_f10e19 : Ann.clr f10a22 (f10e19) = f10e19 := hide (by kernel_rfl)
theorem f10n24 {R : Type} (call : Bool → CallF R) (dem : Bool) (N : Nat) (J : KF R) (e : Env) (σ : St) : runK Try.prog call dem N f10c24 f10a24 J e σ = runK Try.prog call dem N f10c58 f10a58 (seqC (fun K e σ => runK Try.prog call dem N f10c59 f10a59 K e σ) f10a24 J) e σ := runK_seq' (by kernel_rfl) (by kernel_rfl) (by kernel_rfl)
theorem f10r58_f10e19 {R : Type} (call : Bool → CallF R) (dem : Bool) (N : Nat) (J : KF R) (σ : St) :
    runK Try.prog call dem N f10c58 f10a58 J (f10e19) σ =
call dem (15 : Nat) [] σ fun v0 v1 => Option.bind (AV.toBool v0) fun v2 => J Ex.normal (f10e38 v2 v2) v1 := hide (by kernel_rfl)
theorem f10z24_f10e38 (y0 : Bool) (y1 : Bool) : Ann.clr f10a24 (f10e38 y0 y1) = f10e8 y0 := hide (by kernel_rfl)
theorem f10y59_f10e8 {R : Type} (call : Bool → CallF R) (dem : Bool) (N : Nat) (y0 : Bool) (J : KF R) (σ : St) : runK Try.prog call dem N f10c59 f10a59 J (f10e8 y0) σ = J .ret (f10e8 y0) σ := runK_ret' (by kernel_rfl) (by kernel_rfl)
theorem f10b_f10e8_r {R : Type} (y0 : Bool) (σ : St) (K : AV → St → Option R) : bodyC Try.prog f10rs K (Ex.ret) (f10e8 y0) σ =
K (AV.bool y0) σ := hide (by kernel_rfl)
attribute [go_sem] f10_eq f10n0 f10r1_f10e0 f10z0_f10e1 f10n2 f10r3_f10e0 f10z2_f10e2 f10n4 f10n5 f10r7_f10e3 f10z5_f10e4 f10x8_f10e6 f10n9 f10r11_f10e6 f10z9_f10e7 f10y12_f10e8 f10n10 f10z8_f10e6 f10z5_f10e5 f10z4_f10e9 f10n6 f10n13 f10r15_f10e9 f10z13_f10e10 f10x16_f10e12 f10n17 f10r19_f10e12 f10z17_f10e13 f10y20_f10e8 f10n18 f10z16_f10e12 f10z13_f10e11 f10z6_f10e9 f10n14 f10r21_f10e9 f10z14_f10e14 f10n22 f10n23 f10r25_f10e15 f10z23_f10e16 f10n26 f10L27_eq f10z27_f10e17 f10l27_f10e17 f10n28 f10r29_f10e17 f10z28_f10e18 f10n30 f10x31_f10e18 f10n33 f10z31_f10e18 f10y34_f10e18 f10z30_f10e17 f10n32 f10n35 f10n37 f10r38_f10e17 f10z37_f10e20 f10n39 f10n40 f10r42_f10e21 f10z40_f10e22 f10x43_f10e23 f10n44 f10r46_f10e23 f10z44_f10e24 f10y47_f10e8 f10n45 f10z43_f10e23 f10z39_f10e21 f10n41 f10r48_f10e21 f10z41_f10e25 f10n49 f10r50_f10e26 f10z49_f10e27 f10n51 f10r52_f10e28 f10z51_f10e29 f10x53_f10e35 f10n54 f10r56_f10e35 f10z54_f10e36 f10y57_f10e8 f10n55 f10z53_f10e35 f10z51_f10e30 f10z51_f10e31 f10z51_f10e32 f10z51_f10e33 f10z51_f10e34 f10z35_f10e17 f10z32_f10e17 f10r36_f10e17 f10z27_f10e37 f10z26_f10e19 f10z22_f10e19 f10n24 f10r58_f10e19 f10z24_f10e38 f10y59_f10e8 f10b_f10e8_r

end Go.Proofs.Ytmgacgonoodkfaa
