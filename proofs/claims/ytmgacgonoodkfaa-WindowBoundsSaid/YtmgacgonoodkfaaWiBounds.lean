/- What the machine does with each piece of code, in plain text. PRINTED by a program of this workplace; Lean checks it. -/
import Derived.Test.YtmgacgonoodkfaaWiAnn
import Derived.Test.YtmgacgonoodkfaaProg
import Derived.KernelRfl
import Derived.Attr
namespace Go.Proofs.Ytmgacgonoodkfaa
open Go.AM
set_option maxRecDepth 100000
set_option linter.unusedVariables false
noncomputable def f3rs : List ResultVar := [ResultVar.tmp (4 : Nat)]
noncomputable def f3c0 : Code := subCode [] (bodyOf Try.prog 3)
def f3a0 : Ann := subAnn [] ann3
noncomputable def f3c1 : Code := subCode [0] (bodyOf Try.prog 3)
def f3a1 : Ann := subAnn [0] ann3
noncomputable def f3c2 : Code := subCode [1] (bodyOf Try.prog 3)
def f3a2 : Ann := subAnn [1] ann3
noncomputable def f3c3 : Code := subCode [1, 0] (bodyOf Try.prog 3)
def f3a3 : Ann := subAnn [1, 0] ann3
noncomputable def f3c4 : Code := subCode [1, 1] (bodyOf Try.prog 3)
def f3a4 : Ann := subAnn [1, 1] ann3
noncomputable def f3c5 : Code := subCode [1, 1, 0] (bodyOf Try.prog 3)
def f3a5 : Ann := subAnn [1, 1, 0] ann3
noncomputable def f3c6 : Code := subCode [1, 1, 1] (bodyOf Try.prog 3)
def f3a6 : Ann := subAnn [1, 1, 1] ann3
noncomputable def f3c7 : Code := subCode [1, 1, 0, 0] (bodyOf Try.prog 3)
def f3a7 : Ann := subAnn [1, 1, 0, 0] ann3
noncomputable def f3c8 : Code := subCode [1, 1, 0, 1] (bodyOf Try.prog 3)
def f3a8 : Ann := subAnn [1, 1, 0, 1] ann3
noncomputable def f3c9 : Code := subCode [1, 1, 0, 1, 0] (bodyOf Try.prog 3)
def f3a9 : Ann := subAnn [1, 1, 0, 1, 0] ann3
noncomputable def f3c10 : Code := subCode [1, 1, 0, 1, 1] (bodyOf Try.prog 3)
def f3a10 : Ann := subAnn [1, 1, 0, 1, 1] ann3
noncomputable def f3c11 : Code := subCode [1, 1, 0, 1, 0, 0] (bodyOf Try.prog 3)
def f3a11 : Ann := subAnn [1, 1, 0, 1, 0, 0] ann3
noncomputable def f3c12 : Code := subCode [1, 1, 0, 1, 0, 1] (bodyOf Try.prog 3)
def f3a12 : Ann := subAnn [1, 1, 0, 1, 0, 1] ann3
noncomputable def f3c13 : Code := subCode [1, 1, 1, 0] (bodyOf Try.prog 3)
def f3a13 : Ann := subAnn [1, 1, 1, 0] ann3
noncomputable def f3c14 : Code := subCode [1, 1, 1, 1] (bodyOf Try.prog 3)
def f3a14 : Ann := subAnn [1, 1, 1, 1] ann3
noncomputable def f3c15 : Code := subCode [1, 1, 1, 1, 0] (bodyOf Try.prog 3)
def f3a15 : Ann := subAnn [1, 1, 1, 1, 0] ann3
noncomputable def f3c16 : Code := subCode [1, 1, 1, 1, 1] (bodyOf Try.prog 3)
def f3a16 : Ann := subAnn [1, 1, 1, 1, 1] ann3
noncomputable def f3c17 : Code := subCode [1, 1, 1, 1, 0, 0] (bodyOf Try.prog 3)
def f3a17 : Ann := subAnn [1, 1, 1, 1, 0, 0] ann3
noncomputable def f3c18 : Code := subCode [1, 1, 1, 1, 0, 1] (bodyOf Try.prog 3)
def f3a18 : Ann := subAnn [1, 1, 1, 1, 0, 1] ann3
noncomputable def f3c19 : Code := subCode [1, 1, 1, 1, 0, 1, 0] (bodyOf Try.prog 3)
def f3a19 : Ann := subAnn [1, 1, 1, 1, 0, 1, 0] ann3
noncomputable def f3c20 : Code := subCode [1, 1, 1, 1, 0, 1, 1] (bodyOf Try.prog 3)
def f3a20 : Ann := subAnn [1, 1, 1, 1, 0, 1, 1] ann3
noncomputable def f3c21 : Code := subCode [1, 1, 1, 1, 0, 1, 0, 0] (bodyOf Try.prog 3)
def f3a21 : Ann := subAnn [1, 1, 1, 1, 0, 1, 0, 0] ann3
noncomputable def f3c22 : Code := subCode [1, 1, 1, 1, 0, 1, 0, 1] (bodyOf Try.prog 3)
def f3a22 : Ann := subAnn [1, 1, 1, 1, 0, 1, 0, 1] ann3
noncomputable def f3c23 : Code := subCode [1, 1, 1, 1, 1, 0] (bodyOf Try.prog 3)
def f3a23 : Ann := subAnn [1, 1, 1, 1, 1, 0] ann3
noncomputable def f3c24 : Code := subCode [1, 1, 1, 1, 1, 1] (bodyOf Try.prog 3)
def f3a24 : Ann := subAnn [1, 1, 1, 1, 1, 1] ann3
noncomputable def f3c25 : Code := subCode [1, 1, 1, 1, 1, 0, 0] (bodyOf Try.prog 3)
def f3a25 : Ann := subAnn [1, 1, 1, 1, 1, 0, 0] ann3
noncomputable def f3c26 : Code := subCode [1, 1, 1, 1, 1, 0, 1] (bodyOf Try.prog 3)
def f3a26 : Ann := subAnn [1, 1, 1, 1, 1, 0, 1] ann3
noncomputable def f3c27 : Code := subCode [1, 1, 1, 1, 1, 0, 1, 0] (bodyOf Try.prog 3)
def f3a27 : Ann := subAnn [1, 1, 1, 1, 1, 0, 1, 0] ann3
noncomputable def f3c28 : Code := subCode [1, 1, 1, 1, 1, 0, 1, 1] (bodyOf Try.prog 3)
def f3a28 : Ann := subAnn [1, 1, 1, 1, 1, 0, 1, 1] ann3
noncomputable def f3c29 : Code := subCode [1, 1, 1, 1, 1, 0, 1, 0, 0] (bodyOf Try.prog 3)
def f3a29 : Ann := subAnn [1, 1, 1, 1, 1, 0, 1, 0, 0] ann3
noncomputable def f3c30 : Code := subCode [1, 1, 1, 1, 1, 0, 1, 0, 1] (bodyOf Try.prog 3)
def f3a30 : Ann := subAnn [1, 1, 1, 1, 1, 0, 1, 0, 1] ann3
noncomputable def f3c31 : Code := subCode [1, 1, 1, 1, 1, 1, 0] (bodyOf Try.prog 3)
def f3a31 : Ann := subAnn [1, 1, 1, 1, 1, 1, 0] ann3
noncomputable def f3c32 : Code := subCode [1, 1, 1, 1, 1, 1, 1] (bodyOf Try.prog 3)
def f3a32 : Ann := subAnn [1, 1, 1, 1, 1, 1, 1] ann3
noncomputable def f3c33 : Code := subCode [1, 1, 1, 1, 1, 1, 0, 0] (bodyOf Try.prog 3)
def f3a33 : Ann := subAnn [1, 1, 1, 1, 1, 1, 0, 0] ann3
noncomputable def f3c34 : Code := subCode [1, 1, 1, 1, 1, 1, 0, 1] (bodyOf Try.prog 3)
def f3a34 : Ann := subAnn [1, 1, 1, 1, 1, 1, 0, 1] ann3
noncomputable def f3c35 : Code := subCode [1, 1, 1, 1, 1, 1, 0, 1, 0] (bodyOf Try.prog 3)
def f3a35 : Ann := subAnn [1, 1, 1, 1, 1, 1, 0, 1, 0] ann3
noncomputable def f3c36 : Code := subCode [1, 1, 1, 1, 1, 1, 0, 1, 0, 0] (bodyOf Try.prog 3)
def f3a36 : Ann := subAnn [1, 1, 1, 1, 1, 1, 0, 1, 0, 0] ann3
noncomputable def f3c37 : Code := subCode [1, 1, 1, 1, 1, 1, 0, 1, 0, 0, 0] (bodyOf Try.prog 3)
def f3a37 : Ann := subAnn [1, 1, 1, 1, 1, 1, 0, 1, 0, 0, 0] ann3
noncomputable def f3c38 : Code := subCode [1, 1, 1, 1, 1, 1, 0, 1, 0, 0, 1] (bodyOf Try.prog 3)
def f3a38 : Ann := subAnn [1, 1, 1, 1, 1, 1, 0, 1, 0, 0, 1] ann3
noncomputable def f3c39 : Code := subCode [1, 1, 1, 1, 1, 1, 0, 1, 0, 0, 0, 0] (bodyOf Try.prog 3)
def f3a39 : Ann := subAnn [1, 1, 1, 1, 1, 1, 0, 1, 0, 0, 0, 0] ann3
noncomputable def f3c40 : Code := subCode [1, 1, 1, 1, 1, 1, 0, 1, 0, 0, 0, 1] (bodyOf Try.prog 3)
def f3a40 : Ann := subAnn [1, 1, 1, 1, 1, 1, 0, 1, 0, 0, 0, 1] ann3
noncomputable def f3c41 : Code := subCode [1, 1, 1, 1, 1, 1, 0, 1, 0, 0, 0, 1, 0] (bodyOf Try.prog 3)
def f3a41 : Ann := subAnn [1, 1, 1, 1, 1, 1, 0, 1, 0, 0, 0, 1, 0] ann3
noncomputable def f3c42 : Code := subCode [1, 1, 1, 1, 1, 1, 0, 1, 0, 0, 0, 1, 1] (bodyOf Try.prog 3)
def f3a42 : Ann := subAnn [1, 1, 1, 1, 1, 1, 0, 1, 0, 0, 0, 1, 1] ann3
noncomputable def f3c43 : Code := subCode [1, 1, 1, 1, 1, 1, 0, 1, 0, 0, 1, 0] (bodyOf Try.prog 3)
def f3a43 : Ann := subAnn [1, 1, 1, 1, 1, 1, 0, 1, 0, 0, 1, 0] ann3
noncomputable def f3c44 : Code := subCode [1, 1, 1, 1, 1, 1, 0, 1, 0, 0, 1, 1] (bodyOf Try.prog 3)
def f3a44 : Ann := subAnn [1, 1, 1, 1, 1, 1, 0, 1, 0, 0, 1, 1] ann3
noncomputable def f3c45 : Code := subCode [1, 1, 1, 1, 1, 1, 0, 1, 0, 0, 1, 0, 0] (bodyOf Try.prog 3)
def f3a45 : Ann := subAnn [1, 1, 1, 1, 1, 1, 0, 1, 0, 0, 1, 0, 0] ann3
noncomputable def f3c46 : Code := subCode [1, 1, 1, 1, 1, 1, 0, 1, 0, 0, 1, 0, 0, 0] (bodyOf Try.prog 3)
def f3a46 : Ann := subAnn [1, 1, 1, 1, 1, 1, 0, 1, 0, 0, 1, 0, 0, 0] ann3
noncomputable def f3c47 : Code := subCode [1, 1, 1, 1, 1, 1, 0, 1, 0, 0, 1, 0, 0, 1] (bodyOf Try.prog 3)
def f3a47 : Ann := subAnn [1, 1, 1, 1, 1, 1, 0, 1, 0, 0, 1, 0, 0, 1] ann3
noncomputable def f3c48 : Code := subCode [1, 1, 1, 1, 1, 1, 0, 1, 0, 0, 1, 0, 0, 1, 0] (bodyOf Try.prog 3)
def f3a48 : Ann := subAnn [1, 1, 1, 1, 1, 1, 0, 1, 0, 0, 1, 0, 0, 1, 0] ann3
noncomputable def f3c49 : Code := subCode [1, 1, 1, 1, 1, 1, 0, 1, 0, 0, 1, 0, 0, 1, 1] (bodyOf Try.prog 3)
def f3a49 : Ann := subAnn [1, 1, 1, 1, 1, 1, 0, 1, 0, 0, 1, 0, 0, 1, 1] ann3
noncomputable def f3c50 : Code := subCode [1, 1, 1, 1, 1, 1, 0, 1, 0, 0, 1, 0, 0, 1, 0, 0] (bodyOf Try.prog 3)
def f3a50 : Ann := subAnn [1, 1, 1, 1, 1, 1, 0, 1, 0, 0, 1, 0, 0, 1, 0, 0] ann3
noncomputable def f3c51 : Code := subCode [1, 1, 1, 1, 1, 1, 0, 1, 0, 0, 1, 0, 0, 1, 0, 1] (bodyOf Try.prog 3)
def f3a51 : Ann := subAnn [1, 1, 1, 1, 1, 1, 0, 1, 0, 0, 1, 0, 0, 1, 0, 1] ann3
noncomputable def f3c52 : Code := subCode [1, 1, 1, 1, 1, 1, 1, 0] (bodyOf Try.prog 3)
def f3a52 : Ann := subAnn [1, 1, 1, 1, 1, 1, 1, 0] ann3
noncomputable def f3c53 : Code := subCode [1, 1, 1, 1, 1, 1, 1, 1] (bodyOf Try.prog 3)
def f3a53 : Ann := subAnn [1, 1, 1, 1, 1, 1, 1, 1] ann3
noncomputable def f3c54 : Code := subCode [1, 1, 1, 1, 1, 1, 1, 1, 0] (bodyOf Try.prog 3)
def f3a54 : Ann := subAnn [1, 1, 1, 1, 1, 1, 1, 1, 0] ann3
noncomputable def f3c55 : Code := subCode [1, 1, 1, 1, 1, 1, 1, 1, 1] (bodyOf Try.prog 3)
def f3a55 : Ann := subAnn [1, 1, 1, 1, 1, 1, 1, 1, 1] ann3
noncomputable def f3c56 : Code := subCode [1, 1, 1, 1, 1, 1, 1, 1, 1, 0] (bodyOf Try.prog 3)
def f3a56 : Ann := subAnn [1, 1, 1, 1, 1, 1, 1, 1, 1, 0] ann3
noncomputable def f3c57 : Code := subCode [1, 1, 1, 1, 1, 1, 1, 1, 1, 1] (bodyOf Try.prog 3)
def f3a57 : Ann := subAnn [1, 1, 1, 1, 1, 1, 1, 1, 1, 1] ann3
noncomputable def f3L35 {R : Type} (call : Bool → CallF R) (dem : Bool) (N : Nat) : KF R → Env → St → Option R := fun K e σ => runK Try.prog call dem N f3c36 f3a36 K e σ
def f3e0 (y0 : Int) (y1 : Int) : Env := AV.int IntKind.i64 y0 :: AV.int IntKind.i64 y1 :: Env.sp 101 []
def f3e1 (y0 : Int) (y1 : Int) (y2 : Bool) : Env := AV.int IntKind.i64 y0 :: AV.int IntKind.i64 y1 :: Env.sp 2 (AV.bool y2 :: Env.sp 98 [])
def f3e2 (y0 : Int) (y1 : Int) (y2 : Option (Nat × Nat)) (y3 : Int) (y4 : Option (Nat × Nat)) (y5 : Int) (y6 : Option (Nat × Nat)) (y7 : Int) (y8 : Option (Nat × Nat)) (y9 : Int) : Env := AV.int IntKind.i64 y0 :: AV.int IntKind.i64 y1 :: Env.sp 3 (AV.ptr y2 :: AV.int IntKind.i64 y3 :: Env.sp 6 (AV.tuple [AV.ptr y4, AV.int IntKind.i64 y5] :: AV.tuple [AV.ptr y6, AV.int IntKind.i64 y7] :: AV.ptr y8 :: AV.int IntKind.i64 y9 :: Env.sp 86 []))
def f3e3 (y0 : Int) (y1 : Int) (y2 : Option (Nat × Nat)) (y3 : Int) : Env := AV.int IntKind.i64 y0 :: AV.int IntKind.i64 y1 :: Env.sp 3 (AV.ptr y2 :: AV.int IntKind.i64 y3 :: Env.sp 96 [])
def f3e4 (y0 : Int) (y1 : Int) (y2 : Option (Nat × Nat)) (y3 : Int) (y4 : Int) (y5 : Bool) (y6 : Bool) (y7 : Bool) : Env := AV.int IntKind.i64 y0 :: AV.int IntKind.i64 y1 :: Env.sp 3 (AV.ptr y2 :: AV.int IntKind.i64 y3 :: Env.sp 10 (AV.int IntKind.i64 y4 :: AV.bool y5 :: AV.bool y6 :: AV.tuple [] :: AV.tuple [] :: AV.bool y7 :: Env.sp 80 []))
def f3e5 (y0 : Int) (y1 : Int) (y2 : Option (Nat × Nat)) (y3 : Int) (y4 : Int) (y5 : Bool) (y6 : Bool) (y7 : Option (Nat × Nat)) (y8 : Bool) (y9 : Bool) : Env := AV.int IntKind.i64 y0 :: AV.int IntKind.i64 y1 :: Env.sp 3 (AV.ptr y2 :: AV.int IntKind.i64 y3 :: Env.sp 10 (AV.int IntKind.i64 y4 :: AV.bool y5 :: AV.bool y6 :: AV.ptr y7 :: AV.bool y8 :: AV.bool y9 :: Env.sp 80 []))
def f3e6 (y0 : Int) (y1 : Int) (y2 : Option (Nat × Nat)) (y3 : Bool) : Env := AV.int IntKind.i64 y0 :: AV.int IntKind.i64 y1 :: Env.sp 3 (AV.ptr y2 :: Env.sp 16 (AV.bool y3 :: Env.sp 80 []))
def f3e7 (y0 : Int) (y1 : Int) (y2 : Bool) (y3 : Option (Nat × Nat)) (y4 : Bool) : Env := AV.int IntKind.i64 y0 :: AV.int IntKind.i64 y1 :: Env.sp 2 (AV.bool y2 :: AV.ptr y3 :: Env.sp 16 (AV.bool y4 :: Env.sp 80 []))
def f3e8 (y0 : Bool) : Env := Env.sp 4 (AV.bool y0 :: Env.sp 98 [])
def f3e9 (y0 : Int) (y1 : Int) (y2 : Option (Nat × Nat)) : Env := AV.int IntKind.i64 y0 :: AV.int IntKind.i64 y1 :: Env.sp 3 (AV.ptr y2 :: Env.sp 97 [])
def f3e10 (y0 : Int) (y1 : Int) (y2 : Option (Nat × Nat)) (y3 : Bool) (y4 : Int) (y5 : Bool) (y6 : Int) (y7 : Option (Nat × Nat)) (y8 : Int) (y9 : Bool) (y10 : Int) (y11 : Bool) (y12 : Int) : Env := AV.int IntKind.i64 y0 :: AV.int IntKind.i64 y1 :: Env.sp 3 (AV.ptr y2 :: Env.sp 1 (AV.bool y3 :: AV.int IntKind.i64 y4 :: Env.sp 14 (AV.tuple [AV.bool y5, AV.int IntKind.i64 y6] :: AV.ptr y7 :: AV.int IntKind.i64 y8 :: AV.tuple [AV.bool y9, AV.int IntKind.i64 y10] :: AV.bool y11 :: AV.int IntKind.i64 y12 :: Env.sp 74 [])))
def f3e11 (y0 : Int) (y1 : Int) (y2 : Option (Nat × Nat)) (y3 : Bool) (y4 : Int) : Env := AV.int IntKind.i64 y0 :: AV.int IntKind.i64 y1 :: Env.sp 3 (AV.ptr y2 :: Env.sp 1 (AV.bool y3 :: AV.int IntKind.i64 y4 :: Env.sp 94 []))
def f3e12 (y0 : Int) (y1 : Int) (y2 : Option (Nat × Nat)) (y3 : Bool) (y4 : Int) (y5 : Int) (y6 : Bool) (y7 : Bool) (y8 : Bool) : Env := AV.int IntKind.i64 y0 :: AV.int IntKind.i64 y1 :: Env.sp 3 (AV.ptr y2 :: Env.sp 1 (AV.bool y3 :: AV.int IntKind.i64 y4 :: Env.sp 20 (AV.int IntKind.i64 y5 :: AV.bool y6 :: AV.bool y7 :: AV.tuple [] :: AV.tuple [] :: AV.bool y8 :: Env.sp 68 [])))
def f3e13 (y0 : Int) (y1 : Int) (y2 : Option (Nat × Nat)) (y3 : Bool) (y4 : Int) (y5 : Int) (y6 : Bool) (y7 : Bool) (y8 : Int) (y9 : Bool) (y10 : Bool) : Env := AV.int IntKind.i64 y0 :: AV.int IntKind.i64 y1 :: Env.sp 3 (AV.ptr y2 :: Env.sp 1 (AV.bool y3 :: AV.int IntKind.i64 y4 :: Env.sp 20 (AV.int IntKind.i64 y5 :: AV.bool y6 :: AV.bool y7 :: AV.int IntKind.i64 y8 :: AV.bool y9 :: AV.bool y10 :: Env.sp 68 [])))
def f3e14 (y0 : Int) (y1 : Int) (y2 : Option (Nat × Nat)) (y3 : Bool) (y4 : Int) (y5 : Bool) : Env := AV.int IntKind.i64 y0 :: AV.int IntKind.i64 y1 :: Env.sp 3 (AV.ptr y2 :: Env.sp 1 (AV.bool y3 :: AV.int IntKind.i64 y4 :: Env.sp 25 (AV.bool y5 :: Env.sp 68 [])))
def f3e15 (y0 : Int) (y1 : Int) (y2 : Bool) (y3 : Option (Nat × Nat)) (y4 : Bool) (y5 : Int) (y6 : Bool) (y7 : Int) (y8 : Bool) (y9 : Bool) (y10 : Bool) (y11 : Bool) (y12 : Bool) (y13 : Bool) (y14 : Bool) (y15 : Bool) : Env := AV.int IntKind.i64 y0 :: AV.int IntKind.i64 y1 :: Env.sp 2 (AV.bool y2 :: AV.ptr y3 :: Env.sp 1 (AV.bool y4 :: AV.int IntKind.i64 y5 :: Env.sp 25 (AV.bool y6 :: AV.int IntKind.i64 y7 :: AV.bool y8 :: AV.bool y9 :: AV.bool y10 :: AV.bool y11 :: AV.bool y12 :: AV.bool y13 :: AV.bool y14 :: AV.bool y15 :: Env.sp 59 [])))
def f3e16 (y0 : Int) (y1 : Int) (y2 : Bool) (y3 : Option (Nat × Nat)) (y4 : Bool) (y5 : Int) (y6 : Bool) (y7 : Int) (y8 : Bool) (y9 : Bool) (y10 : Bool) (y11 : Bool) (y12 : Bool) (y13 : Bool) (y14 : Bool) : Env := AV.int IntKind.i64 y0 :: AV.int IntKind.i64 y1 :: Env.sp 2 (AV.bool y2 :: AV.ptr y3 :: Env.sp 1 (AV.bool y4 :: AV.int IntKind.i64 y5 :: Env.sp 25 (AV.bool y6 :: AV.int IntKind.i64 y7 :: AV.bool y8 :: AV.bool y9 :: AV.bool y10 :: AV.bool y11 :: AV.bool y12 :: AV.bool y13 :: AV.tuple [] :: AV.bool y14 :: Env.sp 59 [])))
def f3e17 (y0 : Int) (y1 : Int) (y2 : Bool) (y3 : Option (Nat × Nat)) (y4 : Bool) (y5 : Int) (y6 : Bool) (y7 : Int) (y8 : Bool) (y9 : Bool) (y10 : Bool) (y11 : Bool) (y12 : Bool) : Env := AV.int IntKind.i64 y0 :: AV.int IntKind.i64 y1 :: Env.sp 2 (AV.bool y2 :: AV.ptr y3 :: Env.sp 1 (AV.bool y4 :: AV.int IntKind.i64 y5 :: Env.sp 25 (AV.bool y6 :: AV.int IntKind.i64 y7 :: AV.bool y8 :: AV.bool y9 :: AV.tuple [] :: AV.tuple [] :: AV.bool y10 :: AV.bool y11 :: AV.tuple [] :: AV.bool y12 :: Env.sp 59 [])))
def f3e18 (y0 : Int) (y1 : Int) (y2 : Option (Nat × Nat)) (y3 : Bool) (y4 : Int) (y5 : Int) (y6 : Bool) (y7 : Bool) (y8 : Bool) : Env := AV.int IntKind.i64 y0 :: AV.int IntKind.i64 y1 :: Env.sp 3 (AV.ptr y2 :: Env.sp 1 (AV.bool y3 :: AV.int IntKind.i64 y4 :: Env.sp 35 (AV.int IntKind.i64 y5 :: AV.bool y6 :: AV.bool y7 :: AV.tuple [] :: AV.tuple [] :: AV.tuple [] :: AV.tuple [] :: AV.bool y8 :: Env.sp 51 [])))
def f3e19 (y0 : Int) (y1 : Int) (y2 : Option (Nat × Nat)) (y3 : Bool) (y4 : Int) (y5 : Int) (y6 : Bool) (y7 : Bool) (y8 : Bool) (y9 : Int) (y10 : Bool) (y11 : Bool) (y12 : Bool) : Env := AV.int IntKind.i64 y0 :: AV.int IntKind.i64 y1 :: Env.sp 3 (AV.ptr y2 :: Env.sp 1 (AV.bool y3 :: AV.int IntKind.i64 y4 :: Env.sp 35 (AV.int IntKind.i64 y5 :: AV.bool y6 :: AV.bool y7 :: AV.bool y8 :: AV.int IntKind.i64 y9 :: AV.bool y10 :: AV.bool y11 :: AV.bool y12 :: Env.sp 51 [])))
def f3e20 (y0 : Int) (y1 : Int) (y2 : Option (Nat × Nat)) (y3 : Bool) : Env := AV.int IntKind.i64 y0 :: AV.int IntKind.i64 y1 :: Env.sp 3 (AV.ptr y2 :: Env.sp 45 (AV.bool y3 :: Env.sp 51 []))
def f3e21 (y0 : Int) (y1 : Int) (y2 : Bool) (y3 : Option (Nat × Nat)) (y4 : Bool) : Env := AV.int IntKind.i64 y0 :: AV.int IntKind.i64 y1 :: Env.sp 2 (AV.bool y2 :: AV.ptr y3 :: Env.sp 45 (AV.bool y4 :: Env.sp 51 []))
def f3e22 (y0 : Int) (y1 : Int) (y2 : Option (Nat × Nat)) (y3 : Int) : Env := AV.int IntKind.i64 y0 :: AV.int IntKind.i64 y1 :: Env.sp 3 (AV.ptr y2 :: Env.sp 3 (AV.int IntKind.i64 y3 :: Env.sp 93 []))
def f3e23 (y0 : Int) (y1 : Int) (y2 : Option (Nat × Nat)) (y3 : Int) (y4 : Int) (y5 : Bool) : Env := AV.int IntKind.i64 y0 :: AV.int IntKind.i64 y1 :: Env.sp 3 (AV.ptr y2 :: Env.sp 3 (AV.int IntKind.i64 y3 :: Env.sp 42 (AV.int IntKind.i64 y4 :: AV.bool y5 :: Env.sp 49 [])))
def f3e24 (y0 : Int) (y1 : Int) (y2 : Option (Nat × Nat)) (y3 : Int) (y4 : Bool) : Env := AV.int IntKind.i64 y0 :: AV.int IntKind.i64 y1 :: Env.sp 3 (AV.ptr y2 :: Env.sp 3 (AV.int IntKind.i64 y3 :: Env.sp 43 (AV.bool y4 :: Env.sp 49 [])))
def f3e25 (y0 : Int) (y1 : Int) (y2 : Option (Nat × Nat)) (y3 : Int) (y4 : Option (Nat × Nat)) (y5 : Int) (y6 : Int) (y7 : Int) (y8 : Bool) (y9 : Bool) : Env := AV.int IntKind.i64 y0 :: AV.int IntKind.i64 y1 :: Env.sp 3 (AV.ptr y2 :: Env.sp 3 (AV.int IntKind.i64 y3 :: Env.sp 46 (AV.ptr y4 :: AV.int IntKind.i64 y5 :: AV.int IntKind.i64 y6 :: AV.int IntKind.i64 y7 :: AV.bool y8 :: AV.bool y9 :: Env.sp 41 [])))
def f3e26 (y0 : Int) (y1 : Int) (y2 : Option (Nat × Nat)) (y3 : Int) (y4 : Bool) : Env := AV.int IntKind.i64 y0 :: AV.int IntKind.i64 y1 :: Env.sp 3 (AV.ptr y2 :: Env.sp 3 (AV.int IntKind.i64 y3 :: Env.sp 51 (AV.bool y4 :: Env.sp 41 [])))
def f3e27 (y0 : Int) (y1 : Int) (y2 : Bool) (y3 : Option (Nat × Nat)) (y4 : Int) (y5 : Bool) : Env := AV.int IntKind.i64 y0 :: AV.int IntKind.i64 y1 :: Env.sp 2 (AV.bool y2 :: AV.ptr y3 :: Env.sp 3 (AV.int IntKind.i64 y4 :: Env.sp 51 (AV.bool y5 :: Env.sp 41 [])))
def f3e28 (y0 : Int) (y1 : Int) (y2 : Option (Nat × Nat)) (y3 : Int) (y4 : Int) (y5 : Int) : Env := AV.int IntKind.i64 y0 :: AV.int IntKind.i64 y1 :: Env.sp 3 (AV.ptr y2 :: Env.sp 3 (AV.int IntKind.i64 y3 :: Env.sp 44 (AV.int IntKind.i64 y4 :: AV.int IntKind.i64 y5 :: Env.sp 47 [])))
def f3e29 (y0 : Int) (y1 : Int) (y2 : Option (Nat × Nat)) (y3 : Bool) (y4 : Int) (y5 : Int) (y6 : Bool) (y7 : Bool) (y8 : Int) (y9 : Int) (y10 : Int) (y11 : Bool) (y12 : Bool) : Env := AV.int IntKind.i64 y0 :: AV.int IntKind.i64 y1 :: Env.sp 3 (AV.ptr y2 :: Env.sp 4 (AV.bool y3 :: Env.sp 51 (AV.int IntKind.i64 y4 :: AV.int IntKind.i64 y5 :: AV.bool y6 :: AV.bool y7 :: AV.int IntKind.i64 y8 :: AV.int IntKind.i64 y9 :: AV.int IntKind.i64 y10 :: AV.bool y11 :: AV.bool y12 :: Env.sp 32 [])))
def f3e30 (y0 : Int) (y1 : Int) (y2 : Option (Nat × Nat)) (y3 : Bool) (y4 : Int) (y5 : Int) (y6 : Bool) (y7 : Bool) (y8 : Bool) : Env := AV.int IntKind.i64 y0 :: AV.int IntKind.i64 y1 :: Env.sp 3 (AV.ptr y2 :: Env.sp 4 (AV.bool y3 :: Env.sp 51 (AV.int IntKind.i64 y4 :: AV.int IntKind.i64 y5 :: AV.bool y6 :: AV.bool y7 :: AV.tuple [] :: AV.tuple [] :: AV.tuple [] :: AV.tuple [] :: AV.bool y8 :: Env.sp 32 [])))
def f3e31 (y0 : Int) (y1 : Int) (y2 : Option (Nat × Nat)) (y3 : Bool) : Env := AV.int IntKind.i64 y0 :: AV.int IntKind.i64 y1 :: Env.sp 3 (AV.ptr y2 :: Env.sp 4 (AV.bool y3 :: Env.sp 92 []))
def f3e32 (y0 : Int) (y1 : Int) (y2 : Option (Nat × Nat)) (y3 : Bool) (y4 : Option (Nat × Nat)) (y5 : Int) (y6 : Option (Nat × Nat)) (y7 : Int) (y8 : Option (Nat × Nat)) (y9 : Int) (y10 : Option (Nat × Nat)) (y11 : Int) (y12 : Option (Nat × Nat)) (y13 : Int) : Env := AV.int IntKind.i64 y0 :: AV.int IntKind.i64 y1 :: Env.sp 3 (AV.ptr y2 :: Env.sp 4 (AV.bool y3 :: AV.ptr y4 :: AV.int IntKind.i64 y5 :: Env.sp 58 (AV.tuple [AV.ptr y6, AV.int IntKind.i64 y7] :: AV.ptr y8 :: AV.int IntKind.i64 y9 :: AV.tuple [AV.ptr y10, AV.int IntKind.i64 y11] :: AV.ptr y12 :: AV.int IntKind.i64 y13 :: Env.sp 26 [])))
def f3e33 (y0 : Int) (y1 : Int) (y2 : Option (Nat × Nat)) (y3 : Bool) (y4 : Int) : Env := AV.int IntKind.i64 y0 :: AV.int IntKind.i64 y1 :: Env.sp 3 (AV.ptr y2 :: Env.sp 4 (AV.bool y3 :: Env.sp 1 (AV.int IntKind.i64 y4 :: Env.sp 90 [])))
def f3e34 (y0 : Int) (y1 : Int) (y2 : Bool) (y3 : Option (Nat × Nat)) (y4 : Bool) (y5 : Int) (y6 : Option (Nat × Nat)) (y7 : Int) (y8 : Bool) (y9 : Bool) (y10 : Bool) (y11 : Bool) (y12 : Int) (y13 : Bool) (y14 : Bool) (y15 : Bool) (y16 : Bool) (y17 : Bool) (y18 : Option (Nat × Nat)) (y19 : Int) (y20 : Bool) (y21 : Bool) (y22 : Bool) (y23 : Bool) (y24 : Option (Nat × Nat)) (y25 : Int) (y26 : Int) (y27 : Bool) (y28 : Bool) (y29 : Bool) (y30 : Bool) (y31 : Bool) : Env := AV.int IntKind.i64 y0 :: AV.int IntKind.i64 y1 :: Env.sp 2 (AV.bool y2 :: AV.ptr y3 :: Env.sp 4 (AV.bool y4 :: Env.sp 1 (AV.int IntKind.i64 y5 :: Env.sp 64 (AV.ptr y6 :: AV.int IntKind.i64 y7 :: AV.bool y8 :: AV.bool y9 :: AV.bool y10 :: AV.bool y11 :: AV.int IntKind.i64 y12 :: AV.bool y13 :: AV.bool y14 :: AV.bool y15 :: AV.bool y16 :: AV.bool y17 :: AV.ptr y18 :: AV.int IntKind.i64 y19 :: AV.bool y20 :: AV.bool y21 :: AV.bool y22 :: AV.bool y23 :: AV.ptr y24 :: AV.int IntKind.i64 y25 :: AV.int IntKind.i64 y26 :: AV.bool y27 :: AV.bool y28 :: AV.bool y29 :: AV.bool y30 :: AV.bool y31 :: []))))
def f3e35 (y0 : Int) (y1 : Int) (y2 : Bool) (y3 : Option (Nat × Nat)) (y4 : Bool) (y5 : Int) (y6 : Option (Nat × Nat)) (y7 : Int) (y8 : Bool) (y9 : Bool) (y10 : Bool) (y11 : Bool) (y12 : Int) (y13 : Bool) (y14 : Bool) (y15 : Bool) (y16 : Bool) (y17 : Bool) (y18 : Option (Nat × Nat)) (y19 : Int) (y20 : Bool) (y21 : Bool) (y22 : Bool) (y23 : Bool) (y24 : Option (Nat × Nat)) (y25 : Int) (y26 : Int) (y27 : Bool) (y28 : Bool) (y29 : Bool) (y30 : Bool) : Env := AV.int IntKind.i64 y0 :: AV.int IntKind.i64 y1 :: Env.sp 2 (AV.bool y2 :: AV.ptr y3 :: Env.sp 4 (AV.bool y4 :: Env.sp 1 (AV.int IntKind.i64 y5 :: Env.sp 64 (AV.ptr y6 :: AV.int IntKind.i64 y7 :: AV.bool y8 :: AV.bool y9 :: AV.bool y10 :: AV.bool y11 :: AV.int IntKind.i64 y12 :: AV.bool y13 :: AV.bool y14 :: AV.bool y15 :: AV.bool y16 :: AV.bool y17 :: AV.ptr y18 :: AV.int IntKind.i64 y19 :: AV.bool y20 :: AV.bool y21 :: AV.bool y22 :: AV.bool y23 :: AV.ptr y24 :: AV.int IntKind.i64 y25 :: AV.int IntKind.i64 y26 :: AV.bool y27 :: AV.bool y28 :: AV.bool y29 :: AV.tuple [] :: AV.bool y30 :: []))))
def f3e36 (y0 : Int) (y1 : Int) (y2 : Bool) (y3 : Option (Nat × Nat)) (y4 : Bool) (y5 : Int) (y6 : Option (Nat × Nat)) (y7 : Int) (y8 : Bool) (y9 : Bool) (y10 : Bool) (y11 : Bool) (y12 : Int) (y13 : Bool) (y14 : Bool) (y15 : Bool) (y16 : Bool) (y17 : Bool) (y18 : Option (Nat × Nat)) (y19 : Int) (y20 : Bool) (y21 : Bool) (y22 : Bool) (y23 : Bool) (y24 : Bool) (y25 : Bool) (y26 : Bool) : Env := AV.int IntKind.i64 y0 :: AV.int IntKind.i64 y1 :: Env.sp 2 (AV.bool y2 :: AV.ptr y3 :: Env.sp 4 (AV.bool y4 :: Env.sp 1 (AV.int IntKind.i64 y5 :: Env.sp 64 (AV.ptr y6 :: AV.int IntKind.i64 y7 :: AV.bool y8 :: AV.bool y9 :: AV.bool y10 :: AV.bool y11 :: AV.int IntKind.i64 y12 :: AV.bool y13 :: AV.bool y14 :: AV.bool y15 :: AV.bool y16 :: AV.bool y17 :: AV.ptr y18 :: AV.int IntKind.i64 y19 :: AV.bool y20 :: AV.bool y21 :: AV.bool y22 :: AV.bool y23 :: AV.tuple [] :: AV.tuple [] :: AV.tuple [] :: AV.tuple [] :: AV.bool y24 :: AV.bool y25 :: AV.tuple [] :: AV.bool y26 :: []))))
def f3e37 (y0 : Int) (y1 : Int) (y2 : Bool) (y3 : Option (Nat × Nat)) (y4 : Bool) (y5 : Int) (y6 : Option (Nat × Nat)) (y7 : Int) (y8 : Bool) (y9 : Bool) (y10 : Bool) (y11 : Bool) (y12 : Int) (y13 : Bool) (y14 : Bool) (y15 : Bool) (y16 : Bool) (y17 : Bool) (y18 : Bool) (y19 : Bool) (y20 : Bool) (y21 : Bool) (y22 : Bool) : Env := AV.int IntKind.i64 y0 :: AV.int IntKind.i64 y1 :: Env.sp 2 (AV.bool y2 :: AV.ptr y3 :: Env.sp 4 (AV.bool y4 :: Env.sp 1 (AV.int IntKind.i64 y5 :: Env.sp 64 (AV.ptr y6 :: AV.int IntKind.i64 y7 :: AV.bool y8 :: AV.bool y9 :: AV.bool y10 :: AV.bool y11 :: AV.int IntKind.i64 y12 :: AV.bool y13 :: AV.bool y14 :: AV.bool y15 :: AV.bool y16 :: AV.bool y17 :: AV.tuple [] :: AV.tuple [] :: AV.tuple [] :: AV.tuple [] :: AV.bool y18 :: AV.bool y19 :: AV.tuple [] :: AV.tuple [] :: AV.tuple [] :: AV.tuple [] :: AV.bool y20 :: AV.bool y21 :: AV.tuple [] :: AV.bool y22 :: []))))
def f3e38 (y0 : Int) (y1 : Int) (y2 : Bool) (y3 : Option (Nat × Nat)) (y4 : Bool) (y5 : Int) (y6 : Option (Nat × Nat)) (y7 : Int) (y8 : Bool) (y9 : Bool) (y10 : Bool) (y11 : Bool) (y12 : Bool) (y13 : Bool) (y14 : Bool) (y15 : Bool) (y16 : Bool) (y17 : Bool) (y18 : Bool) : Env := AV.int IntKind.i64 y0 :: AV.int IntKind.i64 y1 :: Env.sp 2 (AV.bool y2 :: AV.ptr y3 :: Env.sp 4 (AV.bool y4 :: Env.sp 1 (AV.int IntKind.i64 y5 :: Env.sp 64 (AV.ptr y6 :: AV.int IntKind.i64 y7 :: AV.bool y8 :: AV.bool y9 :: AV.bool y10 :: AV.bool y11 :: AV.tuple [] :: AV.tuple [] :: AV.tuple [] :: AV.tuple [] :: AV.bool y12 :: AV.bool y13 :: AV.tuple [] :: AV.tuple [] :: AV.tuple [] :: AV.tuple [] :: AV.bool y14 :: AV.bool y15 :: AV.tuple [] :: AV.tuple [] :: AV.tuple [] :: AV.tuple [] :: AV.bool y16 :: AV.bool y17 :: AV.tuple [] :: AV.bool y18 :: []))))

/- function 3 -/
theorem f3_eq {R : Type} (call : Bool → CallF R) (dem : Bool) (N : Nat) (y0 : Int) (y1 : Int) (σ : St) (K : AV → St → Option R) :
    bodyK Try.prog call dem N ann 3 [AV.int IntKind.i64 y0, AV.int IntKind.i64 y1] σ K = runK Try.prog call dem N f3c0 f3a0 (bodyC Try.prog f3rs K) (f3e0 y0 y1) σ := bodyK_of (fn := ((Try.prog.funcs[3]?).get rfl)) (by kernel_rfl) (by kernel_rfl) (by kernel_rfl) (by kernel_rfl) (by kernel_rfl) (by kernel_rfl)
theorem f3n0 {R : Type} (call : Bool → CallF R) (dem : Bool) (N : Nat) (J : KF R) (e : Env) (σ : St) : runK Try.prog call dem N f3c0 f3a0 J e σ = runK Try.prog call dem N f3c1 f3a1 (seqC (fun K e σ => runK Try.prog call dem N f3c2 f3a2 K e σ) f3a0 J) e σ := runK_seq' (by kernel_rfl) (by kernel_rfl) (by kernel_rfl)
theorem f3r1_f3e0 {R : Type} (call : Bool → CallF R) (dem : Bool) (N : Nat) (y0 : Int) (y1 : Int) (J : KF R) (σ : St) :
    runK Try.prog call dem N f3c1 f3a1 J (f3e0 y0 y1) σ =
J Ex.normal (f3e1 y0 y1 false) σ := hide (by kernel_rfl)
theorem f3z0_f3e1 (y0 : Int) (y1 : Int) (y2 : Bool) : Ann.clr f3a0 (f3e1 y0 y1 y2) = f3e0 y0 y1 := hide (by kernel_rfl)
theorem f3n2 {R : Type} (call : Bool → CallF R) (dem : Bool) (N : Nat) (J : KF R) (e : Env) (σ : St) : runK Try.prog call dem N f3c2 f3a2 J e σ = runK Try.prog call dem N f3c3 f3a3 (seqC (fun K e σ => runK Try.prog call dem N f3c4 f3a4 K e σ) f3a2 J) e σ := runK_seq' (by kernel_rfl) (by kernel_rfl) (by kernel_rfl)
theorem f3r3_f3e0 {R : Type} (call : Bool → CallF R) (dem : Bool) (N : Nat) (y0 : Int) (y1 : Int) (J : KF R) (σ : St) :
    runK Try.prog call dem N f3c3 f3a3 J (f3e0 y0 y1) σ =
call dem (13 : Nat) [AV.int IntKind.i64 (1 : Int), AV.int IntKind.i64 (1 : Int)] σ fun v0 v1 =>
  Option.bind (AV.toTuple v0) fun v2 =>
    if List.length v2 = (2 : Nat) then
      Option.bind (List.head? v2) fun v3 =>
        Option.bind (AV.toPtr v3) fun v4 =>
          Option.bind (List.head? (List.tail v2)) fun v5 =>
            Option.bind (AV.toInt IntKind.i64 v5) fun v6 => J Ex.normal (f3e2 y0 y1 v4 v6 v4 v6 v4 v6 v4 v6) v1
    else none := hide (by kernel_rfl)
theorem f3z2_f3e2 (y0 : Int) (y1 : Int) (y2 : Option (Nat × Nat)) (y3 : Int) (y4 : Option (Nat × Nat)) (y5 : Int) (y6 : Option (Nat × Nat)) (y7 : Int) (y8 : Option (Nat × Nat)) (y9 : Int) : Ann.clr f3a2 (f3e2 y0 y1 y2 y3 y4 y5 y6 y7 y8 y9) = f3e3 y0 y1 y2 y3 := hide (by kernel_rfl)
theorem f3n4 {R : Type} (call : Bool → CallF R) (dem : Bool) (N : Nat) (J : KF R) (e : Env) (σ : St) : runK Try.prog call dem N f3c4 f3a4 J e σ = runK Try.prog call dem N f3c5 f3a5 (seqC (fun K e σ => runK Try.prog call dem N f3c6 f3a6 K e σ) f3a4 J) e σ := runK_seq' (by kernel_rfl) (by kernel_rfl) (by kernel_rfl)
theorem f3n5 {R : Type} (call : Bool → CallF R) (dem : Bool) (N : Nat) (J : KF R) (e : Env) (σ : St) : runK Try.prog call dem N f3c5 f3a5 J e σ = runK Try.prog call dem N f3c7 f3a7 (seqC (fun K e σ => runK Try.prog call dem N f3c8 f3a8 K e σ) f3a5 J) e σ := runK_seq' (by kernel_rfl) (by kernel_rfl) (by kernel_rfl)
theorem f3r7_f3e3 {R : Type} (call : Bool → CallF R) (dem : Bool) (N : Nat) (y0 : Int) (y1 : Int) (y2 : Option (Nat × Nat)) (y3 : Int) (J : KF R) (σ : St) :
    runK Try.prog call dem N f3c7 f3a7 J (f3e3 y0 y1 y2 y3) σ =
if (y3 != (0 : Int)) = true then J Ex.normal (f3e4 y0 y1 y2 y3 y3 (y3 != (0 : Int)) true true) σ
else J Ex.normal (f3e5 y0 y1 y2 y3 y3 (y3 != (0 : Int)) false y2 (Option.isNone y2) (Option.isNone y2)) σ := hide (by kernel_rfl)
theorem f3z5_f3e4 (y0 : Int) (y1 : Int) (y2 : Option (Nat × Nat)) (y3 : Int) (y4 : Int) (y5 : Bool) (y6 : Bool) (y7 : Bool) : Ann.clr f3a5 (f3e4 y0 y1 y2 y3 y4 y5 y6 y7) = f3e6 y0 y1 y2 y7 := hide (by kernel_rfl)
theorem f3x8_f3e6 {R : Type} (call : Bool → CallF R) (dem : Bool) (N : Nat) (y0 : Int) (y1 : Int) (y2 : Option (Nat × Nat)) (y3 : Bool) (J : KF R) (σ : St) : runK Try.prog call dem N f3c8 f3a8 J (f3e6 y0 y1 y2 y3) σ = if y3 = true then runK Try.prog call dem N f3c9 f3a9 (condC f3a8 J) (f3e6 y0 y1 y2 y3) σ else runK Try.prog call dem N f3c10 f3a10 (condC f3a8 J) (f3e6 y0 y1 y2 y3) σ := runK_cond' (o := Operand.tmp (22 : Nat)) (by kernel_rfl) (by kernel_rfl) (by kernel_rfl) (by kernel_rfl)
theorem f3n9 {R : Type} (call : Bool → CallF R) (dem : Bool) (N : Nat) (J : KF R) (e : Env) (σ : St) : runK Try.prog call dem N f3c9 f3a9 J e σ = runK Try.prog call dem N f3c11 f3a11 (seqC (fun K e σ => runK Try.prog call dem N f3c12 f3a12 K e σ) f3a9 J) e σ := runK_seq' (by kernel_rfl) (by kernel_rfl) (by kernel_rfl)
theorem f3r11_f3e6 {R : Type} (call : Bool → CallF R) (dem : Bool) (N : Nat) (y0 : Int) (y1 : Int) (y2 : Option (Nat × Nat)) (y3 : Bool) (J : KF R) (σ : St) :
    runK Try.prog call dem N f3c11 f3a11 J (f3e6 y0 y1 y2 y3) σ =
J Ex.normal (f3e7 y0 y1 false y2 y3) σ := hide (by kernel_rfl)
theorem f3z9_f3e7 (y0 : Int) (y1 : Int) (y2 : Bool) (y3 : Option (Nat × Nat)) (y4 : Bool) : Ann.clr f3a9 (f3e7 y0 y1 y2 y3 y4) = f3e8 y2 := hide (by kernel_rfl)
theorem f3y12_f3e8 {R : Type} (call : Bool → CallF R) (dem : Bool) (N : Nat) (y0 : Bool) (J : KF R) (σ : St) : runK Try.prog call dem N f3c12 f3a12 J (f3e8 y0) σ = J .ret (f3e8 y0) σ := runK_ret' (by kernel_rfl) (by kernel_rfl)
theorem f3n10 {R : Type} (call : Bool → CallF R) (dem : Bool) (N : Nat) (J : KF R) (e : Env) (σ : St) : runK Try.prog call dem N f3c10 f3a10 J e σ = J .normal e σ := runK_skip' (by kernel_rfl)
theorem f3z8_f3e6 (y0 : Int) (y1 : Int) (y2 : Option (Nat × Nat)) (y3 : Bool) : Ann.clr f3a8 (f3e6 y0 y1 y2 y3) = f3e9 y0 y1 y2 := hide (by kernel_rfl)
theorem f3z5_f3e5 (y0 : Int) (y1 : Int) (y2 : Option (Nat × Nat)) (y3 : Int) (y4 : Int) (y5 : Bool) (y6 : Bool) (y7 : Option (Nat × Nat)) (y8 : Bool) (y9 : Bool) : Ann.clr f3a5 (f3e5 y0 y1 y2 y3 y4 y5 y6 y7 y8 y9) = f3e6 y0 y1 y2 y9 := hide (by kernel_rfl)
theorem f3z4_f3e9 (y0 : Int) (y1 : Int) (y2 : Option (Nat × Nat)) : Ann.clr f3a4 (f3e9 y0 y1 y2) = f3e9 y0 y1 y2 := hide (by kernel_rfl)
theorem f3n6 {R : Type} (call : Bool → CallF R) (dem : Bool) (N : Nat) (J : KF R) (e : Env) (σ : St) : runK Try.prog call dem N f3c6 f3a6 J e σ = runK Try.prog call dem N f3c13 f3a13 (seqC (fun K e σ => runK Try.prog call dem N f3c14 f3a14 K e σ) f3a6 J) e σ := runK_seq' (by kernel_rfl) (by kernel_rfl) (by kernel_rfl)
theorem f3r13_f3e9 {R : Type} (call : Bool → CallF R) (dem : Bool) (N : Nat) (y0 : Int) (y1 : Int) (y2 : Option (Nat × Nat)) (J : KF R) (σ : St) :
    runK Try.prog call dem N f3c13 f3a13 J (f3e9 y0 y1 y2) σ =
call dem (14 : Nat) [AV.ptr y2, AV.int IntKind.i64 y0] σ fun v0 v1 =>
  Option.bind (AV.toTuple v0) fun v2 =>
    if List.length v2 = (2 : Nat) then
      Option.bind (List.head? v2) fun v3 =>
        Option.bind (AV.toBool v3) fun v4 =>
          Option.bind (List.head? (List.tail v2)) fun v5 =>
            Option.bind (AV.toInt IntKind.i64 v5) fun v6 => J Ex.normal (f3e10 y0 y1 y2 v4 v6 v4 v6 y2 y0 v4 v6 v4 v6) v1
    else none := hide (by kernel_rfl)
theorem f3z6_f3e10 (y0 : Int) (y1 : Int) (y2 : Option (Nat × Nat)) (y3 : Bool) (y4 : Int) (y5 : Bool) (y6 : Int) (y7 : Option (Nat × Nat)) (y8 : Int) (y9 : Bool) (y10 : Int) (y11 : Bool) (y12 : Int) : Ann.clr f3a6 (f3e10 y0 y1 y2 y3 y4 y5 y6 y7 y8 y9 y10 y11 y12) = f3e11 y0 y1 y2 y3 y4 := hide (by kernel_rfl)
theorem f3n14 {R : Type} (call : Bool → CallF R) (dem : Bool) (N : Nat) (J : KF R) (e : Env) (σ : St) : runK Try.prog call dem N f3c14 f3a14 J e σ = runK Try.prog call dem N f3c15 f3a15 (seqC (fun K e σ => runK Try.prog call dem N f3c16 f3a16 K e σ) f3a14 J) e σ := runK_seq' (by kernel_rfl) (by kernel_rfl) (by kernel_rfl)
theorem f3n15 {R : Type} (call : Bool → CallF R) (dem : Bool) (N : Nat) (J : KF R) (e : Env) (σ : St) : runK Try.prog call dem N f3c15 f3a15 J e σ = runK Try.prog call dem N f3c17 f3a17 (seqC (fun K e σ => runK Try.prog call dem N f3c18 f3a18 K e σ) f3a15 J) e σ := runK_seq' (by kernel_rfl) (by kernel_rfl) (by kernel_rfl)
theorem f3r17_f3e11 {R : Type} (call : Bool → CallF R) (dem : Bool) (N : Nat) (y0 : Int) (y1 : Int) (y2 : Option (Nat × Nat)) (y3 : Bool) (y4 : Int) (J : KF R) (σ : St) :
    runK Try.prog call dem N f3c17 f3a17 J (f3e11 y0 y1 y2 y3 y4) σ =
if decide (y0 < (0 : Int)) = true then J Ex.normal (f3e12 y0 y1 y2 y3 y4 y0 (decide (y0 < (0 : Int))) true true) σ
else
  J Ex.normal (f3e13 y0 y1 y2 y3 y4 y0 (decide (y0 < (0 : Int))) false y0 (decide (y0 > (1099511627768 : Int))) (decide (y0 > (1099511627768 : Int))))
    σ := hide (by kernel_rfl)
theorem f3z15_f3e12 (y0 : Int) (y1 : Int) (y2 : Option (Nat × Nat)) (y3 : Bool) (y4 : Int) (y5 : Int) (y6 : Bool) (y7 : Bool) (y8 : Bool) : Ann.clr f3a15 (f3e12 y0 y1 y2 y3 y4 y5 y6 y7 y8) = f3e14 y0 y1 y2 y3 y4 y8 := hide (by kernel_rfl)
theorem f3x18_f3e14 {R : Type} (call : Bool → CallF R) (dem : Bool) (N : Nat) (y0 : Int) (y1 : Int) (y2 : Option (Nat × Nat)) (y3 : Bool) (y4 : Int) (y5 : Bool) (J : KF R) (σ : St) : runK Try.prog call dem N f3c18 f3a18 J (f3e14 y0 y1 y2 y3 y4 y5) σ = if y5 = true then runK Try.prog call dem N f3c19 f3a19 (condC f3a18 J) (f3e14 y0 y1 y2 y3 y4 y5) σ else runK Try.prog call dem N f3c20 f3a20 (condC f3a18 J) (f3e14 y0 y1 y2 y3 y4 y5) σ := runK_cond' (o := Operand.tmp (34 : Nat)) (by kernel_rfl) (by kernel_rfl) (by kernel_rfl) (by kernel_rfl)
theorem f3n19 {R : Type} (call : Bool → CallF R) (dem : Bool) (N : Nat) (J : KF R) (e : Env) (σ : St) : runK Try.prog call dem N f3c19 f3a19 J e σ = runK Try.prog call dem N f3c21 f3a21 (seqC (fun K e σ => runK Try.prog call dem N f3c22 f3a22 K e σ) f3a19 J) e σ := runK_seq' (by kernel_rfl) (by kernel_rfl) (by kernel_rfl)
theorem f3r21_f3e14 {R : Type} (call : Bool → CallF R) (dem : Bool) (N : Nat) (y0 : Int) (y1 : Int) (y2 : Option (Nat × Nat)) (y3 : Bool) (y4 : Int) (y5 : Bool) (J : KF R) (σ : St) :
    runK Try.prog call dem N f3c21 f3a21 J (f3e14 y0 y1 y2 y3 y4 y5) σ =
if (y4 == (1 : Int)) = true then
  if (!y3) = true then
    call dem (15 : Nat) [] σ fun v0 v1 =>
      Option.bind (AV.toBool v0) fun v2 => J Ex.normal (f3e15 y0 y1 v2 y2 y3 y4 y5 y4 (y4 == (1 : Int)) true y3 (!y3) (!y3) true v2 v2) v1
  else J Ex.normal (f3e16 y0 y1 false y2 y3 y4 y5 y4 (y4 == (1 : Int)) true y3 (!y3) (!y3) false false) σ
else J Ex.normal (f3e17 y0 y1 false y2 y3 y4 y5 y4 (y4 == (1 : Int)) false false false false) σ := hide (by kernel_rfl)
theorem f3z19_f3e15 (y0 : Int) (y1 : Int) (y2 : Bool) (y3 : Option (Nat × Nat)) (y4 : Bool) (y5 : Int) (y6 : Bool) (y7 : Int) (y8 : Bool) (y9 : Bool) (y10 : Bool) (y11 : Bool) (y12 : Bool) (y13 : Bool) (y14 : Bool) (y15 : Bool) : Ann.clr f3a19 (f3e15 y0 y1 y2 y3 y4 y5 y6 y7 y8 y9 y10 y11 y12 y13 y14 y15) = f3e8 y2 := hide (by kernel_rfl)
theorem f3y22_f3e8 {R : Type} (call : Bool → CallF R) (dem : Bool) (N : Nat) (y0 : Bool) (J : KF R) (σ : St) : runK Try.prog call dem N f3c22 f3a22 J (f3e8 y0) σ = J .ret (f3e8 y0) σ := runK_ret' (by kernel_rfl) (by kernel_rfl)
theorem f3z19_f3e16 (y0 : Int) (y1 : Int) (y2 : Bool) (y3 : Option (Nat × Nat)) (y4 : Bool) (y5 : Int) (y6 : Bool) (y7 : Int) (y8 : Bool) (y9 : Bool) (y10 : Bool) (y11 : Bool) (y12 : Bool) (y13 : Bool) (y14 : Bool) : Ann.clr f3a19 (f3e16 y0 y1 y2 y3 y4 y5 y6 y7 y8 y9 y10 y11 y12 y13 y14) = f3e8 y2 := hide (by kernel_rfl)
theorem f3z19_f3e17 (y0 : Int) (y1 : Int) (y2 : Bool) (y3 : Option (Nat × Nat)) (y4 : Bool) (y5 : Int) (y6 : Bool) (y7 : Int) (y8 : Bool) (y9 : Bool) (y10 : Bool) (y11 : Bool) (y12 : Bool) : Ann.clr f3a19 (f3e17 y0 y1 y2 y3 y4 y5 y6 y7 y8 y9 y10 y11 y12) = f3e8 y2 := hide (by kernel_rfl)
theorem f3n20 {R : Type} (call : Bool → CallF R) (dem : Bool) (N : Nat) (J : KF R) (e : Env) (σ : St) : runK Try.prog call dem N f3c20 f3a20 J e σ = J .normal e σ := runK_skip' (by kernel_rfl)
theorem f3z18_f3e14 (y0 : Int) (y1 : Int) (y2 : Option (Nat × Nat)) (y3 : Bool) (y4 : Int) (y5 : Bool) : Ann.clr f3a18 (f3e14 y0 y1 y2 y3 y4 y5) = f3e11 y0 y1 y2 y3 y4 := hide (by kernel_rfl)
theorem f3z15_f3e13 (y0 : Int) (y1 : Int) (y2 : Option (Nat × Nat)) (y3 : Bool) (y4 : Int) (y5 : Int) (y6 : Bool) (y7 : Bool) (y8 : Int) (y9 : Bool) (y10 : Bool) : Ann.clr f3a15 (f3e13 y0 y1 y2 y3 y4 y5 y6 y7 y8 y9 y10) = f3e14 y0 y1 y2 y3 y4 y10 := hide (by kernel_rfl)
theorem f3z14_f3e11 (y0 : Int) (y1 : Int) (y2 : Option (Nat × Nat)) (y3 : Bool) (y4 : Int) : Ann.clr f3a14 (f3e11 y0 y1 y2 y3 y4) = f3e11 y0 y1 y2 y3 y4 := hide (by kernel_rfl)
theorem f3n16 {R : Type} (call : Bool → CallF R) (dem : Bool) (N : Nat) (J : KF R) (e : Env) (σ : St) : runK Try.prog call dem N f3c16 f3a16 J e σ = runK Try.prog call dem N f3c23 f3a23 (seqC (fun K e σ => runK Try.prog call dem N f3c24 f3a24 K e σ) f3a16 J) e σ := runK_seq' (by kernel_rfl) (by kernel_rfl) (by kernel_rfl)
theorem f3n23 {R : Type} (call : Bool → CallF R) (dem : Bool) (N : Nat) (J : KF R) (e : Env) (σ : St) : runK Try.prog call dem N f3c23 f3a23 J e σ = runK Try.prog call dem N f3c25 f3a25 (seqC (fun K e σ => runK Try.prog call dem N f3c26 f3a26 K e σ) f3a23 J) e σ := runK_seq' (by kernel_rfl) (by kernel_rfl) (by kernel_rfl)
theorem f3r25_f3e11 {R : Type} (call : Bool → CallF R) (dem : Bool) (N : Nat) (y0 : Int) (y1 : Int) (y2 : Option (Nat × Nat)) (y3 : Bool) (y4 : Int) (J : KF R) (σ : St) :
    runK Try.prog call dem N f3c25 f3a25 J (f3e11 y0 y1 y2 y3 y4) σ =
if (y4 != (0 : Int)) = true then J Ex.normal (f3e18 y0 y1 y2 y3 y4 y4 (y4 != (0 : Int)) true true) σ
else
  J Ex.normal
    (f3e19 y0 y1 y2 y3 y4 y4 (y4 != (0 : Int)) false y3 y0 (decide (y0 > (0 : Int))) (!y3 == decide (y0 > (0 : Int))) !y3 == decide (y0 > (0 : Int)))
    σ := hide (by kernel_rfl)
theorem f3z23_f3e18 (y0 : Int) (y1 : Int) (y2 : Option (Nat × Nat)) (y3 : Bool) (y4 : Int) (y5 : Int) (y6 : Bool) (y7 : Bool) (y8 : Bool) : Ann.clr f3a23 (f3e18 y0 y1 y2 y3 y4 y5 y6 y7 y8) = f3e20 y0 y1 y2 y8 := hide (by kernel_rfl)
theorem f3x26_f3e20 {R : Type} (call : Bool → CallF R) (dem : Bool) (N : Nat) (y0 : Int) (y1 : Int) (y2 : Option (Nat × Nat)) (y3 : Bool) (J : KF R) (σ : St) : runK Try.prog call dem N f3c26 f3a26 J (f3e20 y0 y1 y2 y3) σ = if y3 = true then runK Try.prog call dem N f3c27 f3a27 (condC f3a26 J) (f3e20 y0 y1 y2 y3) σ else runK Try.prog call dem N f3c28 f3a28 (condC f3a26 J) (f3e20 y0 y1 y2 y3) σ := runK_cond' (o := Operand.tmp (51 : Nat)) (by kernel_rfl) (by kernel_rfl) (by kernel_rfl) (by kernel_rfl)
theorem f3n27 {R : Type} (call : Bool → CallF R) (dem : Bool) (N : Nat) (J : KF R) (e : Env) (σ : St) : runK Try.prog call dem N f3c27 f3a27 J e σ = runK Try.prog call dem N f3c29 f3a29 (seqC (fun K e σ => runK Try.prog call dem N f3c30 f3a30 K e σ) f3a27 J) e σ := runK_seq' (by kernel_rfl) (by kernel_rfl) (by kernel_rfl)
theorem f3r29_f3e20 {R : Type} (call : Bool → CallF R) (dem : Bool) (N : Nat) (y0 : Int) (y1 : Int) (y2 : Option (Nat × Nat)) (y3 : Bool) (J : KF R) (σ : St) :
    runK Try.prog call dem N f3c29 f3a29 J (f3e20 y0 y1 y2 y3) σ =
J Ex.normal (f3e21 y0 y1 false y2 y3) σ := hide (by kernel_rfl)
theorem f3z27_f3e21 (y0 : Int) (y1 : Int) (y2 : Bool) (y3 : Option (Nat × Nat)) (y4 : Bool) : Ann.clr f3a27 (f3e21 y0 y1 y2 y3 y4) = f3e8 y2 := hide (by kernel_rfl)
theorem f3y30_f3e8 {R : Type} (call : Bool → CallF R) (dem : Bool) (N : Nat) (y0 : Bool) (J : KF R) (σ : St) : runK Try.prog call dem N f3c30 f3a30 J (f3e8 y0) σ = J .ret (f3e8 y0) σ := runK_ret' (by kernel_rfl) (by kernel_rfl)
theorem f3n28 {R : Type} (call : Bool → CallF R) (dem : Bool) (N : Nat) (J : KF R) (e : Env) (σ : St) : runK Try.prog call dem N f3c28 f3a28 J e σ = J .normal e σ := runK_skip' (by kernel_rfl)
theorem f3z26_f3e20 (y0 : Int) (y1 : Int) (y2 : Option (Nat × Nat)) (y3 : Bool) : Ann.clr f3a26 (f3e20 y0 y1 y2 y3) = f3e9 y0 y1 y2 := hide (by kernel_rfl)
theorem f3z23_f3e19 (y0 : Int) (y1 : Int) (y2 : Option (Nat × Nat)) (y3 : Bool) (y4 : Int) (y5 : Int) (y6 : Bool) (y7 : Bool) (y8 : Bool) (y9 : Int) (y10 : Bool) (y11 : Bool) (y12 : Bool) : Ann.clr f3a23 (f3e19 y0 y1 y2 y3 y4 y5 y6 y7 y8 y9 y10 y11 y12) = f3e20 y0 y1 y2 y12 := hide (by kernel_rfl)
theorem f3z16_f3e9 (y0 : Int) (y1 : Int) (y2 : Option (Nat × Nat)) : Ann.clr f3a16 (f3e9 y0 y1 y2) = f3e9 y0 y1 y2 := hide (by kernel_rfl)
theorem f3n24 {R : Type} (call : Bool → CallF R) (dem : Bool) (N : Nat) (J : KF R) (e : Env) (σ : St) : runK Try.prog call dem N f3c24 f3a24 J e σ = runK Try.prog call dem N f3c31 f3a31 (seqC (fun K e σ => runK Try.prog call dem N f3c32 f3a32 K e σ) f3a24 J) e σ := runK_seq' (by kernel_rfl) (by kernel_rfl) (by kernel_rfl)
theorem f3n31 {R : Type} (call : Bool → CallF R) (dem : Bool) (N : Nat) (J : KF R) (e : Env) (σ : St) : runK Try.prog call dem N f3c31 f3a31 J e σ = runK Try.prog call dem N f3c33 f3a33 (seqC (fun K e σ => runK Try.prog call dem N f3c34 f3a34 K e σ) f3a31 J) e σ := runK_seq' (by kernel_rfl) (by kernel_rfl) (by kernel_rfl)
theorem f3r33_f3e9 {R : Type} (call : Bool → CallF R) (dem : Bool) (N : Nat) (y0 : Int) (y1 : Int) (y2 : Option (Nat × Nat)) (J : KF R) (σ : St) :
    runK Try.prog call dem N f3c33 f3a33 J (f3e9 y0 y1 y2) σ =
J Ex.normal (f3e22 y0 y1 y2 (1 : Int)) σ := hide (by kernel_rfl)
theorem f3z31_f3e22 (y0 : Int) (y1 : Int) (y2 : Option (Nat × Nat)) (y3 : Int) : Ann.clr f3a31 (f3e22 y0 y1 y2 y3) = f3e22 y0 y1 y2 y3 := hide (by kernel_rfl)
theorem f3n34 {R : Type} (call : Bool → CallF R) (dem : Bool) (N : Nat) (J : KF R) (e : Env) (σ : St) : runK Try.prog call dem N f3c34 f3a34 J e σ = runK Try.prog call dem N f3c35 f3a35 (blockC 0 f3a34 J) e σ := runK_block' (by kernel_rfl) (by kernel_rfl)
theorem f3L35_eq {R : Type} (call : Bool → CallF R) (dem : Bool) (N : Nat) (J : KF R) (e : Env) (σ : St) : f3L35 call dem N J e σ = runK Try.prog call dem N f3c36 f3a36 J e σ := hide rfl
theorem f3z35_f3e22 (y0 : Int) (y1 : Int) (y2 : Option (Nat × Nat)) (y3 : Int) : Ann.clr f3a35 (f3e22 y0 y1 y2 y3) = f3e22 y0 y1 y2 y3 := hide (by kernel_rfl)
theorem f3l35_f3e22 {R : Type} (call : Bool → CallF R) (dem : Bool) (N : Nat) (y0 : Int) (y1 : Int) (y2 : Option (Nat × Nat)) (y3 : Int) (J : KF R) (σ : St) : runK Try.prog call dem N f3c35 f3a35 J (f3e22 y0 y1 y2 y3) σ = loopK (f3L35 call dem N) f3a35 N J (f3e22 y0 y1 y2 y3) σ := runK_loop' (by kernel_rfl) (by kernel_rfl) (by kernel_rfl)
theorem f3n36 {R : Type} (call : Bool → CallF R) (dem : Bool) (N : Nat) (J : KF R) (e : Env) (σ : St) : runK Try.prog call dem N f3c36 f3a36 J e σ = runK Try.prog call dem N f3c37 f3a37 (seqC (fun K e σ => runK Try.prog call dem N f3c38 f3a38 K e σ) f3a36 J) e σ := runK_seq' (by kernel_rfl) (by kernel_rfl) (by kernel_rfl)
theorem f3n37 {R : Type} (call : Bool → CallF R) (dem : Bool) (N : Nat) (J : KF R) (e : Env) (σ : St) : runK Try.prog call dem N f3c37 f3a37 J e σ = runK Try.prog call dem N f3c39 f3a39 (seqC (fun K e σ => runK Try.prog call dem N f3c40 f3a40 K e σ) f3a37 J) e σ := runK_seq' (by kernel_rfl) (by kernel_rfl) (by kernel_rfl)
theorem f3r39_f3e22 {R : Type} (call : Bool → CallF R) (dem : Bool) (N : Nat) (y0 : Int) (y1 : Int) (y2 : Option (Nat × Nat)) (y3 : Int) (J : KF R) (σ : St) :
    runK Try.prog call dem N f3c39 f3a39 J (f3e22 y0 y1 y2 y3) σ =
J Ex.normal (f3e23 y0 y1 y2 y3 y3 (decide (y3 ≤ (8 : Int)))) σ := hide (by kernel_rfl)
theorem f3z37_f3e23 (y0 : Int) (y1 : Int) (y2 : Option (Nat × Nat)) (y3 : Int) (y4 : Int) (y5 : Bool) : Ann.clr f3a37 (f3e23 y0 y1 y2 y3 y4 y5) = f3e24 y0 y1 y2 y3 y5 := hide (by kernel_rfl)
theorem f3x40_f3e24 {R : Type} (call : Bool → CallF R) (dem : Bool) (N : Nat) (y0 : Int) (y1 : Int) (y2 : Option (Nat × Nat)) (y3 : Int) (y4 : Bool) (J : KF R) (σ : St) : runK Try.prog call dem N f3c40 f3a40 J (f3e24 y0 y1 y2 y3 y4) σ = if y4 = true then runK Try.prog call dem N f3c41 f3a41 (condC f3a40 J) (f3e24 y0 y1 y2 y3 y4) σ else runK Try.prog call dem N f3c42 f3a42 (condC f3a40 J) (f3e24 y0 y1 y2 y3 y4) σ := runK_cond' (o := Operand.tmp (53 : Nat)) (by kernel_rfl) (by kernel_rfl) (by kernel_rfl) (by kernel_rfl)
theorem f3n41 {R : Type} (call : Bool → CallF R) (dem : Bool) (N : Nat) (J : KF R) (e : Env) (σ : St) : runK Try.prog call dem N f3c41 f3a41 J e σ = J .normal e σ := runK_skip' (by kernel_rfl)
theorem f3z40_f3e24 (y0 : Int) (y1 : Int) (y2 : Option (Nat × Nat)) (y3 : Int) (y4 : Bool) : Ann.clr f3a40 (f3e24 y0 y1 y2 y3 y4) = f3e22 y0 y1 y2 y3 := hide (by kernel_rfl)
theorem f3y42_f3e24 {R : Type} (call : Bool → CallF R) (dem : Bool) (N : Nat) (y0 : Int) (y1 : Int) (y2 : Option (Nat × Nat)) (y3 : Int) (y4 : Bool) (J : KF R) (σ : St) : runK Try.prog call dem N f3c42 f3a42 J (f3e24 y0 y1 y2 y3 y4) σ = J (.exit 0) (f3e9 y0 y1 y2) σ := runK_exit' (by kernel_rfl) (by kernel_rfl)
theorem f3z36_f3e22 (y0 : Int) (y1 : Int) (y2 : Option (Nat × Nat)) (y3 : Int) : Ann.clr f3a36 (f3e22 y0 y1 y2 y3) = f3e22 y0 y1 y2 y3 := hide (by kernel_rfl)
theorem f3n38 {R : Type} (call : Bool → CallF R) (dem : Bool) (N : Nat) (J : KF R) (e : Env) (σ : St) : runK Try.prog call dem N f3c38 f3a38 J e σ = runK Try.prog call dem N f3c43 f3a43 (seqC (fun K e σ => runK Try.prog call dem N f3c44 f3a44 K e σ) f3a38 J) e σ := runK_seq' (by kernel_rfl) (by kernel_rfl) (by kernel_rfl)
theorem f3n43 {R : Type} (call : Bool → CallF R) (dem : Bool) (N : Nat) (J : KF R) (e : Env) (σ : St) : runK Try.prog call dem N f3c43 f3a43 J e σ = runK Try.prog call dem N f3c45 f3a45 (blockC 1 f3a43 J) e σ := runK_block' (by kernel_rfl) (by kernel_rfl)
theorem f3n45 {R : Type} (call : Bool → CallF R) (dem : Bool) (N : Nat) (J : KF R) (e : Env) (σ : St) : runK Try.prog call dem N f3c45 f3a45 J e σ = runK Try.prog call dem N f3c46 f3a46 (seqC (fun K e σ => runK Try.prog call dem N f3c47 f3a47 K e σ) f3a45 J) e σ := runK_seq' (by kernel_rfl) (by kernel_rfl) (by kernel_rfl)
theorem f3r46_f3e22 {R : Type} (call : Bool → CallF R) (dem : Bool) (N : Nat) (y0 : Int) (y1 : Int) (y2 : Option (Nat × Nat)) (y3 : Int) (J : KF R) (σ : St) :
    runK Try.prog call dem N f3c46 f3a46 J (f3e22 y0 y1 y2 y3) σ =
call dem (16 : Nat) [AV.ptr y2, AV.int IntKind.i64 (IntKind.wrap IntKind.i64 (y0 + y3))] σ fun v0 v1 =>
  Option.bind (AV.toBool v0) fun v2 => J Ex.normal (f3e25 y0 y1 y2 y3 y2 y0 y3 (IntKind.wrap IntKind.i64 (y0 + y3)) v2 !v2) v1 := hide (by kernel_rfl)
theorem f3z45_f3e25 (y0 : Int) (y1 : Int) (y2 : Option (Nat × Nat)) (y3 : Int) (y4 : Option (Nat × Nat)) (y5 : Int) (y6 : Int) (y7 : Int) (y8 : Bool) (y9 : Bool) : Ann.clr f3a45 (f3e25 y0 y1 y2 y3 y4 y5 y6 y7 y8 y9) = f3e26 y0 y1 y2 y3 y9 := hide (by kernel_rfl)
theorem f3x47_f3e26 {R : Type} (call : Bool → CallF R) (dem : Bool) (N : Nat) (y0 : Int) (y1 : Int) (y2 : Option (Nat × Nat)) (y3 : Int) (y4 : Bool) (J : KF R) (σ : St) : runK Try.prog call dem N f3c47 f3a47 J (f3e26 y0 y1 y2 y3 y4) σ = if y4 = true then runK Try.prog call dem N f3c48 f3a48 (condC f3a47 J) (f3e26 y0 y1 y2 y3 y4) σ else runK Try.prog call dem N f3c49 f3a49 (condC f3a47 J) (f3e26 y0 y1 y2 y3 y4) σ := runK_cond' (o := Operand.tmp (61 : Nat)) (by kernel_rfl) (by kernel_rfl) (by kernel_rfl) (by kernel_rfl)
theorem f3n48 {R : Type} (call : Bool → CallF R) (dem : Bool) (N : Nat) (J : KF R) (e : Env) (σ : St) : runK Try.prog call dem N f3c48 f3a48 J e σ = runK Try.prog call dem N f3c50 f3a50 (seqC (fun K e σ => runK Try.prog call dem N f3c51 f3a51 K e σ) f3a48 J) e σ := runK_seq' (by kernel_rfl) (by kernel_rfl) (by kernel_rfl)
theorem f3r50_f3e26 {R : Type} (call : Bool → CallF R) (dem : Bool) (N : Nat) (y0 : Int) (y1 : Int) (y2 : Option (Nat × Nat)) (y3 : Int) (y4 : Bool) (J : KF R) (σ : St) :
    runK Try.prog call dem N f3c50 f3a50 J (f3e26 y0 y1 y2 y3 y4) σ =
J Ex.normal (f3e27 y0 y1 false y2 y3 y4) σ := hide (by kernel_rfl)
theorem f3z48_f3e27 (y0 : Int) (y1 : Int) (y2 : Bool) (y3 : Option (Nat × Nat)) (y4 : Int) (y5 : Bool) : Ann.clr f3a48 (f3e27 y0 y1 y2 y3 y4 y5) = f3e8 y2 := hide (by kernel_rfl)
theorem f3y51_f3e8 {R : Type} (call : Bool → CallF R) (dem : Bool) (N : Nat) (y0 : Bool) (J : KF R) (σ : St) : runK Try.prog call dem N f3c51 f3a51 J (f3e8 y0) σ = J .ret (f3e8 y0) σ := runK_ret' (by kernel_rfl) (by kernel_rfl)
theorem f3n49 {R : Type} (call : Bool → CallF R) (dem : Bool) (N : Nat) (J : KF R) (e : Env) (σ : St) : runK Try.prog call dem N f3c49 f3a49 J e σ = J .normal e σ := runK_skip' (by kernel_rfl)
theorem f3z47_f3e26 (y0 : Int) (y1 : Int) (y2 : Option (Nat × Nat)) (y3 : Int) (y4 : Bool) : Ann.clr f3a47 (f3e26 y0 y1 y2 y3 y4) = f3e22 y0 y1 y2 y3 := hide (by kernel_rfl)
theorem f3z43_f3e22 (y0 : Int) (y1 : Int) (y2 : Option (Nat × Nat)) (y3 : Int) : Ann.clr f3a43 (f3e22 y0 y1 y2 y3) = f3e22 y0 y1 y2 y3 := hide (by kernel_rfl)
theorem f3z38_f3e22 (y0 : Int) (y1 : Int) (y2 : Option (Nat × Nat)) (y3 : Int) : Ann.clr f3a38 (f3e22 y0 y1 y2 y3) = f3e22 y0 y1 y2 y3 := hide (by kernel_rfl)
theorem f3r44_f3e22 {R : Type} (call : Bool → CallF R) (dem : Bool) (N : Nat) (y0 : Int) (y1 : Int) (y2 : Option (Nat × Nat)) (y3 : Int) (J : KF R) (σ : St) :
    runK Try.prog call dem N f3c44 f3a44 J (f3e22 y0 y1 y2 y3) σ =
J Ex.normal (f3e28 y0 y1 y2 (IntKind.wrap IntKind.i64 (y3 + (1 : Int))) y3 (IntKind.wrap IntKind.i64 (y3 + (1 : Int)))) σ := hide (by kernel_rfl)
theorem f3z35_f3e28 (y0 : Int) (y1 : Int) (y2 : Option (Nat × Nat)) (y3 : Int) (y4 : Int) (y5 : Int) : Ann.clr f3a35 (f3e28 y0 y1 y2 y3 y4 y5) = f3e22 y0 y1 y2 y3 := hide (by kernel_rfl)
theorem f3z34_f3e9 (y0 : Int) (y1 : Int) (y2 : Option (Nat × Nat)) : Ann.clr f3a34 (f3e9 y0 y1 y2) = f3e9 y0 y1 y2 := hide (by kernel_rfl)
theorem f3z24_f3e9 (y0 : Int) (y1 : Int) (y2 : Option (Nat × Nat)) : Ann.clr f3a24 (f3e9 y0 y1 y2) = f3e9 y0 y1 y2 := hide (by kernel_rfl)
theorem f3n32 {R : Type} (call : Bool → CallF R) (dem : Bool) (N : Nat) (J : KF R) (e : Env) (σ : St) : runK Try.prog call dem N f3c32 f3a32 J e σ = runK Try.prog call dem N f3c52 f3a52 (seqC (fun K e σ => runK Try.prog call dem N f3c53 f3a53 K e σ) f3a32 J) e σ := runK_seq' (by kernel_rfl) (by kernel_rfl) (by kernel_rfl)
theorem f3r52_f3e9 {R : Type} (call : Bool → CallF R) (dem : Bool) (N : Nat) (y0 : Int) (y1 : Int) (y2 : Option (Nat × Nat)) (J : KF R) (σ : St) :
    runK Try.prog call dem N f3c52 f3a52 J (f3e9 y0 y1 y2) σ =
if decide (y1 > y0) = true then
  J Ex.normal
    (f3e29 y0 y1 y2 (decide (IntKind.wrap IntKind.i64 (y1 - y0) ≤ (8 : Int))) y1 y0 (decide (y1 > y0)) true y1 y0 (IntKind.wrap IntKind.i64 (y1 - y0))
      (decide (IntKind.wrap IntKind.i64 (y1 - y0) ≤ (8 : Int))) (decide (IntKind.wrap IntKind.i64 (y1 - y0) ≤ (8 : Int))))
    σ
else J Ex.normal (f3e30 y0 y1 y2 false y1 y0 (decide (y1 > y0)) false false) σ := hide (by kernel_rfl)
theorem f3z32_f3e29 (y0 : Int) (y1 : Int) (y2 : Option (Nat × Nat)) (y3 : Bool) (y4 : Int) (y5 : Int) (y6 : Bool) (y7 : Bool) (y8 : Int) (y9 : Int) (y10 : Int) (y11 : Bool) (y12 : Bool) : Ann.clr f3a32 (f3e29 y0 y1 y2 y3 y4 y5 y6 y7 y8 y9 y10 y11 y12) = f3e31 y0 y1 y2 y3 := hide (by kernel_rfl)
theorem f3n53 {R : Type} (call : Bool → CallF R) (dem : Bool) (N : Nat) (J : KF R) (e : Env) (σ : St) : runK Try.prog call dem N f3c53 f3a53 J e σ = runK Try.prog call dem N f3c54 f3a54 (seqC (fun K e σ => runK Try.prog call dem N f3c55 f3a55 K e σ) f3a53 J) e σ := runK_seq' (by kernel_rfl) (by kernel_rfl) (by kernel_rfl)
theorem f3r54_f3e31 {R : Type} (call : Bool → CallF R) (dem : Bool) (N : Nat) (y0 : Int) (y1 : Int) (y2 : Option (Nat × Nat)) (y3 : Bool) (J : KF R) (σ : St) :
    runK Try.prog call dem N f3c54 f3a54 J (f3e31 y0 y1 y2 y3) σ =
call dem (17 : Nat) [AV.ptr y2, AV.int IntKind.i64 (0 : Int), AV.int IntKind.i64 y1] σ fun v0 v1 =>
  Option.bind (AV.toTuple v0) fun v2 =>
    if List.length v2 = (2 : Nat) then
      Option.bind (List.head? v2) fun v3 =>
        Option.bind (AV.toPtr v3) fun v4 =>
          Option.bind (List.head? (List.tail v2)) fun v5 =>
            Option.bind (AV.toInt IntKind.i64 v5) fun v6 => J Ex.normal (f3e32 y0 y1 y2 y3 v4 v6 v4 v6 y2 y1 v4 v6 v4 v6) v1
    else none := hide (by kernel_rfl)
theorem f3z53_f3e32 (y0 : Int) (y1 : Int) (y2 : Option (Nat × Nat)) (y3 : Bool) (y4 : Option (Nat × Nat)) (y5 : Int) (y6 : Option (Nat × Nat)) (y7 : Int) (y8 : Option (Nat × Nat)) (y9 : Int) (y10 : Option (Nat × Nat)) (y11 : Int) (y12 : Option (Nat × Nat)) (y13 : Int) : Ann.clr f3a53 (f3e32 y0 y1 y2 y3 y4 y5 y6 y7 y8 y9 y10 y11 y12 y13) = f3e33 y0 y1 y2 y3 y5 := hide (by kernel_rfl)
theorem f3n55 {R : Type} (call : Bool → CallF R) (dem : Bool) (N : Nat) (J : KF R) (e : Env) (σ : St) : runK Try.prog call dem N f3c55 f3a55 J e σ = runK Try.prog call dem N f3c56 f3a56 (seqC (fun K e σ => runK Try.prog call dem N f3c57 f3a57 K e σ) f3a55 J) e σ := runK_seq' (by kernel_rfl) (by kernel_rfl) (by kernel_rfl)
theorem f3r56_f3e33 {R : Type} (call : Bool → CallF R) (dem : Bool) (N : Nat) (y0 : Int) (y1 : Int) (y2 : Option (Nat × Nat)) (y3 : Bool) (y4 : Int) (J : KF R) (σ : St) :
    runK Try.prog call dem N f3c56 f3a56 J (f3e33 y0 y1 y2 y3 y4) σ =
call dem (16 : Nat) [AV.ptr y2, AV.int IntKind.i64 y1] σ fun v0 v1 =>
  Option.bind (AV.toBool v0) fun v2 =>
    if (v2 == y3) = true then
      if ((y4 == (0 : Int)) == y3) = true then
        call dem (16 : Nat) [AV.ptr y2, AV.int IntKind.i64 y0] v1 fun v3 v4 =>
          Option.bind (AV.toBool v3) fun v5 =>
            if (!v5) = true then
              call dem (18 : Nat) [AV.ptr y2] v4 fun v6 v7 =>
                Option.bind (AV.toInt IntKind.i64 v6) fun v8 =>
                  if (v8 == y0) = true then
                    call dem (15 : Nat) [] v7 fun v9 v10 =>
                      Option.bind (AV.toBool v9) fun v11 =>
                        J Ex.normal
                          (f3e34 y0 y1 v11 y2 y3 y4 y2 y1 v2 y3 (v2 == y3) true y4 (y4 == (0 : Int)) y3 ((y4 == (0 : Int)) == y3)
                            ((y4 == (0 : Int)) == y3) true y2 y0 v5 (!v5) (!v5) true y2 v8 y0 (v8 == y0) (v8 == y0) true v11 v11)
                          v10
                  else
                    J Ex.normal
                      (f3e35 y0 y1 false y2 y3 y4 y2 y1 v2 y3 (v2 == y3) true y4 (y4 == (0 : Int)) y3 ((y4 == (0 : Int)) == y3)
                        ((y4 == (0 : Int)) == y3) true y2 y0 v5 (!v5) (!v5) true y2 v8 y0 (v8 == y0) (v8 == y0) false false)
                      v7
            else
              J Ex.normal
                (f3e36 y0 y1 false y2 y3 y4 y2 y1 v2 y3 (v2 == y3) true y4 (y4 == (0 : Int)) y3 ((y4 == (0 : Int)) == y3) ((y4 == (0 : Int)) == y3)
                  true y2 y0 v5 (!v5) (!v5) false false false false)
                v4
      else
        J Ex.normal
          (f3e37 y0 y1 false y2 y3 y4 y2 y1 v2 y3 (v2 == y3) true y4 (y4 == (0 : Int)) y3 ((y4 == (0 : Int)) == y3) ((y4 == (0 : Int)) == y3) false
            false false false false false)
          v1
    else J Ex.normal (f3e38 y0 y1 false y2 y3 y4 y2 y1 v2 y3 (v2 == y3) false false false false false false false false) v1 := hide (by kernel_rfl)
theorem f3z55_f3e34 (y0 : Int) (y1 : Int) (y2 : Bool) (y3 : Option (Nat × Nat)) (y4 : Bool) (y5 : Int) (y6 : Option (Nat × Nat)) (y7 : Int) (y8 : Bool) (y9 : Bool) (y10 : Bool) (y11 : Bool) (y12 : Int) (y13 : Bool) (y14 : Bool) (y15 : Bool) (y16 : Bool) (y17 : Bool) (y18 : Option (Nat × Nat)) (y19 : Int) (y20 : Bool) (y21 : Bool) (y22 : Bool) (y23 : Bool) (y24 : Option (Nat × Nat)) (y25 : Int) (y26 : Int) (y27 : Bool) (y28 : Bool) (y29 : Bool) (y30 : Bool) (y31 : Bool) : Ann.clr f3a55 (f3e34 y0 y1 y2 y3 y4 y5 y6 y7 y8 y9 y10 y11 y12 y13 y14 y15 y16 y17 y18 y19 y20 y21 y22 y23 y24 y25 y26 y27 y28 y29 y30 y31) = f3e8 y2 := hide (by kernel_rfl)
theorem f3y57_f3e8 {R : Type} (call : Bool → CallF R) (dem : Bool) (N : Nat) (y0 : Bool) (J : KF R) (σ : St) : runK Try.prog call dem N f3c57 f3a57 J (f3e8 y0) σ = J .ret (f3e8 y0) σ := runK_ret' (by kernel_rfl) (by kernel_rfl)
theorem f3z55_f3e35 (y0 : Int) (y1 : Int) (y2 : Bool) (y3 : Option (Nat × Nat)) (y4 : Bool) (y5 : Int) (y6 : Option (Nat × Nat)) (y7 : Int) (y8 : Bool) (y9 : Bool) (y10 : Bool) (y11 : Bool) (y12 : Int) (y13 : Bool) (y14 : Bool) (y15 : Bool) (y16 : Bool) (y17 : Bool) (y18 : Option (Nat × Nat)) (y19 : Int) (y20 : Bool) (y21 : Bool) (y22 : Bool) (y23 : Bool) (y24 : Option (Nat × Nat)) (y25 : Int) (y26 : Int) (y27 : Bool) (y28 : Bool) (y29 : Bool) (y30 : Bool) : Ann.clr f3a55 (f3e35 y0 y1 y2 y3 y4 y5 y6 y7 y8 y9 y10 y11 y12 y13 y14 y15 y16 y17 y18 y19 y20 y21 y22 y23 y24 y25 y26 y27 y28 y29 y30) = f3e8 y2 := hide (by kernel_rfl)
theorem f3z55_f3e36 (y0 : Int) (y1 : Int) (y2 : Bool) (y3 : Option (Nat × Nat)) (y4 : Bool) (y5 : Int) (y6 : Option (Nat × Nat)) (y7 : Int) (y8 : Bool) (y9 : Bool) (y10 : Bool) (y11 : Bool) (y12 : Int) (y13 : Bool) (y14 : Bool) (y15 : Bool) (y16 : Bool) (y17 : Bool) (y18 : Option (Nat × Nat)) (y19 : Int) (y20 : Bool) (y21 : Bool) (y22 : Bool) (y23 : Bool) (y24 : Bool) (y25 : Bool) (y26 : Bool) : Ann.clr f3a55 (f3e36 y0 y1 y2 y3 y4 y5 y6 y7 y8 y9 y10 y11 y12 y13 y14 y15 y16 y17 y18 y19 y20 y21 y22 y23 y24 y25 y26) = f3e8 y2 := hide (by kernel_rfl)
theorem f3z55_f3e37 (y0 : Int) (y1 : Int) (y2 : Bool) (y3 : Option (Nat × Nat)) (y4 : Bool) (y5 : Int) (y6 : Option (Nat × Nat)) (y7 : Int) (y8 : Bool) (y9 : Bool) (y10 : Bool) (y11 : Bool) (y12 : Int) (y13 : Bool) (y14 : Bool) (y15 : Bool) (y16 : Bool) (y17 : Bool) (y18 : Bool) (y19 : Bool) (y20 : Bool) (y21 : Bool) (y22 : Bool) : Ann.clr f3a55 (f3e37 y0 y1 y2 y3 y4 y5 y6 y7 y8 y9 y10 y11 y12 y13 y14 y15 y16 y17 y18 y19 y20 y21 y22) = f3e8 y2 := hide (by kernel_rfl)
theorem f3z55_f3e38 (y0 : Int) (y1 : Int) (y2 : Bool) (y3 : Option (Nat × Nat)) (y4 : Bool) (y5 : Int) (y6 : Option (Nat × Nat)) (y7 : Int) (y8 : Bool) (y9 : Bool) (y10 : Bool) (y11 : Bool) (y12 : Bool) (y13 : Bool) (y14 : Bool) (y15 : Bool) (y16 : Bool) (y17 : Bool) (y18 : Bool) : Ann.clr f3a55 (f3e38 y0 y1 y2 y3 y4 y5 y6 y7 y8 y9 y10 y11 y12 y13 y14 y15 y16 y17 y18) = f3e8 y2 := hide (by kernel_rfl)
theorem f3z32_f3e30 (y0 : Int) (y1 : Int) (y2 : Option (Nat × Nat)) (y3 : Bool) (y4 : Int) (y5 : Int) (y6 : Bool) (y7 : Bool) (y8 : Bool) : Ann.clr f3a32 (f3e30 y0 y1 y2 y3 y4 y5 y6 y7 y8) = f3e31 y0 y1 y2 y3 := hide (by kernel_rfl)
theorem f3b_f3e8_r {R : Type} (y0 : Bool) (σ : St) (K : AV → St → Option R) : bodyC Try.prog f3rs K (Ex.ret) (f3e8 y0) σ =
K (AV.bool y0) σ := hide (by kernel_rfl)
attribute [go_sem] f3_eq f3n0 f3r1_f3e0 f3z0_f3e1 f3n2 f3r3_f3e0 f3z2_f3e2 f3n4 f3n5 f3r7_f3e3 f3z5_f3e4 f3x8_f3e6 f3n9 f3r11_f3e6 f3z9_f3e7 f3y12_f3e8 f3n10 f3z8_f3e6 f3z5_f3e5 f3z4_f3e9 f3n6 f3r13_f3e9 f3z6_f3e10 f3n14 f3n15 f3r17_f3e11 f3z15_f3e12 f3x18_f3e14 f3n19 f3r21_f3e14 f3z19_f3e15 f3y22_f3e8 f3z19_f3e16 f3z19_f3e17 f3n20 f3z18_f3e14 f3z15_f3e13 f3z14_f3e11 f3n16 f3n23 f3r25_f3e11 f3z23_f3e18 f3x26_f3e20 f3n27 f3r29_f3e20 f3z27_f3e21 f3y30_f3e8 f3n28 f3z26_f3e20 f3z23_f3e19 f3z16_f3e9 f3n24 f3n31 f3r33_f3e9 f3z31_f3e22 f3n34 f3L35_eq f3z35_f3e22 f3l35_f3e22 f3n36 f3n37 f3r39_f3e22 f3z37_f3e23 f3x40_f3e24 f3n41 f3z40_f3e24 f3y42_f3e24 f3z36_f3e22 f3n38 f3n43 f3n45 f3r46_f3e22 f3z45_f3e25 f3x47_f3e26 f3n48 f3r50_f3e26 f3z48_f3e27 f3y51_f3e8 f3n49 f3z47_f3e26 f3z43_f3e22 f3z38_f3e22 f3r44_f3e22 f3z35_f3e28 f3z34_f3e9 f3z24_f3e9 f3n32 f3r52_f3e9 f3z32_f3e29 f3n53 f3r54_f3e31 f3z53_f3e32 f3n55 f3r56_f3e33 f3z55_f3e34 f3y57_f3e8 f3z55_f3e35 f3z55_f3e36 f3z55_f3e37 f3z55_f3e38 f3z32_f3e30 f3b_f3e8_r

end Go.Proofs.Ytmgacgonoodkfaa
