/- What the machine does with each piece of code, in plain text. PRINTED by a program of this workplace; Lean checks it. -/
import Derived.Test.YtciibgjmdgpgnaaBeAnn
import Derived.Test.YtciibgjmdgpgnaaProg
import Derived.KernelRfl
import Derived.Attr
namespace Go.Proofs.Ytciibgjmdgpgnaa
open Go.AM
set_option maxRecDepth 100000
set_option linter.unusedVariables false
noncomputable def f3rs : List ResultVar := [ResultVar.tmp (4 : Nat)]
noncomputable def f3c0 : Code := subCode [] (bodyOf Try.prog 3)
def f3a0 : Ann := subAnn [] ann3
noncomputable def f3c1 : Code := subCode [0] (bodyOf Try.prog 3)
def f3a1 : Ann := subAnn [0] ann3
noncomputable def f3c2 : Code := subCode [1] (bodyOf Try.prog 3)
def f3a2 : Ann := subAnn [1] ann3
noncomputable def f3c3 : Code := subCode [1, 0] (bodyOf Try.prog 3)
def f3a3 : Ann := subAnn [1, 0] ann3
noncomputable def f3c4 : Code := subCode [1, 1] (bodyOf Try.prog 3)
def f3a4 : Ann := subAnn [1, 1] ann3
noncomputable def f3c5 : Code := subCode [1, 1, 0] (bodyOf Try.prog 3)
def f3a5 : Ann := subAnn [1, 1, 0] ann3
noncomputable def f3c6 : Code := subCode [1, 1, 1] (bodyOf Try.prog 3)
def f3a6 : Ann := subAnn [1, 1, 1] ann3
noncomputable def f3c7 : Code := subCode [1, 1, 0, 0] (bodyOf Try.prog 3)
def f3a7 : Ann := subAnn [1, 1, 0, 0] ann3
noncomputable def f3c8 : Code := subCode [1, 1, 0, 1] (bodyOf Try.prog 3)
def f3a8 : Ann := subAnn [1, 1, 0, 1] ann3
noncomputable def f3c9 : Code := subCode [1, 1, 0, 1, 0] (bodyOf Try.prog 3)
def f3a9 : Ann := subAnn [1, 1, 0, 1, 0] ann3
noncomputable def f3c10 : Code := subCode [1, 1, 0, 1, 1] (bodyOf Try.prog 3)
def f3a10 : Ann := subAnn [1, 1, 0, 1, 1] ann3
noncomputable def f3c11 : Code := subCode [1, 1, 0, 1, 0, 0] (bodyOf Try.prog 3)
def f3a11 : Ann := subAnn [1, 1, 0, 1, 0, 0] ann3
noncomputable def f3c12 : Code := subCode [1, 1, 0, 1, 0, 1] (bodyOf Try.prog 3)
def f3a12 : Ann := subAnn [1, 1, 0, 1, 0, 1] ann3
noncomputable def f3c13 : Code := subCode [1, 1, 1, 0] (bodyOf Try.prog 3)
def f3a13 : Ann := subAnn [1, 1, 1, 0] ann3
noncomputable def f3c14 : Code := subCode [1, 1, 1, 1] (bodyOf Try.prog 3)
def f3a14 : Ann := subAnn [1, 1, 1, 1] ann3
noncomputable def f3c15 : Code := subCode [1, 1, 1, 0, 0] (bodyOf Try.prog 3)
def f3a15 : Ann := subAnn [1, 1, 1, 0, 0] ann3
noncomputable def f3c16 : Code := subCode [1, 1, 1, 0, 1] (bodyOf Try.prog 3)
def f3a16 : Ann := subAnn [1, 1, 1, 0, 1] ann3
noncomputable def f3c17 : Code := subCode [1, 1, 1, 0, 1, 0] (bodyOf Try.prog 3)
def f3a17 : Ann := subAnn [1, 1, 1, 0, 1, 0] ann3
noncomputable def f3c18 : Code := subCode [1, 1, 1, 0, 1, 1] (bodyOf Try.prog 3)
def f3a18 : Ann := subAnn [1, 1, 1, 0, 1, 1] ann3
noncomputable def f3c19 : Code := subCode [1, 1, 1, 0, 1, 0, 0] (bodyOf Try.prog 3)
def f3a19 : Ann := subAnn [1, 1, 1, 0, 1, 0, 0] ann3
noncomputable def f3c20 : Code := subCode [1, 1, 1, 0, 1, 0, 1] (bodyOf Try.prog 3)
def f3a20 : Ann := subAnn [1, 1, 1, 0, 1, 0, 1] ann3
noncomputable def f3c21 : Code := subCode [1, 1, 1, 1, 0] (bodyOf Try.prog 3)
def f3a21 : Ann := subAnn [1, 1, 1, 1, 0] ann3
noncomputable def f3c22 : Code := subCode [1, 1, 1, 1, 1] (bodyOf Try.prog 3)
def f3a22 : Ann := subAnn [1, 1, 1, 1, 1] ann3
noncomputable def f3c23 : Code := subCode [1, 1, 1, 1, 1, 0] (bodyOf Try.prog 3)
def f3a23 : Ann := subAnn [1, 1, 1, 1, 1, 0] ann3
noncomputable def f3c24 : Code := subCode [1, 1, 1, 1, 1, 1] (bodyOf Try.prog 3)
def f3a24 : Ann := subAnn [1, 1, 1, 1, 1, 1] ann3
noncomputable def f3c25 : Code := subCode [1, 1, 1, 1, 1, 0, 0] (bodyOf Try.prog 3)
def f3a25 : Ann := subAnn [1, 1, 1, 1, 1, 0, 0] ann3
noncomputable def f3c26 : Code := subCode [1, 1, 1, 1, 1, 0, 1] (bodyOf Try.prog 3)
def f3a26 : Ann := subAnn [1, 1, 1, 1, 1, 0, 1] ann3
noncomputable def f3c27 : Code := subCode [1, 1, 1, 1, 1, 0, 1, 0] (bodyOf Try.prog 3)
def f3a27 : Ann := subAnn [1, 1, 1, 1, 1, 0, 1, 0] ann3
noncomputable def f3c28 : Code := subCode [1, 1, 1, 1, 1, 0, 1, 0, 0] (bodyOf Try.prog 3)
def f3a28 : Ann := subAnn [1, 1, 1, 1, 1, 0, 1, 0, 0] ann3
noncomputable def f3c29 : Code := subCode [1, 1, 1, 1, 1, 0, 1, 0, 0, 0] (bodyOf Try.prog 3)
def f3a29 : Ann := subAnn [1, 1, 1, 1, 1, 0, 1, 0, 0, 0] ann3
noncomputable def f3c30 : Code := subCode [1, 1, 1, 1, 1, 0, 1, 0, 0, 1] (bodyOf Try.prog 3)
def f3a30 : Ann := subAnn [1, 1, 1, 1, 1, 0, 1, 0, 0, 1] ann3
noncomputable def f3c31 : Code := subCode [1, 1, 1, 1, 1, 0, 1, 0, 0, 0, 0] (bodyOf Try.prog 3)
def f3a31 : Ann := subAnn [1, 1, 1, 1, 1, 0, 1, 0, 0, 0, 0] ann3
noncomputable def f3c32 : Code := subCode [1, 1, 1, 1, 1, 0, 1, 0, 0, 0, 1] (bodyOf Try.prog 3)
def f3a32 : Ann := subAnn [1, 1, 1, 1, 1, 0, 1, 0, 0, 0, 1] ann3
noncomputable def f3c33 : Code := subCode [1, 1, 1, 1, 1, 0, 1, 0, 0, 0, 1, 0] (bodyOf Try.prog 3)
def f3a33 : Ann := subAnn [1, 1, 1, 1, 1, 0, 1, 0, 0, 0, 1, 0] ann3
noncomputable def f3c34 : Code := subCode [1, 1, 1, 1, 1, 0, 1, 0, 0, 0, 1, 1] (bodyOf Try.prog 3)
def f3a34 : Ann := subAnn [1, 1, 1, 1, 1, 0, 1, 0, 0, 0, 1, 1] ann3
noncomputable def f3c35 : Code := subCode [1, 1, 1, 1, 1, 0, 1, 0, 0, 1, 0] (bodyOf Try.prog 3)
def f3a35 : Ann := subAnn [1, 1, 1, 1, 1, 0, 1, 0, 0, 1, 0] ann3
noncomputable def f3c36 : Code := subCode [1, 1, 1, 1, 1, 0, 1, 0, 0, 1, 1] (bodyOf Try.prog 3)
def f3a36 : Ann := subAnn [1, 1, 1, 1, 1, 0, 1, 0, 0, 1, 1] ann3
noncomputable def f3c37 : Code := subCode [1, 1, 1, 1, 1, 0, 1, 0, 0, 1, 0, 0] (bodyOf Try.prog 3)
def f3a37 : Ann := subAnn [1, 1, 1, 1, 1, 0, 1, 0, 0, 1, 0, 0] ann3
noncomputable def f3c38 : Code := subCode [1, 1, 1, 1, 1, 0, 1, 0, 0, 1, 0, 0, 0] (bodyOf Try.prog 3)
def f3a38 : Ann := subAnn [1, 1, 1, 1, 1, 0, 1, 0, 0, 1, 0, 0, 0] ann3
noncomputable def f3c39 : Code := subCode [1, 1, 1, 1, 1, 0, 1, 0, 0, 1, 0, 0, 1] (bodyOf Try.prog 3)
def f3a39 : Ann := subAnn [1, 1, 1, 1, 1, 0, 1, 0, 0, 1, 0, 0, 1] ann3
noncomputable def f3c40 : Code := subCode [1, 1, 1, 1, 1, 0, 1, 0, 0, 1, 0, 0, 1, 0] (bodyOf Try.prog 3)
def f3a40 : Ann := subAnn [1, 1, 1, 1, 1, 0, 1, 0, 0, 1, 0, 0, 1, 0] ann3
noncomputable def f3c41 : Code := subCode [1, 1, 1, 1, 1, 0, 1, 0, 0, 1, 0, 0, 1, 1] (bodyOf Try.prog 3)
def f3a41 : Ann := subAnn [1, 1, 1, 1, 1, 0, 1, 0, 0, 1, 0, 0, 1, 1] ann3
noncomputable def f3c42 : Code := subCode [1, 1, 1, 1, 1, 0, 1, 0, 0, 1, 0, 0, 1, 0, 0] (bodyOf Try.prog 3)
def f3a42 : Ann := subAnn [1, 1, 1, 1, 1, 0, 1, 0, 0, 1, 0, 0, 1, 0, 0] ann3
noncomputable def f3c43 : Code := subCode [1, 1, 1, 1, 1, 0, 1, 0, 0, 1, 0, 0, 1, 0, 1] (bodyOf Try.prog 3)
def f3a43 : Ann := subAnn [1, 1, 1, 1, 1, 0, 1, 0, 0, 1, 0, 0, 1, 0, 1] ann3
noncomputable def f3c44 : Code := subCode [1, 1, 1, 1, 1, 0, 1, 0, 0, 1, 0, 0, 1, 0, 1, 0] (bodyOf Try.prog 3)
def f3a44 : Ann := subAnn [1, 1, 1, 1, 1, 0, 1, 0, 0, 1, 0, 0, 1, 0, 1, 0] ann3
noncomputable def f3c45 : Code := subCode [1, 1, 1, 1, 1, 0, 1, 0, 0, 1, 0, 0, 1, 0, 1, 1] (bodyOf Try.prog 3)
def f3a45 : Ann := subAnn [1, 1, 1, 1, 1, 0, 1, 0, 0, 1, 0, 0, 1, 0, 1, 1] ann3
noncomputable def f3c46 : Code := subCode [1, 1, 1, 1, 1, 0, 1, 0, 0, 1, 0, 0, 1, 1, 0] (bodyOf Try.prog 3)
def f3a46 : Ann := subAnn [1, 1, 1, 1, 1, 0, 1, 0, 0, 1, 0, 0, 1, 1, 0] ann3
noncomputable def f3c47 : Code := subCode [1, 1, 1, 1, 1, 0, 1, 0, 0, 1, 0, 0, 1, 1, 1] (bodyOf Try.prog 3)
def f3a47 : Ann := subAnn [1, 1, 1, 1, 1, 0, 1, 0, 0, 1, 0, 0, 1, 1, 1] ann3
noncomputable def f3c48 : Code := subCode [1, 1, 1, 1, 1, 0, 1, 0, 0, 1, 0, 0, 1, 1, 1, 0] (bodyOf Try.prog 3)
def f3a48 : Ann := subAnn [1, 1, 1, 1, 1, 0, 1, 0, 0, 1, 0, 0, 1, 1, 1, 0] ann3
noncomputable def f3c49 : Code := subCode [1, 1, 1, 1, 1, 0, 1, 0, 0, 1, 0, 0, 1, 1, 1, 1] (bodyOf Try.prog 3)
def f3a49 : Ann := subAnn [1, 1, 1, 1, 1, 0, 1, 0, 0, 1, 0, 0, 1, 1, 1, 1] ann3
noncomputable def f3c50 : Code := subCode [1, 1, 1, 1, 1, 0, 1, 0, 0, 1, 0, 0, 1, 1, 1, 1, 0] (bodyOf Try.prog 3)
def f3a50 : Ann := subAnn [1, 1, 1, 1, 1, 0, 1, 0, 0, 1, 0, 0, 1, 1, 1, 1, 0] ann3
noncomputable def f3c51 : Code := subCode [1, 1, 1, 1, 1, 0, 1, 0, 0, 1, 0, 0, 1, 1, 1, 1, 1] (bodyOf Try.prog 3)
def f3a51 : Ann := subAnn [1, 1, 1, 1, 1, 0, 1, 0, 0, 1, 0, 0, 1, 1, 1, 1, 1] ann3
noncomputable def f3c52 : Code := subCode [1, 1, 1, 1, 1, 0, 1, 0, 0, 1, 0, 0, 1, 1, 1, 1, 0, 0] (bodyOf Try.prog 3)
def f3a52 : Ann := subAnn [1, 1, 1, 1, 1, 0, 1, 0, 0, 1, 0, 0, 1, 1, 1, 1, 0, 0] ann3
noncomputable def f3c53 : Code := subCode [1, 1, 1, 1, 1, 0, 1, 0, 0, 1, 0, 0, 1, 1, 1, 1, 0, 1] (bodyOf Try.prog 3)
def f3a53 : Ann := subAnn [1, 1, 1, 1, 1, 0, 1, 0, 0, 1, 0, 0, 1, 1, 1, 1, 0, 1] ann3
noncomputable def f3c54 : Code := subCode [1, 1, 1, 1, 1, 0, 1, 0, 0, 1, 0, 0, 1, 1, 1, 1, 0, 1, 0] (bodyOf Try.prog 3)
def f3a54 : Ann := subAnn [1, 1, 1, 1, 1, 0, 1, 0, 0, 1, 0, 0, 1, 1, 1, 1, 0, 1, 0] ann3
noncomputable def f3c55 : Code := subCode [1, 1, 1, 1, 1, 0, 1, 0, 0, 1, 0, 0, 1, 1, 1, 1, 0, 1, 1] (bodyOf Try.prog 3)
def f3a55 : Ann := subAnn [1, 1, 1, 1, 1, 0, 1, 0, 0, 1, 0, 0, 1, 1, 1, 1, 0, 1, 1] ann3
noncomputable def f3c56 : Code := subCode [1, 1, 1, 1, 1, 0, 1, 0, 0, 1, 0, 0, 1, 1, 1, 1, 0, 1, 0, 0] (bodyOf Try.prog 3)
def f3a56 : Ann := subAnn [1, 1, 1, 1, 1, 0, 1, 0, 0, 1, 0, 0, 1, 1, 1, 1, 0, 1, 0, 0] ann3
noncomputable def f3c57 : Code := subCode [1, 1, 1, 1, 1, 0, 1, 0, 0, 1, 0, 0, 1, 1, 1, 1, 0, 1, 0, 1] (bodyOf Try.prog 3)
def f3a57 : Ann := subAnn [1, 1, 1, 1, 1, 0, 1, 0, 0, 1, 0, 0, 1, 1, 1, 1, 0, 1, 0, 1] ann3
noncomputable def f3c58 : Code := subCode [1, 1, 1, 1, 1, 1, 0] (bodyOf Try.prog 3)
def f3a58 : Ann := subAnn [1, 1, 1, 1, 1, 1, 0] ann3
noncomputable def f3c59 : Code := subCode [1, 1, 1, 1, 1, 1, 1] (bodyOf Try.prog 3)
def f3a59 : Ann := subAnn [1, 1, 1, 1, 1, 1, 1] ann3
noncomputable def f3L27 {R : Type} (call : Bool → CallF R) (dem : Bool) (N : Nat) : KF R → Env → St → Option R := fun K e σ => runK Try.prog call dem N f3c28 f3a28 K e σ
def f3e0 (y0 : Int) (y1 : Int) : Env := AV.int IntKind.i64 y0 :: AV.int IntKind.i64 y1 :: Env.sp 81 []
def f3e1 (y0 : Int) (y1 : Int) (y2 : Bool) : Env := AV.int IntKind.i64 y0 :: AV.int IntKind.i64 y1 :: Env.sp 2 (AV.bool y2 :: Env.sp 78 [])
def f3e2 (y0 : Int) (y1 : Int) (y2 : Option (Nat × Nat)) (y3 : Option (Nat × Nat)) : Env := AV.int IntKind.i64 y0 :: AV.int IntKind.i64 y1 :: Env.sp 3 (AV.ptr y2 :: Env.sp 6 (AV.ptr y3 :: Env.sp 70 []))
def f3e3 (y0 : Int) (y1 : Int) (y2 : Option (Nat × Nat)) : Env := AV.int IntKind.i64 y0 :: AV.int IntKind.i64 y1 :: Env.sp 3 (AV.ptr y2 :: Env.sp 77 [])
def f3e4 (y0 : Int) (y1 : Int) (y2 : Option (Nat × Nat)) (y3 : Option (Nat × Nat)) (y4 : Bool) (y5 : Bool) (y6 : Bool) (y7 : Bool) (y8 : Bool) : Env := AV.int IntKind.i64 y0 :: AV.int IntKind.i64 y1 :: Env.sp 3 (AV.ptr y2 :: Env.sp 7 (AV.ptr y3 :: AV.bool y4 :: AV.bool y5 :: AV.tuple [] :: AV.tuple [] :: AV.bool y6 :: AV.bool y7 :: AV.tuple [] :: AV.tuple [] :: AV.bool y8 :: Env.sp 60 []))
def f3e5 (y0 : Int) (y1 : Int) (y2 : Option (Nat × Nat)) (y3 : Option (Nat × Nat)) (y4 : Bool) (y5 : Bool) (y6 : Int) (y7 : Bool) (y8 : Bool) (y9 : Bool) (y10 : Bool) : Env := AV.int IntKind.i64 y0 :: AV.int IntKind.i64 y1 :: Env.sp 3 (AV.ptr y2 :: Env.sp 7 (AV.ptr y3 :: AV.bool y4 :: AV.bool y5 :: AV.int IntKind.i64 y6 :: AV.bool y7 :: AV.bool y8 :: AV.bool y9 :: AV.tuple [] :: AV.tuple [] :: AV.bool y10 :: Env.sp 60 []))
def f3e6 (y0 : Int) (y1 : Int) (y2 : Option (Nat × Nat)) (y3 : Option (Nat × Nat)) (y4 : Bool) (y5 : Bool) (y6 : Int) (y7 : Bool) (y8 : Bool) (y9 : Bool) (y10 : Int) (y11 : Bool) (y12 : Bool) : Env := AV.int IntKind.i64 y0 :: AV.int IntKind.i64 y1 :: Env.sp 3 (AV.ptr y2 :: Env.sp 7 (AV.ptr y3 :: AV.bool y4 :: AV.bool y5 :: AV.int IntKind.i64 y6 :: AV.bool y7 :: AV.bool y8 :: AV.bool y9 :: AV.int IntKind.i64 y10 :: AV.bool y11 :: AV.bool y12 :: Env.sp 60 []))
def f3e7 (y0 : Int) (y1 : Int) (y2 : Option (Nat × Nat)) (y3 : Bool) : Env := AV.int IntKind.i64 y0 :: AV.int IntKind.i64 y1 :: Env.sp 3 (AV.ptr y2 :: Env.sp 16 (AV.bool y3 :: Env.sp 60 []))
def f3e8 (y0 : Int) (y1 : Int) (y2 : Bool) (y3 : Option (Nat × Nat)) (y4 : Bool) (y5 : Option (Nat × Nat)) (y6 : Bool) (y7 : Bool) (y8 : Bool) (y9 : Bool) : Env := AV.int IntKind.i64 y0 :: AV.int IntKind.i64 y1 :: Env.sp 2 (AV.bool y2 :: AV.ptr y3 :: Env.sp 16 (AV.bool y4 :: AV.ptr y5 :: AV.bool y6 :: AV.bool y7 :: AV.bool y8 :: AV.bool y9 :: Env.sp 55 []))
def f3e9 (y0 : Int) (y1 : Int) (y2 : Bool) (y3 : Option (Nat × Nat)) (y4 : Bool) (y5 : Option (Nat × Nat)) (y6 : Bool) (y7 : Bool) (y8 : Bool) : Env := AV.int IntKind.i64 y0 :: AV.int IntKind.i64 y1 :: Env.sp 2 (AV.bool y2 :: AV.ptr y3 :: Env.sp 16 (AV.bool y4 :: AV.ptr y5 :: AV.bool y6 :: AV.bool y7 :: AV.tuple [] :: AV.bool y8 :: Env.sp 55 []))
def f3e10 (y0 : Bool) : Env := Env.sp 4 (AV.bool y0 :: Env.sp 78 [])
def f3e11 (y0 : Int) (y1 : Int) (y2 : Option (Nat × Nat)) (y3 : Option (Nat × Nat)) (y4 : Int) (y5 : Int) (y6 : Bool) : Env := AV.int IntKind.i64 y0 :: AV.int IntKind.i64 y1 :: Env.sp 3 (AV.ptr y2 :: Env.sp 22 (AV.ptr y3 :: AV.int IntKind.i64 y4 :: AV.int IntKind.i64 y5 :: AV.bool y6 :: Env.sp 51 []))
def f3e12 (y0 : Int) (y1 : Int) (y2 : Option (Nat × Nat)) (y3 : Bool) : Env := AV.int IntKind.i64 y0 :: AV.int IntKind.i64 y1 :: Env.sp 3 (AV.ptr y2 :: Env.sp 25 (AV.bool y3 :: Env.sp 51 []))
def f3e13 (y0 : Int) (y1 : Int) (y2 : Bool) (y3 : Option (Nat × Nat)) (y4 : Bool) (y5 : Int) (y6 : Bool) (y7 : Bool) (y8 : Bool) (y9 : Bool) (y10 : Bool) (y11 : Bool) : Env := AV.int IntKind.i64 y0 :: AV.int IntKind.i64 y1 :: Env.sp 2 (AV.bool y2 :: AV.ptr y3 :: Env.sp 25 (AV.bool y4 :: AV.int IntKind.i64 y5 :: AV.bool y6 :: AV.bool y7 :: AV.tuple [] :: AV.tuple [] :: AV.bool y8 :: AV.bool y9 :: AV.bool y10 :: AV.bool y11 :: Env.sp 42 []))
def f3e14 (y0 : Int) (y1 : Int) (y2 : Bool) (y3 : Option (Nat × Nat)) (y4 : Bool) (y5 : Int) (y6 : Bool) (y7 : Bool) (y8 : Int) (y9 : Bool) (y10 : Bool) (y11 : Bool) (y12 : Bool) (y13 : Bool) : Env := AV.int IntKind.i64 y0 :: AV.int IntKind.i64 y1 :: Env.sp 2 (AV.bool y2 :: AV.ptr y3 :: Env.sp 25 (AV.bool y4 :: AV.int IntKind.i64 y5 :: AV.bool y6 :: AV.bool y7 :: AV.int IntKind.i64 y8 :: AV.bool y9 :: AV.bool y10 :: AV.bool y11 :: AV.bool y12 :: AV.bool y13 :: Env.sp 42 []))
def f3e15 (y0 : Int) (y1 : Int) (y2 : Bool) (y3 : Option (Nat × Nat)) (y4 : Bool) (y5 : Int) (y6 : Bool) (y7 : Bool) (y8 : Int) (y9 : Bool) (y10 : Bool) (y11 : Bool) (y12 : Bool) : Env := AV.int IntKind.i64 y0 :: AV.int IntKind.i64 y1 :: Env.sp 2 (AV.bool y2 :: AV.ptr y3 :: Env.sp 25 (AV.bool y4 :: AV.int IntKind.i64 y5 :: AV.bool y6 :: AV.bool y7 :: AV.int IntKind.i64 y8 :: AV.bool y9 :: AV.bool y10 :: AV.bool y11 :: AV.tuple [] :: AV.bool y12 :: Env.sp 42 []))
def f3e16 (y0 : Int) (y1 : Int) (y2 : Option (Nat × Nat)) (y3 : Int) (y4 : Int) : Env := AV.int IntKind.i64 y0 :: AV.int IntKind.i64 y1 :: Env.sp 3 (AV.ptr y2 :: AV.int IntKind.i64 y3 :: Env.sp 34 (AV.int IntKind.i64 y4 :: Env.sp 41 []))
def f3e17 (y0 : Int) (y1 : Option (Nat × Nat)) (y2 : Int) : Env := Env.sp 1 (AV.int IntKind.i64 y0 :: Env.sp 3 (AV.ptr y1 :: AV.int IntKind.i64 y2 :: Env.sp 76 []))
def f3e18 (y0 : Int) (y1 : Option (Nat × Nat)) (y2 : Int) (y3 : Int) : Env := Env.sp 1 (AV.int IntKind.i64 y0 :: Env.sp 3 (AV.ptr y1 :: AV.int IntKind.i64 y2 :: AV.int IntKind.i64 y3 :: Env.sp 75 []))
def f3e19 (y0 : Int) (y1 : Option (Nat × Nat)) (y2 : Int) (y3 : Int) (y4 : Int) (y5 : Int) (y6 : Bool) : Env := Env.sp 1 (AV.int IntKind.i64 y0 :: Env.sp 3 (AV.ptr y1 :: AV.int IntKind.i64 y2 :: AV.int IntKind.i64 y3 :: Env.sp 34 (AV.int IntKind.i64 y4 :: AV.int IntKind.i64 y5 :: AV.bool y6 :: Env.sp 38 [])))
def f3e20 (y0 : Int) (y1 : Option (Nat × Nat)) (y2 : Int) (y3 : Int) (y4 : Bool) : Env := Env.sp 1 (AV.int IntKind.i64 y0 :: Env.sp 3 (AV.ptr y1 :: AV.int IntKind.i64 y2 :: AV.int IntKind.i64 y3 :: Env.sp 36 (AV.bool y4 :: Env.sp 38 [])))
def f3e21 : Env := Env.sp 83 []
def f3e22 (y0 : Int) (y1 : Option (Nat × Nat)) (y2 : Int) (y3 : Int) (y4 : Int) (y5 : Int) : Env := Env.sp 1 (AV.int IntKind.i64 y0 :: Env.sp 3 (AV.ptr y1 :: AV.int IntKind.i64 y2 :: AV.int IntKind.i64 y3 :: Env.sp 39 (AV.int IntKind.i64 y4 :: AV.int IntKind.i64 y5 :: Env.sp 34 [])))
def f3e23 (y0 : Int) (y1 : Option (Nat × Nat)) (y2 : Int) (y3 : Int) (y4 : Int) (y5 : Bool) : Env := Env.sp 1 (AV.int IntKind.i64 y0 :: Env.sp 3 (AV.ptr y1 :: AV.int IntKind.i64 y2 :: AV.int IntKind.i64 y3 :: Env.sp 41 (AV.int IntKind.i64 y4 :: AV.bool y5 :: Env.sp 32 [])))
def f3e24 (y0 : Int) (y1 : Option (Nat × Nat)) (y2 : Int) (y3 : Int) (y4 : Bool) : Env := Env.sp 1 (AV.int IntKind.i64 y0 :: Env.sp 3 (AV.ptr y1 :: AV.int IntKind.i64 y2 :: AV.int IntKind.i64 y3 :: Env.sp 42 (AV.bool y4 :: Env.sp 32 [])))
def f3e25 (y0 : Int) (y1 : Option (Nat × Nat)) (y2 : Int) (y3 : Int) (y4 : Int) (y5 : Int) (y6 : Int) (y7 : Int) (y8 : Option (Nat × Nat)) (y9 : Int) (y10 : Int) (y11 : Int) (y12 : Int) : Env := Env.sp 1 (AV.int IntKind.i64 y0 :: Env.sp 3 (AV.ptr y1 :: AV.int IntKind.i64 y2 :: AV.int IntKind.i64 y3 :: AV.int IntKind.i64 y4 :: AV.int IntKind.i64 y5 :: Env.sp 41 (AV.tuple [AV.int IntKind.i64 y6, AV.int IntKind.i64 y7] :: AV.ptr y8 :: AV.tuple [AV.int IntKind.i64 y9, AV.int IntKind.i64 y10] :: AV.int IntKind.i64 y11 :: AV.int IntKind.i64 y12 :: Env.sp 27 [])))
def f3e26 (y0 : Int) (y1 : Option (Nat × Nat)) (y2 : Int) (y3 : Int) (y4 : Int) (y5 : Int) : Env := Env.sp 1 (AV.int IntKind.i64 y0 :: Env.sp 3 (AV.ptr y1 :: AV.int IntKind.i64 y2 :: AV.int IntKind.i64 y3 :: AV.int IntKind.i64 y4 :: AV.int IntKind.i64 y5 :: Env.sp 73 []))
def f3e27 (y0 : Int) (y1 : Option (Nat × Nat)) (y2 : Int) (y3 : Int) (y4 : Int) (y5 : Int) (y6 : Int) (y7 : Bool) (y8 : Int) (y9 : Bool) (y10 : Option (Nat × Nat)) (y11 : Int) (y12 : Bool) (y13 : Int) (y14 : Bool) : Env := Env.sp 1 (AV.int IntKind.i64 y0 :: Env.sp 3 (AV.ptr y1 :: AV.int IntKind.i64 y2 :: AV.int IntKind.i64 y3 :: AV.int IntKind.i64 y4 :: AV.int IntKind.i64 y5 :: AV.int IntKind.i64 y6 :: AV.bool y7 :: Env.sp 44 (AV.tuple [AV.int IntKind.i64 y8, AV.bool y9] :: AV.ptr y10 :: AV.tuple [AV.int IntKind.i64 y11, AV.bool y12] :: AV.int IntKind.i64 y13 :: AV.bool y14 :: Env.sp 22 [])))
def f3e28 (y0 : Int) (y1 : Option (Nat × Nat)) (y2 : Int) (y3 : Int) (y4 : Int) (y5 : Int) (y6 : Int) (y7 : Bool) : Env := Env.sp 1 (AV.int IntKind.i64 y0 :: Env.sp 3 (AV.ptr y1 :: AV.int IntKind.i64 y2 :: AV.int IntKind.i64 y3 :: AV.int IntKind.i64 y4 :: AV.int IntKind.i64 y5 :: AV.int IntKind.i64 y6 :: AV.bool y7 :: Env.sp 71 []))
def f3e29 (y0 : Int) (y1 : Option (Nat × Nat)) (y2 : Int) (y3 : Int) (y4 : Int) (y5 : Int) (y6 : Int) (y7 : Bool) (y8 : Int) (y9 : Bool) (y10 : Bool) (y11 : Bool) (y12 : Bool) (y13 : Bool) (y14 : Bool) (y15 : Bool) : Env := Env.sp 1 (AV.int IntKind.i64 y0 :: Env.sp 3 (AV.ptr y1 :: AV.int IntKind.i64 y2 :: AV.int IntKind.i64 y3 :: AV.int IntKind.i64 y4 :: AV.int IntKind.i64 y5 :: AV.int IntKind.i64 y6 :: AV.bool y7 :: Env.sp 49 (AV.int IntKind.i64 y8 :: AV.bool y9 :: AV.bool y10 :: AV.tuple [] :: AV.tuple [] :: AV.tuple [] :: AV.bool y11 :: AV.bool y12 :: AV.tuple [] :: AV.tuple [] :: AV.bool y13 :: AV.bool y14 :: AV.tuple [] :: AV.tuple [] :: AV.tuple [] :: AV.tuple [] :: AV.tuple [] :: AV.tuple [] :: AV.bool y15 :: Env.sp 3 [])))
def f3e30 (y0 : Int) (y1 : Option (Nat × Nat)) (y2 : Int) (y3 : Int) (y4 : Int) (y5 : Int) (y6 : Int) (y7 : Bool) (y8 : Int) (y9 : Bool) (y10 : Bool) (y11 : Int) (y12 : Int) (y13 : Bool) (y14 : Bool) (y15 : Bool) (y16 : Bool) (y17 : Bool) (y18 : Bool) : Env := Env.sp 1 (AV.int IntKind.i64 y0 :: Env.sp 3 (AV.ptr y1 :: AV.int IntKind.i64 y2 :: AV.int IntKind.i64 y3 :: AV.int IntKind.i64 y4 :: AV.int IntKind.i64 y5 :: AV.int IntKind.i64 y6 :: AV.bool y7 :: Env.sp 49 (AV.int IntKind.i64 y8 :: AV.bool y9 :: AV.bool y10 :: AV.int IntKind.i64 y11 :: AV.int IntKind.i64 y12 :: AV.bool y13 :: AV.bool y14 :: AV.bool y15 :: AV.tuple [] :: AV.tuple [] :: AV.bool y16 :: AV.bool y17 :: AV.tuple [] :: AV.tuple [] :: AV.tuple [] :: AV.tuple [] :: AV.tuple [] :: AV.tuple [] :: AV.bool y18 :: Env.sp 3 [])))
def f3e31 (y0 : Int) (y1 : Option (Nat × Nat)) (y2 : Int) (y3 : Int) (y4 : Int) (y5 : Int) (y6 : Int) (y7 : Bool) (y8 : Int) (y9 : Bool) (y10 : Bool) (y11 : Int) (y12 : Int) (y13 : Bool) (y14 : Bool) (y15 : Bool) (y16 : Bool) (y17 : Bool) (y18 : Bool) (y19 : Bool) (y20 : Bool) : Env := Env.sp 1 (AV.int IntKind.i64 y0 :: Env.sp 3 (AV.ptr y1 :: AV.int IntKind.i64 y2 :: AV.int IntKind.i64 y3 :: AV.int IntKind.i64 y4 :: AV.int IntKind.i64 y5 :: AV.int IntKind.i64 y6 :: AV.bool y7 :: Env.sp 49 (AV.int IntKind.i64 y8 :: AV.bool y9 :: AV.bool y10 :: AV.int IntKind.i64 y11 :: AV.int IntKind.i64 y12 :: AV.bool y13 :: AV.bool y14 :: AV.bool y15 :: AV.bool y16 :: AV.bool y17 :: AV.bool y18 :: AV.bool y19 :: AV.tuple [] :: AV.tuple [] :: AV.tuple [] :: AV.tuple [] :: AV.tuple [] :: AV.tuple [] :: AV.bool y20 :: Env.sp 3 [])))
def f3e32 (y0 : Int) (y1 : Option (Nat × Nat)) (y2 : Int) (y3 : Int) (y4 : Int) (y5 : Int) (y6 : Int) (y7 : Bool) (y8 : Int) (y9 : Bool) (y10 : Bool) (y11 : Int) (y12 : Int) (y13 : Bool) (y14 : Bool) (y15 : Bool) (y16 : Bool) (y17 : Bool) (y18 : Bool) (y19 : Bool) (y20 : Int) (y21 : Option (Nat × Nat)) (y22 : Int) (y23 : Int) (y24 : Int) (y25 : Bool) (y26 : Bool) : Env := Env.sp 1 (AV.int IntKind.i64 y0 :: Env.sp 3 (AV.ptr y1 :: AV.int IntKind.i64 y2 :: AV.int IntKind.i64 y3 :: AV.int IntKind.i64 y4 :: AV.int IntKind.i64 y5 :: AV.int IntKind.i64 y6 :: AV.bool y7 :: Env.sp 49 (AV.int IntKind.i64 y8 :: AV.bool y9 :: AV.bool y10 :: AV.int IntKind.i64 y11 :: AV.int IntKind.i64 y12 :: AV.bool y13 :: AV.bool y14 :: AV.bool y15 :: AV.bool y16 :: AV.bool y17 :: AV.bool y18 :: AV.bool y19 :: AV.int IntKind.i64 y20 :: AV.ptr y21 :: AV.int IntKind.i64 y22 :: AV.int IntKind.i64 y23 :: AV.int IntKind.i64 y24 :: AV.bool y25 :: AV.bool y26 :: Env.sp 3 [])))
def f3e33 (y0 : Int) (y1 : Option (Nat × Nat)) (y2 : Int) (y3 : Int) (y4 : Bool) : Env := Env.sp 1 (AV.int IntKind.i64 y0 :: Env.sp 3 (AV.ptr y1 :: AV.int IntKind.i64 y2 :: AV.int IntKind.i64 y3 :: Env.sp 71 (AV.bool y4 :: Env.sp 3 [])))
def f3e34 (y0 : Int) (y1 : Bool) (y2 : Option (Nat × Nat)) (y3 : Int) (y4 : Int) (y5 : Bool) : Env := Env.sp 1 (AV.int IntKind.i64 y0 :: Env.sp 2 (AV.bool y1 :: AV.ptr y2 :: AV.int IntKind.i64 y3 :: AV.int IntKind.i64 y4 :: Env.sp 71 (AV.bool y5 :: Env.sp 3 [])))
def f3e35 (y0 : Int) (y1 : Option (Nat × Nat)) (y2 : Int) (y3 : Int) (y4 : Option (Nat × Nat)) (y5 : Option (Nat × Nat)) (y6 : Nat) (y7 : Option Nat) (y8 : Int) : Env := Env.sp 1 (AV.int IntKind.i64 y0 :: Env.sp 3 (AV.ptr y1 :: AV.int IntKind.i64 y2 :: AV.int IntKind.i64 y3 :: Env.sp 72 (AV.ptr y4 :: AV.tuple [AV.slice y5 y6 y7 (1 : Nat), AV.int IntKind.i64 y8] :: Env.sp 1 [])))
def f3e36 (y0 : Int) (y1 : Option (Nat × Nat)) (y2 : Int) (y3 : Int) (y4 : Int) (y5 : Int) : Env := Env.sp 1 (AV.int IntKind.i64 y0 :: Env.sp 3 (AV.ptr y1 :: AV.int IntKind.i64 y2 :: AV.int IntKind.i64 y3 :: Env.sp 37 (AV.int IntKind.i64 y4 :: AV.int IntKind.i64 y5 :: Env.sp 36 [])))
def f3e37 (y0 : Bool) (y1 : Bool) : Env := Env.sp 4 (AV.bool y0 :: Env.sp 77 (AV.bool y1 :: []))

/- function 3 -/
theorem f3_eq {R : Type} (call : Bool → CallF R) (dem : Bool) (N : Nat) (y0 : Int) (y1 : Int) (σ : St) (K : AV → St → Option R) :
    bodyK Try.prog call dem N ann 3 [AV.int IntKind.i64 y0, AV.int IntKind.i64 y1] σ K = runK Try.prog call dem N f3c0 f3a0 (bodyC Try.prog f3rs K) (f3e0 y0 y1) σ := bodyK_of (fn := ((Try.prog.funcs[3]?).get rfl)) (by kernel_rfl) (by kernel_rfl) (by kernel_rfl) (by kernel_rfl) (by kernel_rfl) (by kernel_rfl)
theorem f3n0 {R : Type} (call : Bool → CallF R) (dem : Bool) (N : Nat) (J : KF R) (e : Env) (σ : St) : runK Try.prog call dem N f3c0 f3a0 J e σ = runK Try.prog call dem N f3c1 f3a1 (seqC (fun K e σ => runK Try.prog call dem N f3c2 f3a2 K e σ) f3a0 J) e σ := runK_seq' (by kernel_rfl) (by kernel_rfl) (by kernel_rfl)
theorem f3r1_f3e0 {R : Type} (call : Bool → CallF R) (dem : Bool) (N : Nat) (y0 : Int) (y1 : Int) (J : KF R) (σ : St) :
    runK Try.prog call dem N f3c1 f3a1 J (f3e0 y0 y1) σ =
J Ex.normal (f3e1 y0 y1 false) σ := hide (by kernel_rfl)
theorem f3z0_f3e1 (y0 : Int) (y1 : Int) (y2 : Bool) : Ann.clr f3a0 (f3e1 y0 y1 y2) = f3e0 y0 y1 := hide (by kernel_rfl)
theorem f3n2 {R : Type} (call : Bool → CallF R) (dem : Bool) (N : Nat) (J : KF R) (e : Env) (σ : St) : runK Try.prog call dem N f3c2 f3a2 J e σ = runK Try.prog call dem N f3c3 f3a3 (seqC (fun K e σ => runK Try.prog call dem N f3c4 f3a4 K e σ) f3a2 J) e σ := runK_seq' (by kernel_rfl) (by kernel_rfl) (by kernel_rfl)
theorem f3r3_f3e0 {R : Type} (call : Bool → CallF R) (dem : Bool) (N : Nat) (y0 : Int) (y1 : Int) (J : KF R) (σ : St) :
    runK Try.prog call dem N f3c3 f3a3 J (f3e0 y0 y1) σ =
call dem (7 : Nat) [] σ fun v0 v1 => Option.bind (AV.toPtr v0) fun v2 => J Ex.normal (f3e2 y0 y1 v2 v2) v1 := hide (by kernel_rfl)
theorem f3z2_f3e2 (y0 : Int) (y1 : Int) (y2 : Option (Nat × Nat)) (y3 : Option (Nat × Nat)) : Ann.clr f3a2 (f3e2 y0 y1 y2 y3) = f3e3 y0 y1 y2 := hide (by kernel_rfl)
theorem f3n4 {R : Type} (call : Bool → CallF R) (dem : Bool) (N : Nat) (J : KF R) (e : Env) (σ : St) : runK Try.prog call dem N f3c4 f3a4 J e σ = runK Try.prog call dem N f3c5 f3a5 (seqC (fun K e σ => runK Try.prog call dem N f3c6 f3a6 K e σ) f3a4 J) e σ := runK_seq' (by kernel_rfl) (by kernel_rfl) (by kernel_rfl)
theorem f3n5 {R : Type} (call : Bool → CallF R) (dem : Bool) (N : Nat) (J : KF R) (e : Env) (σ : St) : runK Try.prog call dem N f3c5 f3a5 J e σ = runK Try.prog call dem N f3c7 f3a7 (seqC (fun K e σ => runK Try.prog call dem N f3c8 f3a8 K e σ) f3a5 J) e σ := runK_seq' (by kernel_rfl) (by kernel_rfl) (by kernel_rfl)
theorem f3r7_f3e3 {R : Type} (call : Bool → CallF R) (dem : Bool) (N : Nat) (y0 : Int) (y1 : Int) (y2 : Option (Nat × Nat)) (J : KF R) (σ : St) :
    runK Try.prog call dem N f3c7 f3a7 J (f3e3 y0 y1 y2) σ =
if Option.isNone y2 = true then J Ex.normal (f3e4 y0 y1 y2 y2 (Option.isNone y2) true true true true) σ
else
  if decide (y1 < (0 : Int)) = true then
    J Ex.normal (f3e5 y0 y1 y2 y2 (Option.isNone y2) false y1 (decide (y1 < (0 : Int))) (decide (y1 < (0 : Int))) true true) σ
  else
    J Ex.normal
      (f3e6 y0 y1 y2 y2 (Option.isNone y2) false y1 (decide (y1 < (0 : Int))) (decide (y1 < (0 : Int))) false y1 (decide (y1 > (100 : Int)))
        (decide (y1 > (100 : Int))))
      σ := hide (by kernel_rfl)
theorem f3z5_f3e4 (y0 : Int) (y1 : Int) (y2 : Option (Nat × Nat)) (y3 : Option (Nat × Nat)) (y4 : Bool) (y5 : Bool) (y6 : Bool) (y7 : Bool) (y8 : Bool) : Ann.clr f3a5 (f3e4 y0 y1 y2 y3 y4 y5 y6 y7 y8) = f3e7 y0 y1 y2 y8 := hide (by kernel_rfl)
theorem f3x8_f3e7 {R : Type} (call : Bool → CallF R) (dem : Bool) (N : Nat) (y0 : Int) (y1 : Int) (y2 : Option (Nat × Nat)) (y3 : Bool) (J : KF R) (σ : St) : runK Try.prog call dem N f3c8 f3a8 J (f3e7 y0 y1 y2 y3) σ = if y3 = true then runK Try.prog call dem N f3c9 f3a9 (condC f3a8 J) (f3e7 y0 y1 y2 y3) σ else runK Try.prog call dem N f3c10 f3a10 (condC f3a8 J) (f3e7 y0 y1 y2 y3) σ := runK_cond' (o := Operand.tmp (22 : Nat)) (by kernel_rfl) (by kernel_rfl) (by kernel_rfl) (by kernel_rfl)
theorem f3n9 {R : Type} (call : Bool → CallF R) (dem : Bool) (N : Nat) (J : KF R) (e : Env) (σ : St) : runK Try.prog call dem N f3c9 f3a9 J e σ = runK Try.prog call dem N f3c11 f3a11 (seqC (fun K e σ => runK Try.prog call dem N f3c12 f3a12 K e σ) f3a9 J) e σ := runK_seq' (by kernel_rfl) (by kernel_rfl) (by kernel_rfl)
theorem f3r11_f3e7 {R : Type} (call : Bool → CallF R) (dem : Bool) (N : Nat) (y0 : Int) (y1 : Int) (y2 : Option (Nat × Nat)) (y3 : Bool) (J : KF R) (σ : St) :
    runK Try.prog call dem N f3c11 f3a11 J (f3e7 y0 y1 y2 y3) σ =
if (!Option.isNone y2) = true then
  call dem (8 : Nat) [] σ fun v0 v1 => Option.bind (AV.toBool v0) fun v2 => J Ex.normal (f3e8 y0 y1 v2 y2 y3 y2 (!Option.isNone y2) true v2 v2) v1
else J Ex.normal (f3e9 y0 y1 false y2 y3 y2 (!Option.isNone y2) false false) σ := hide (by kernel_rfl)
theorem f3z9_f3e8 (y0 : Int) (y1 : Int) (y2 : Bool) (y3 : Option (Nat × Nat)) (y4 : Bool) (y5 : Option (Nat × Nat)) (y6 : Bool) (y7 : Bool) (y8 : Bool) (y9 : Bool) : Ann.clr f3a9 (f3e8 y0 y1 y2 y3 y4 y5 y6 y7 y8 y9) = f3e10 y2 := hide (by kernel_rfl)
theorem f3y12_f3e10 {R : Type} (call : Bool → CallF R) (dem : Bool) (N : Nat) (y0 : Bool) (J : KF R) (σ : St) : runK Try.prog call dem N f3c12 f3a12 J (f3e10 y0) σ = J .ret (f3e10 y0) σ := runK_ret' (by kernel_rfl) (by kernel_rfl)
theorem f3z9_f3e9 (y0 : Int) (y1 : Int) (y2 : Bool) (y3 : Option (Nat × Nat)) (y4 : Bool) (y5 : Option (Nat × Nat)) (y6 : Bool) (y7 : Bool) (y8 : Bool) : Ann.clr f3a9 (f3e9 y0 y1 y2 y3 y4 y5 y6 y7 y8) = f3e10 y2 := hide (by kernel_rfl)
theorem f3n10 {R : Type} (call : Bool → CallF R) (dem : Bool) (N : Nat) (J : KF R) (e : Env) (σ : St) : runK Try.prog call dem N f3c10 f3a10 J e σ = J .normal e σ := runK_skip' (by kernel_rfl)
theorem f3z8_f3e7 (y0 : Int) (y1 : Int) (y2 : Option (Nat × Nat)) (y3 : Bool) : Ann.clr f3a8 (f3e7 y0 y1 y2 y3) = f3e3 y0 y1 y2 := hide (by kernel_rfl)
theorem f3z5_f3e5 (y0 : Int) (y1 : Int) (y2 : Option (Nat × Nat)) (y3 : Option (Nat × Nat)) (y4 : Bool) (y5 : Bool) (y6 : Int) (y7 : Bool) (y8 : Bool) (y9 : Bool) (y10 : Bool) : Ann.clr f3a5 (f3e5 y0 y1 y2 y3 y4 y5 y6 y7 y8 y9 y10) = f3e7 y0 y1 y2 y10 := hide (by kernel_rfl)
theorem f3z5_f3e6 (y0 : Int) (y1 : Int) (y2 : Option (Nat × Nat)) (y3 : Option (Nat × Nat)) (y4 : Bool) (y5 : Bool) (y6 : Int) (y7 : Bool) (y8 : Bool) (y9 : Bool) (y10 : Int) (y11 : Bool) (y12 : Bool) : Ann.clr f3a5 (f3e6 y0 y1 y2 y3 y4 y5 y6 y7 y8 y9 y10 y11 y12) = f3e7 y0 y1 y2 y12 := hide (by kernel_rfl)
theorem f3z4_f3e3 (y0 : Int) (y1 : Int) (y2 : Option (Nat × Nat)) : Ann.clr f3a4 (f3e3 y0 y1 y2) = f3e3 y0 y1 y2 := hide (by kernel_rfl)
theorem f3n6 {R : Type} (call : Bool → CallF R) (dem : Bool) (N : Nat) (J : KF R) (e : Env) (σ : St) : runK Try.prog call dem N f3c6 f3a6 J e σ = runK Try.prog call dem N f3c13 f3a13 (seqC (fun K e σ => runK Try.prog call dem N f3c14 f3a14 K e σ) f3a6 J) e σ := runK_seq' (by kernel_rfl) (by kernel_rfl) (by kernel_rfl)
theorem f3n13 {R : Type} (call : Bool → CallF R) (dem : Bool) (N : Nat) (J : KF R) (e : Env) (σ : St) : runK Try.prog call dem N f3c13 f3a13 J e σ = runK Try.prog call dem N f3c15 f3a15 (seqC (fun K e σ => runK Try.prog call dem N f3c16 f3a16 K e σ) f3a13 J) e σ := runK_seq' (by kernel_rfl) (by kernel_rfl) (by kernel_rfl)
theorem f3r15_f3e3 {R : Type} (call : Bool → CallF R) (dem : Bool) (N : Nat) (y0 : Int) (y1 : Int) (y2 : Option (Nat × Nat)) (J : KF R) (σ : St) :
    runK Try.prog call dem N f3c15 f3a15 J (f3e3 y0 y1 y2) σ =
call dem (9 : Nat) [AV.ptr y2, AV.int IntKind.i64 (7 : Int), AV.int IntKind.i64 y0] σ fun v0 v1 =>
  Option.bind (AV.toInt IntKind.i64 v0) fun v2 => J Ex.normal (f3e11 y0 y1 y2 y2 y0 v2 (v2 != (0 : Int))) v1 := hide (by kernel_rfl)
theorem f3z13_f3e11 (y0 : Int) (y1 : Int) (y2 : Option (Nat × Nat)) (y3 : Option (Nat × Nat)) (y4 : Int) (y5 : Int) (y6 : Bool) : Ann.clr f3a13 (f3e11 y0 y1 y2 y3 y4 y5 y6) = f3e12 y0 y1 y2 y6 := hide (by kernel_rfl)
theorem f3x16_f3e12 {R : Type} (call : Bool → CallF R) (dem : Bool) (N : Nat) (y0 : Int) (y1 : Int) (y2 : Option (Nat × Nat)) (y3 : Bool) (J : KF R) (σ : St) : runK Try.prog call dem N f3c16 f3a16 J (f3e12 y0 y1 y2 y3) σ = if y3 = true then runK Try.prog call dem N f3c17 f3a17 (condC f3a16 J) (f3e12 y0 y1 y2 y3) σ else runK Try.prog call dem N f3c18 f3a18 (condC f3a16 J) (f3e12 y0 y1 y2 y3) σ := runK_cond' (o := Operand.tmp (31 : Nat)) (by kernel_rfl) (by kernel_rfl) (by kernel_rfl) (by kernel_rfl)
theorem f3n17 {R : Type} (call : Bool → CallF R) (dem : Bool) (N : Nat) (J : KF R) (e : Env) (σ : St) : runK Try.prog call dem N f3c17 f3a17 J e σ = runK Try.prog call dem N f3c19 f3a19 (seqC (fun K e σ => runK Try.prog call dem N f3c20 f3a20 K e σ) f3a17 J) e σ := runK_seq' (by kernel_rfl) (by kernel_rfl) (by kernel_rfl)
theorem f3r19_f3e12 {R : Type} (call : Bool → CallF R) (dem : Bool) (N : Nat) (y0 : Int) (y1 : Int) (y2 : Option (Nat × Nat)) (y3 : Bool) (J : KF R) (σ : St) :
    runK Try.prog call dem N f3c19 f3a19 J (f3e12 y0 y1 y2 y3) σ =
if decide (y0 < (1 : Int)) = true then
  call dem (8 : Nat) [] σ fun v0 v1 =>
    Option.bind (AV.toBool v0) fun v2 => J Ex.normal (f3e13 y0 y1 v2 y2 y3 y0 (decide (y0 < (1 : Int))) true true true v2 v2) v1
else
  if decide (y0 > (4096 : Int)) = true then
    call dem (8 : Nat) [] σ fun v0 v1 =>
      Option.bind (AV.toBool v0) fun v2 =>
        J Ex.normal (f3e14 y0 y1 v2 y2 y3 y0 (decide (y0 < (1 : Int))) false y0 (decide (y0 > (4096 : Int))) (decide (y0 > (4096 : Int))) true v2 v2)
          v1
  else
    J Ex.normal (f3e15 y0 y1 false y2 y3 y0 (decide (y0 < (1 : Int))) false y0 (decide (y0 > (4096 : Int))) (decide (y0 > (4096 : Int))) false false)
      σ := hide (by kernel_rfl)
theorem f3z17_f3e13 (y0 : Int) (y1 : Int) (y2 : Bool) (y3 : Option (Nat × Nat)) (y4 : Bool) (y5 : Int) (y6 : Bool) (y7 : Bool) (y8 : Bool) (y9 : Bool) (y10 : Bool) (y11 : Bool) : Ann.clr f3a17 (f3e13 y0 y1 y2 y3 y4 y5 y6 y7 y8 y9 y10 y11) = f3e10 y2 := hide (by kernel_rfl)
theorem f3y20_f3e10 {R : Type} (call : Bool → CallF R) (dem : Bool) (N : Nat) (y0 : Bool) (J : KF R) (σ : St) : runK Try.prog call dem N f3c20 f3a20 J (f3e10 y0) σ = J .ret (f3e10 y0) σ := runK_ret' (by kernel_rfl) (by kernel_rfl)
theorem f3z17_f3e14 (y0 : Int) (y1 : Int) (y2 : Bool) (y3 : Option (Nat × Nat)) (y4 : Bool) (y5 : Int) (y6 : Bool) (y7 : Bool) (y8 : Int) (y9 : Bool) (y10 : Bool) (y11 : Bool) (y12 : Bool) (y13 : Bool) : Ann.clr f3a17 (f3e14 y0 y1 y2 y3 y4 y5 y6 y7 y8 y9 y10 y11 y12 y13) = f3e10 y2 := hide (by kernel_rfl)
theorem f3z17_f3e15 (y0 : Int) (y1 : Int) (y2 : Bool) (y3 : Option (Nat × Nat)) (y4 : Bool) (y5 : Int) (y6 : Bool) (y7 : Bool) (y8 : Int) (y9 : Bool) (y10 : Bool) (y11 : Bool) (y12 : Bool) : Ann.clr f3a17 (f3e15 y0 y1 y2 y3 y4 y5 y6 y7 y8 y9 y10 y11 y12) = f3e10 y2 := hide (by kernel_rfl)
theorem f3n18 {R : Type} (call : Bool → CallF R) (dem : Bool) (N : Nat) (J : KF R) (e : Env) (σ : St) : runK Try.prog call dem N f3c18 f3a18 J e σ = J .normal e σ := runK_skip' (by kernel_rfl)
theorem f3z16_f3e12 (y0 : Int) (y1 : Int) (y2 : Option (Nat × Nat)) (y3 : Bool) : Ann.clr f3a16 (f3e12 y0 y1 y2 y3) = f3e3 y0 y1 y2 := hide (by kernel_rfl)
theorem f3z6_f3e3 (y0 : Int) (y1 : Int) (y2 : Option (Nat × Nat)) : Ann.clr f3a6 (f3e3 y0 y1 y2) = f3e3 y0 y1 y2 := hide (by kernel_rfl)
theorem f3n14 {R : Type} (call : Bool → CallF R) (dem : Bool) (N : Nat) (J : KF R) (e : Env) (σ : St) : runK Try.prog call dem N f3c14 f3a14 J e σ = runK Try.prog call dem N f3c21 f3a21 (seqC (fun K e σ => runK Try.prog call dem N f3c22 f3a22 K e σ) f3a14 J) e σ := runK_seq' (by kernel_rfl) (by kernel_rfl) (by kernel_rfl)
theorem f3r21_f3e3 {R : Type} (call : Bool → CallF R) (dem : Bool) (N : Nat) (y0 : Int) (y1 : Int) (y2 : Option (Nat × Nat)) (J : KF R) (σ : St) :
    runK Try.prog call dem N f3c21 f3a21 J (f3e3 y0 y1 y2) σ =
J Ex.normal (f3e16 y0 y1 y2 y0 y0) σ := hide (by kernel_rfl)
theorem f3z14_f3e16 (y0 : Int) (y1 : Int) (y2 : Option (Nat × Nat)) (y3 : Int) (y4 : Int) : Ann.clr f3a14 (f3e16 y0 y1 y2 y3 y4) = f3e17 y1 y2 y3 := hide (by kernel_rfl)
theorem f3n22 {R : Type} (call : Bool → CallF R) (dem : Bool) (N : Nat) (J : KF R) (e : Env) (σ : St) : runK Try.prog call dem N f3c22 f3a22 J e σ = runK Try.prog call dem N f3c23 f3a23 (seqC (fun K e σ => runK Try.prog call dem N f3c24 f3a24 K e σ) f3a22 J) e σ := runK_seq' (by kernel_rfl) (by kernel_rfl) (by kernel_rfl)
theorem f3n23 {R : Type} (call : Bool → CallF R) (dem : Bool) (N : Nat) (J : KF R) (e : Env) (σ : St) : runK Try.prog call dem N f3c23 f3a23 J e σ = runK Try.prog call dem N f3c25 f3a25 (seqC (fun K e σ => runK Try.prog call dem N f3c26 f3a26 K e σ) f3a23 J) e σ := runK_seq' (by kernel_rfl) (by kernel_rfl) (by kernel_rfl)
theorem f3r25_f3e17 {R : Type} (call : Bool → CallF R) (dem : Bool) (N : Nat) (y0 : Int) (y1 : Option (Nat × Nat)) (y2 : Int) (J : KF R) (σ : St) :
    runK Try.prog call dem N f3c25 f3a25 J (f3e17 y0 y1 y2) σ =
J Ex.normal (f3e18 y0 y1 y2 (0 : Int)) σ := hide (by kernel_rfl)
theorem f3z23_f3e18 (y0 : Int) (y1 : Option (Nat × Nat)) (y2 : Int) (y3 : Int) : Ann.clr f3a23 (f3e18 y0 y1 y2 y3) = f3e18 y0 y1 y2 y3 := hide (by kernel_rfl)
theorem f3n26 {R : Type} (call : Bool → CallF R) (dem : Bool) (N : Nat) (J : KF R) (e : Env) (σ : St) : runK Try.prog call dem N f3c26 f3a26 J e σ = runK Try.prog call dem N f3c27 f3a27 (blockC 0 f3a26 J) e σ := runK_block' (by kernel_rfl) (by kernel_rfl)
theorem f3L27_eq {R : Type} (call : Bool → CallF R) (dem : Bool) (N : Nat) (J : KF R) (e : Env) (σ : St) : f3L27 call dem N J e σ = runK Try.prog call dem N f3c28 f3a28 J e σ := hide rfl
theorem f3z27_f3e18 (y0 : Int) (y1 : Option (Nat × Nat)) (y2 : Int) (y3 : Int) : Ann.clr f3a27 (f3e18 y0 y1 y2 y3) = f3e18 y0 y1 y2 y3 := hide (by kernel_rfl)
theorem f3l27_f3e18 {R : Type} (call : Bool → CallF R) (dem : Bool) (N : Nat) (y0 : Int) (y1 : Option (Nat × Nat)) (y2 : Int) (y3 : Int) (J : KF R) (σ : St) : runK Try.prog call dem N f3c27 f3a27 J (f3e18 y0 y1 y2 y3) σ = loopK (f3L27 call dem N) f3a27 N J (f3e18 y0 y1 y2 y3) σ := runK_loop' (by kernel_rfl) (by kernel_rfl) (by kernel_rfl)
theorem f3n28 {R : Type} (call : Bool → CallF R) (dem : Bool) (N : Nat) (J : KF R) (e : Env) (σ : St) : runK Try.prog call dem N f3c28 f3a28 J e σ = runK Try.prog call dem N f3c29 f3a29 (seqC (fun K e σ => runK Try.prog call dem N f3c30 f3a30 K e σ) f3a28 J) e σ := runK_seq' (by kernel_rfl) (by kernel_rfl) (by kernel_rfl)
theorem f3n29 {R : Type} (call : Bool → CallF R) (dem : Bool) (N : Nat) (J : KF R) (e : Env) (σ : St) : runK Try.prog call dem N f3c29 f3a29 J e σ = runK Try.prog call dem N f3c31 f3a31 (seqC (fun K e σ => runK Try.prog call dem N f3c32 f3a32 K e σ) f3a29 J) e σ := runK_seq' (by kernel_rfl) (by kernel_rfl) (by kernel_rfl)
theorem f3r31_f3e18 {R : Type} (call : Bool → CallF R) (dem : Bool) (N : Nat) (y0 : Int) (y1 : Option (Nat × Nat)) (y2 : Int) (y3 : Int) (J : KF R) (σ : St) :
    runK Try.prog call dem N f3c31 f3a31 J (f3e18 y0 y1 y2 y3) σ =
J Ex.normal (f3e19 y0 y1 y2 y3 y3 y0 (decide (y3 < y0))) σ := hide (by kernel_rfl)
theorem f3z29_f3e19 (y0 : Int) (y1 : Option (Nat × Nat)) (y2 : Int) (y3 : Int) (y4 : Int) (y5 : Int) (y6 : Bool) : Ann.clr f3a29 (f3e19 y0 y1 y2 y3 y4 y5 y6) = f3e20 y0 y1 y2 y3 y6 := hide (by kernel_rfl)
theorem f3x32_f3e20 {R : Type} (call : Bool → CallF R) (dem : Bool) (N : Nat) (y0 : Int) (y1 : Option (Nat × Nat)) (y2 : Int) (y3 : Int) (y4 : Bool) (J : KF R) (σ : St) : runK Try.prog call dem N f3c32 f3a32 J (f3e20 y0 y1 y2 y3 y4) σ = if y4 = true then runK Try.prog call dem N f3c33 f3a33 (condC f3a32 J) (f3e20 y0 y1 y2 y3 y4) σ else runK Try.prog call dem N f3c34 f3a34 (condC f3a32 J) (f3e20 y0 y1 y2 y3 y4) σ := runK_cond' (o := Operand.tmp (44 : Nat)) (by kernel_rfl) (by kernel_rfl) (by kernel_rfl) (by kernel_rfl)
theorem f3n33 {R : Type} (call : Bool → CallF R) (dem : Bool) (N : Nat) (J : KF R) (e : Env) (σ : St) : runK Try.prog call dem N f3c33 f3a33 J e σ = J .normal e σ := runK_skip' (by kernel_rfl)
theorem f3z32_f3e20 (y0 : Int) (y1 : Option (Nat × Nat)) (y2 : Int) (y3 : Int) (y4 : Bool) : Ann.clr f3a32 (f3e20 y0 y1 y2 y3 y4) = f3e18 y0 y1 y2 y3 := hide (by kernel_rfl)
theorem f3y34_f3e20 {R : Type} (call : Bool → CallF R) (dem : Bool) (N : Nat) (y0 : Int) (y1 : Option (Nat × Nat)) (y2 : Int) (y3 : Int) (y4 : Bool) (J : KF R) (σ : St) : runK Try.prog call dem N f3c34 f3a34 J (f3e20 y0 y1 y2 y3 y4) σ = J (.exit 0) (f3e21) σ := runK_exit' (by kernel_rfl) (by kernel_rfl)
theorem f3z28_f3e18 (y0 : Int) (y1 : Option (Nat × Nat)) (y2 : Int) (y3 : Int) : Ann.clr f3a28 (f3e18 y0 y1 y2 y3) = f3e18 y0 y1 y2 y3 := hide (by kernel_rfl)
theorem f3n30 {R : Type} (call : Bool → CallF R) (dem : Bool) (N : Nat) (J : KF R) (e : Env) (σ : St) : runK Try.prog call dem N f3c30 f3a30 J e σ = runK Try.prog call dem N f3c35 f3a35 (seqC (fun K e σ => runK Try.prog call dem N f3c36 f3a36 K e σ) f3a30 J) e σ := runK_seq' (by kernel_rfl) (by kernel_rfl) (by kernel_rfl)
theorem f3n35 {R : Type} (call : Bool → CallF R) (dem : Bool) (N : Nat) (J : KF R) (e : Env) (σ : St) : runK Try.prog call dem N f3c35 f3a35 J e σ = runK Try.prog call dem N f3c37 f3a37 (blockC 1 f3a35 J) e σ := runK_block' (by kernel_rfl) (by kernel_rfl)
theorem f3n37 {R : Type} (call : Bool → CallF R) (dem : Bool) (N : Nat) (J : KF R) (e : Env) (σ : St) : runK Try.prog call dem N f3c37 f3a37 J e σ = runK Try.prog call dem N f3c38 f3a38 (seqC (fun K e σ => runK Try.prog call dem N f3c39 f3a39 K e σ) f3a37 J) e σ := runK_seq' (by kernel_rfl) (by kernel_rfl) (by kernel_rfl)
theorem f3r38_f3e18 {R : Type} (call : Bool → CallF R) (dem : Bool) (N : Nat) (y0 : Int) (y1 : Option (Nat × Nat)) (y2 : Int) (y3 : Int) (J : KF R) (σ : St) :
    runK Try.prog call dem N f3c38 f3a38 J (f3e18 y0 y1 y2 y3) σ =
J Ex.normal (f3e22 y0 y1 (IntKind.wrap IntKind.i64 ((2 : Int) * y2)) y3 y2 (IntKind.wrap IntKind.i64 ((2 : Int) * y2))) σ := hide (by kernel_rfl)
theorem f3z37_f3e22 (y0 : Int) (y1 : Option (Nat × Nat)) (y2 : Int) (y3 : Int) (y4 : Int) (y5 : Int) : Ann.clr f3a37 (f3e22 y0 y1 y2 y3 y4 y5) = f3e18 y0 y1 y2 y3 := hide (by kernel_rfl)
theorem f3n39 {R : Type} (call : Bool → CallF R) (dem : Bool) (N : Nat) (J : KF R) (e : Env) (σ : St) : runK Try.prog call dem N f3c39 f3a39 J e σ = runK Try.prog call dem N f3c40 f3a40 (seqC (fun K e σ => runK Try.prog call dem N f3c41 f3a41 K e σ) f3a39 J) e σ := runK_seq' (by kernel_rfl) (by kernel_rfl) (by kernel_rfl)
theorem f3n40 {R : Type} (call : Bool → CallF R) (dem : Bool) (N : Nat) (J : KF R) (e : Env) (σ : St) : runK Try.prog call dem N f3c40 f3a40 J e σ = runK Try.prog call dem N f3c42 f3a42 (seqC (fun K e σ => runK Try.prog call dem N f3c43 f3a43 K e σ) f3a40 J) e σ := runK_seq' (by kernel_rfl) (by kernel_rfl) (by kernel_rfl)
theorem f3r42_f3e18 {R : Type} (call : Bool → CallF R) (dem : Bool) (N : Nat) (y0 : Int) (y1 : Option (Nat × Nat)) (y2 : Int) (y3 : Int) (J : KF R) (σ : St) :
    runK Try.prog call dem N f3c42 f3a42 J (f3e18 y0 y1 y2 y3) σ =
J Ex.normal (f3e23 y0 y1 y2 y3 y2 (decide (y2 > (4096 : Int)))) σ := hide (by kernel_rfl)
theorem f3z40_f3e23 (y0 : Int) (y1 : Option (Nat × Nat)) (y2 : Int) (y3 : Int) (y4 : Int) (y5 : Bool) : Ann.clr f3a40 (f3e23 y0 y1 y2 y3 y4 y5) = f3e24 y0 y1 y2 y3 y5 := hide (by kernel_rfl)
theorem f3x43_f3e24 {R : Type} (call : Bool → CallF R) (dem : Bool) (N : Nat) (y0 : Int) (y1 : Option (Nat × Nat)) (y2 : Int) (y3 : Int) (y4 : Bool) (J : KF R) (σ : St) : runK Try.prog call dem N f3c43 f3a43 J (f3e24 y0 y1 y2 y3 y4) σ = if y4 = true then runK Try.prog call dem N f3c44 f3a44 (condC f3a43 J) (f3e24 y0 y1 y2 y3 y4) σ else runK Try.prog call dem N f3c45 f3a45 (condC f3a43 J) (f3e24 y0 y1 y2 y3 y4) σ := runK_cond' (o := Operand.tmp (50 : Nat)) (by kernel_rfl) (by kernel_rfl) (by kernel_rfl) (by kernel_rfl)
theorem f3r44_f3e24 {R : Type} (call : Bool → CallF R) (dem : Bool) (N : Nat) (y0 : Int) (y1 : Option (Nat × Nat)) (y2 : Int) (y3 : Int) (y4 : Bool) (J : KF R) (σ : St) :
    runK Try.prog call dem N f3c44 f3a44 J (f3e24 y0 y1 y2 y3 y4) σ =
J Ex.normal (f3e24 y0 y1 (4096 : Int) y3 y4) σ := hide (by kernel_rfl)
theorem f3z43_f3e24 (y0 : Int) (y1 : Option (Nat × Nat)) (y2 : Int) (y3 : Int) (y4 : Bool) : Ann.clr f3a43 (f3e24 y0 y1 y2 y3 y4) = f3e18 y0 y1 y2 y3 := hide (by kernel_rfl)
theorem f3n45 {R : Type} (call : Bool → CallF R) (dem : Bool) (N : Nat) (J : KF R) (e : Env) (σ : St) : runK Try.prog call dem N f3c45 f3a45 J e σ = J .normal e σ := runK_skip' (by kernel_rfl)
theorem f3z39_f3e18 (y0 : Int) (y1 : Option (Nat × Nat)) (y2 : Int) (y3 : Int) : Ann.clr f3a39 (f3e18 y0 y1 y2 y3) = f3e18 y0 y1 y2 y3 := hide (by kernel_rfl)
theorem f3n41 {R : Type} (call : Bool → CallF R) (dem : Bool) (N : Nat) (J : KF R) (e : Env) (σ : St) : runK Try.prog call dem N f3c41 f3a41 J e σ = runK Try.prog call dem N f3c46 f3a46 (seqC (fun K e σ => runK Try.prog call dem N f3c47 f3a47 K e σ) f3a41 J) e σ := runK_seq' (by kernel_rfl) (by kernel_rfl) (by kernel_rfl)
theorem f3r46_f3e18 {R : Type} (call : Bool → CallF R) (dem : Bool) (N : Nat) (y0 : Int) (y1 : Option (Nat × Nat)) (y2 : Int) (y3 : Int) (J : KF R) (σ : St) :
    runK Try.prog call dem N f3c46 f3a46 J (f3e18 y0 y1 y2 y3) σ =
call dem (10 : Nat) [AV.ptr y1, AV.int IntKind.i64 (7 : Int)] σ fun v0 v1 =>
  Option.bind (AV.toTuple v0) fun v2 =>
    if List.length v2 = (2 : Nat) then
      Option.bind (List.head? v2) fun v3 =>
        Option.bind (AV.toInt IntKind.i64 v3) fun v4 =>
          Option.bind (List.head? (List.tail v2)) fun v5 =>
            Option.bind (AV.toInt IntKind.i64 v5) fun v6 => J Ex.normal (f3e25 y0 y1 y2 y3 v4 v6 v4 v6 y1 v4 v6 v4 v6) v1
    else none := hide (by kernel_rfl)
theorem f3z41_f3e25 (y0 : Int) (y1 : Option (Nat × Nat)) (y2 : Int) (y3 : Int) (y4 : Int) (y5 : Int) (y6 : Int) (y7 : Int) (y8 : Option (Nat × Nat)) (y9 : Int) (y10 : Int) (y11 : Int) (y12 : Int) : Ann.clr f3a41 (f3e25 y0 y1 y2 y3 y4 y5 y6 y7 y8 y9 y10 y11 y12) = f3e26 y0 y1 y2 y3 y4 y5 := hide (by kernel_rfl)
theorem f3n47 {R : Type} (call : Bool → CallF R) (dem : Bool) (N : Nat) (J : KF R) (e : Env) (σ : St) : runK Try.prog call dem N f3c47 f3a47 J e σ = runK Try.prog call dem N f3c48 f3a48 (seqC (fun K e σ => runK Try.prog call dem N f3c49 f3a49 K e σ) f3a47 J) e σ := runK_seq' (by kernel_rfl) (by kernel_rfl) (by kernel_rfl)
theorem f3r48_f3e26 {R : Type} (call : Bool → CallF R) (dem : Bool) (N : Nat) (y0 : Int) (y1 : Option (Nat × Nat)) (y2 : Int) (y3 : Int) (y4 : Int) (y5 : Int) (J : KF R) (σ : St) :
    runK Try.prog call dem N f3c48 f3a48 J (f3e26 y0 y1 y2 y3 y4 y5) σ =
call dem (11 : Nat) [AV.ptr y1, AV.int IntKind.i64 (7 : Int)] σ fun v0 v1 =>
  Option.bind (AV.toTuple v0) fun v2 =>
    if List.length v2 = (2 : Nat) then
      Option.bind (List.head? v2) fun v3 =>
        Option.bind (AV.toInt IntKind.i64 v3) fun v4 =>
          Option.bind (List.head? (List.tail v2)) fun v5 =>
            Option.bind (AV.toBool v5) fun v6 => J Ex.normal (f3e27 y0 y1 y2 y3 y4 y5 v4 v6 v4 v6 y1 v4 v6 v4 v6) v1
    else none := hide (by kernel_rfl)
theorem f3z47_f3e27 (y0 : Int) (y1 : Option (Nat × Nat)) (y2 : Int) (y3 : Int) (y4 : Int) (y5 : Int) (y6 : Int) (y7 : Bool) (y8 : Int) (y9 : Bool) (y10 : Option (Nat × Nat)) (y11 : Int) (y12 : Bool) (y13 : Int) (y14 : Bool) : Ann.clr f3a47 (f3e27 y0 y1 y2 y3 y4 y5 y6 y7 y8 y9 y10 y11 y12 y13 y14) = f3e28 y0 y1 y2 y3 y4 y5 y6 y7 := hide (by kernel_rfl)
theorem f3n49 {R : Type} (call : Bool → CallF R) (dem : Bool) (N : Nat) (J : KF R) (e : Env) (σ : St) : runK Try.prog call dem N f3c49 f3a49 J e σ = runK Try.prog call dem N f3c50 f3a50 (seqC (fun K e σ => runK Try.prog call dem N f3c51 f3a51 K e σ) f3a49 J) e σ := runK_seq' (by kernel_rfl) (by kernel_rfl) (by kernel_rfl)
theorem f3n50 {R : Type} (call : Bool → CallF R) (dem : Bool) (N : Nat) (J : KF R) (e : Env) (σ : St) : runK Try.prog call dem N f3c50 f3a50 J e σ = runK Try.prog call dem N f3c52 f3a52 (seqC (fun K e σ => runK Try.prog call dem N f3c53 f3a53 K e σ) f3a50 J) e σ := runK_seq' (by kernel_rfl) (by kernel_rfl) (by kernel_rfl)
theorem f3r52_f3e28 {R : Type} (call : Bool → CallF R) (dem : Bool) (N : Nat) (y0 : Int) (y1 : Option (Nat × Nat)) (y2 : Int) (y3 : Int) (y4 : Int) (y5 : Int) (y6 : Int) (y7 : Bool) (J : KF R) (σ : St) :
    runK Try.prog call dem N f3c52 f3a52 J (f3e28 y0 y1 y2 y3 y4 y5 y6 y7) σ =
if (y5 != (0 : Int)) = true then J Ex.normal (f3e29 y0 y1 y2 y3 y4 y5 y6 y7 y5 (y5 != (0 : Int)) true true true true true true) σ
else
  if (y4 != y2) = true then J Ex.normal (f3e30 y0 y1 y2 y3 y4 y5 y6 y7 y5 (y5 != (0 : Int)) false y4 y2 (y4 != y2) (y4 != y2) true true true true) σ
  else
    if (!y7) = true then
      J Ex.normal (f3e31 y0 y1 y2 y3 y4 y5 y6 y7 y5 (y5 != (0 : Int)) false y4 y2 (y4 != y2) (y4 != y2) false y7 (!y7) (!y7) true true) σ
    else
      call dem (12 : Nat) [AV.ptr y1] σ fun v0 v1 =>
        Option.bind (AV.toInt IntKind.i64 v0) fun v2 =>
          J Ex.normal
            (f3e32 y0 y1 y2 y3 y4 y5 y6 y7 y5 (y5 != (0 : Int)) false y4 y2 (y4 != y2) (y4 != y2) false y7 (!y7) (!y7) false y6 y1 v2 y2
              (IntKind.wrap IntKind.i64 (v2 + y2)) (y6 != IntKind.wrap IntKind.i64 (v2 + y2)) (y6 != IntKind.wrap IntKind.i64 (v2 + y2)))
            v1 := hide (by kernel_rfl)
theorem f3z50_f3e29 (y0 : Int) (y1 : Option (Nat × Nat)) (y2 : Int) (y3 : Int) (y4 : Int) (y5 : Int) (y6 : Int) (y7 : Bool) (y8 : Int) (y9 : Bool) (y10 : Bool) (y11 : Bool) (y12 : Bool) (y13 : Bool) (y14 : Bool) (y15 : Bool) : Ann.clr f3a50 (f3e29 y0 y1 y2 y3 y4 y5 y6 y7 y8 y9 y10 y11 y12 y13 y14 y15) = f3e33 y0 y1 y2 y3 y15 := hide (by kernel_rfl)
theorem f3x53_f3e33 {R : Type} (call : Bool → CallF R) (dem : Bool) (N : Nat) (y0 : Int) (y1 : Option (Nat × Nat)) (y2 : Int) (y3 : Int) (y4 : Bool) (J : KF R) (σ : St) : runK Try.prog call dem N f3c53 f3a53 J (f3e33 y0 y1 y2 y3 y4) σ = if y4 = true then runK Try.prog call dem N f3c54 f3a54 (condC f3a53 J) (f3e33 y0 y1 y2 y3 y4) σ else runK Try.prog call dem N f3c55 f3a55 (condC f3a53 J) (f3e33 y0 y1 y2 y3 y4) σ := runK_cond' (o := Operand.tmp (79 : Nat)) (by kernel_rfl) (by kernel_rfl) (by kernel_rfl) (by kernel_rfl)
theorem f3n54 {R : Type} (call : Bool → CallF R) (dem : Bool) (N : Nat) (J : KF R) (e : Env) (σ : St) : runK Try.prog call dem N f3c54 f3a54 J e σ = runK Try.prog call dem N f3c56 f3a56 (seqC (fun K e σ => runK Try.prog call dem N f3c57 f3a57 K e σ) f3a54 J) e σ := runK_seq' (by kernel_rfl) (by kernel_rfl) (by kernel_rfl)
theorem f3r56_f3e33 {R : Type} (call : Bool → CallF R) (dem : Bool) (N : Nat) (y0 : Int) (y1 : Option (Nat × Nat)) (y2 : Int) (y3 : Int) (y4 : Bool) (J : KF R) (σ : St) :
    runK Try.prog call dem N f3c56 f3a56 J (f3e33 y0 y1 y2 y3 y4) σ =
J Ex.normal (f3e34 y0 false y1 y2 y3 y4) σ := hide (by kernel_rfl)
theorem f3z54_f3e34 (y0 : Int) (y1 : Bool) (y2 : Option (Nat × Nat)) (y3 : Int) (y4 : Int) (y5 : Bool) : Ann.clr f3a54 (f3e34 y0 y1 y2 y3 y4 y5) = f3e10 y1 := hide (by kernel_rfl)
theorem f3y57_f3e10 {R : Type} (call : Bool → CallF R) (dem : Bool) (N : Nat) (y0 : Bool) (J : KF R) (σ : St) : runK Try.prog call dem N f3c57 f3a57 J (f3e10 y0) σ = J .ret (f3e10 y0) σ := runK_ret' (by kernel_rfl) (by kernel_rfl)
theorem f3n55 {R : Type} (call : Bool → CallF R) (dem : Bool) (N : Nat) (J : KF R) (e : Env) (σ : St) : runK Try.prog call dem N f3c55 f3a55 J e σ = J .normal e σ := runK_skip' (by kernel_rfl)
theorem f3z53_f3e33 (y0 : Int) (y1 : Option (Nat × Nat)) (y2 : Int) (y3 : Int) (y4 : Bool) : Ann.clr f3a53 (f3e33 y0 y1 y2 y3 y4) = f3e18 y0 y1 y2 y3 := hide (by kernel_rfl)
theorem f3z50_f3e30 (y0 : Int) (y1 : Option (Nat × Nat)) (y2 : Int) (y3 : Int) (y4 : Int) (y5 : Int) (y6 : Int) (y7 : Bool) (y8 : Int) (y9 : Bool) (y10 : Bool) (y11 : Int) (y12 : Int) (y13 : Bool) (y14 : Bool) (y15 : Bool) (y16 : Bool) (y17 : Bool) (y18 : Bool) : Ann.clr f3a50 (f3e30 y0 y1 y2 y3 y4 y5 y6 y7 y8 y9 y10 y11 y12 y13 y14 y15 y16 y17 y18) = f3e33 y0 y1 y2 y3 y18 := hide (by kernel_rfl)
theorem f3z50_f3e31 (y0 : Int) (y1 : Option (Nat × Nat)) (y2 : Int) (y3 : Int) (y4 : Int) (y5 : Int) (y6 : Int) (y7 : Bool) (y8 : Int) (y9 : Bool) (y10 : Bool) (y11 : Int) (y12 : Int) (y13 : Bool) (y14 : Bool) (y15 : Bool) (y16 : Bool) (y17 : Bool) (y18 : Bool) (y19 : Bool) (y20 : Bool) : Ann.clr f3a50 (f3e31 y0 y1 y2 y3 y4 y5 y6 y7 y8 y9 y10 y11 y12 y13 y14 y15 y16 y17 y18 y19 y20) = f3e33 y0 y1 y2 y3 y20 := hide (by kernel_rfl)
theorem f3z50_f3e32 (y0 : Int) (y1 : Option (Nat × Nat)) (y2 : Int) (y3 : Int) (y4 : Int) (y5 : Int) (y6 : Int) (y7 : Bool) (y8 : Int) (y9 : Bool) (y10 : Bool) (y11 : Int) (y12 : Int) (y13 : Bool) (y14 : Bool) (y15 : Bool) (y16 : Bool) (y17 : Bool) (y18 : Bool) (y19 : Bool) (y20 : Int) (y21 : Option (Nat × Nat)) (y22 : Int) (y23 : Int) (y24 : Int) (y25 : Bool) (y26 : Bool) : Ann.clr f3a50 (f3e32 y0 y1 y2 y3 y4 y5 y6 y7 y8 y9 y10 y11 y12 y13 y14 y15 y16 y17 y18 y19 y20 y21 y22 y23 y24 y25 y26) = f3e33 y0 y1 y2 y3 y26 := hide (by kernel_rfl)
theorem f3z49_f3e18 (y0 : Int) (y1 : Option (Nat × Nat)) (y2 : Int) (y3 : Int) : Ann.clr f3a49 (f3e18 y0 y1 y2 y3) = f3e18 y0 y1 y2 y3 := hide (by kernel_rfl)
theorem f3r51_f3e18 {R : Type} (call : Bool → CallF R) (dem : Bool) (N : Nat) (y0 : Int) (y1 : Option (Nat × Nat)) (y2 : Int) (y3 : Int) (J : KF R) (σ : St) :
    runK Try.prog call dem N f3c51 f3a51 J (f3e18 y0 y1 y2 y3) σ =
call dem (13 : Nat) [AV.ptr y1, AV.int IntKind.i64 (0 : Int)] σ fun v0 v1 =>
  Option.bind (AV.toTuple v0) fun v2 =>
    if List.length v2 = (2 : Nat) then
      Option.bind (List.head? v2) fun v3 =>
        Option.bind (AV.toSl (1 : Nat) v3) fun v4 =>
          Option.bind (List.head? (List.tail v2)) fun v5 =>
            Option.bind (AV.toInt IntKind.i64 v5) fun v6 => J Ex.normal (f3e35 y0 y1 y2 y3 y1 (Sl.o v4) (Sl.len v4) (Sl.cap v4) v6) v1
    else none := hide (by kernel_rfl)
theorem f3z35_f3e35 (y0 : Int) (y1 : Option (Nat × Nat)) (y2 : Int) (y3 : Int) (y4 : Option (Nat × Nat)) (y5 : Option (Nat × Nat)) (y6 : Nat) (y7 : Option Nat) (y8 : Int) : Ann.clr f3a35 (f3e35 y0 y1 y2 y3 y4 y5 y6 y7 y8) = f3e18 y0 y1 y2 y3 := hide (by kernel_rfl)
theorem f3z30_f3e18 (y0 : Int) (y1 : Option (Nat × Nat)) (y2 : Int) (y3 : Int) : Ann.clr f3a30 (f3e18 y0 y1 y2 y3) = f3e18 y0 y1 y2 y3 := hide (by kernel_rfl)
theorem f3r36_f3e18 {R : Type} (call : Bool → CallF R) (dem : Bool) (N : Nat) (y0 : Int) (y1 : Option (Nat × Nat)) (y2 : Int) (y3 : Int) (J : KF R) (σ : St) :
    runK Try.prog call dem N f3c36 f3a36 J (f3e18 y0 y1 y2 y3) σ =
J Ex.normal (f3e36 y0 y1 y2 (IntKind.wrap IntKind.i64 (y3 + (1 : Int))) y3 (IntKind.wrap IntKind.i64 (y3 + (1 : Int)))) σ := hide (by kernel_rfl)
theorem f3z27_f3e36 (y0 : Int) (y1 : Option (Nat × Nat)) (y2 : Int) (y3 : Int) (y4 : Int) (y5 : Int) : Ann.clr f3a27 (f3e36 y0 y1 y2 y3 y4 y5) = f3e18 y0 y1 y2 y3 := hide (by kernel_rfl)
theorem f3z26_f3e21 : Ann.clr f3a26 (f3e21) = f3e21 := hide (by kernel_rfl)
theorem f3z22_f3e21 : Ann.clr f3a22 (f3e21) = f3e21 := hide (by kernel_rfl)
theorem f3n24 {R : Type} (call : Bool → CallF R) (dem : Bool) (N : Nat) (J : KF R) (e : Env) (σ : St) : runK Try.prog call dem N f3c24 f3a24 J e σ = runK Try.prog call dem N f3c58 f3a58 (seqC (fun K e σ => runK Try.prog call dem N f3c59 f3a59 K e σ) f3a24 J) e σ := runK_seq' (by kernel_rfl) (by kernel_rfl) (by kernel_rfl)
theorem f3r58_f3e21 {R : Type} (call : Bool → CallF R) (dem : Bool) (N : Nat) (J : KF R) (σ : St) :
    runK Try.prog call dem N f3c58 f3a58 J (f3e21) σ =
call dem (8 : Nat) [] σ fun v0 v1 => Option.bind (AV.toBool v0) fun v2 => J Ex.normal (f3e37 v2 v2) v1 := hide (by kernel_rfl)
theorem f3z24_f3e37 (y0 : Bool) (y1 : Bool) : Ann.clr f3a24 (f3e37 y0 y1) = f3e10 y0 := hide (by kernel_rfl)
theorem f3y59_f3e10 {R : Type} (call : Bool → CallF R) (dem : Bool) (N : Nat) (y0 : Bool) (J : KF R) (σ : St) : runK Try.prog call dem N f3c59 f3a59 J (f3e10 y0) σ = J .ret (f3e10 y0) σ := runK_ret' (by kernel_rfl) (by kernel_rfl)
theorem f3b_f3e10_r {R : Type} (y0 : Bool) (σ : St) (K : AV → St → Option R) : bodyC Try.prog f3rs K (Ex.ret) (f3e10 y0) σ =
K (AV.bool y0) σ := hide (by kernel_rfl)
attribute [go_sem] f3_eq f3n0 f3r1_f3e0 f3z0_f3e1 f3n2 f3r3_f3e0 f3z2_f3e2 f3n4 f3n5 f3r7_f3e3 f3z5_f3e4 f3x8_f3e7 f3n9 f3r11_f3e7 f3z9_f3e8 f3y12_f3e10 f3z9_f3e9 f3n10 f3z8_f3e7 f3z5_f3e5 f3z5_f3e6 f3z4_f3e3 f3n6 f3n13 f3r15_f3e3 f3z13_f3e11 f3x16_f3e12 f3n17 f3r19_f3e12 f3z17_f3e13 f3y20_f3e10 f3z17_f3e14 f3z17_f3e15 f3n18 f3z16_f3e12 f3z6_f3e3 f3n14 f3r21_f3e3 f3z14_f3e16 f3n22 f3n23 f3r25_f3e17 f3z23_f3e18 f3n26 f3L27_eq f3z27_f3e18 f3l27_f3e18 f3n28 f3n29 f3r31_f3e18 f3z29_f3e19 f3x32_f3e20 f3n33 f3z32_f3e20 f3y34_f3e20 f3z28_f3e18 f3n30 f3n35 f3n37 f3r38_f3e18 f3z37_f3e22 f3n39 f3n40 f3r42_f3e18 f3z40_f3e23 f3x43_f3e24 f3r44_f3e24 f3z43_f3e24 f3n45 f3z39_f3e18 f3n41 f3r46_f3e18 f3z41_f3e25 f3n47 f3r48_f3e26 f3z47_f3e27 f3n49 f3n50 f3r52_f3e28 f3z50_f3e29 f3x53_f3e33 f3n54 f3r56_f3e33 f3z54_f3e34 f3y57_f3e10 f3n55 f3z53_f3e33 f3z50_f3e30 f3z50_f3e31 f3z50_f3e32 f3z49_f3e18 f3r51_f3e18 f3z35_f3e35 f3z30_f3e18 f3r36_f3e18 f3z27_f3e36 f3z26_f3e21 f3z22_f3e21 f3n24 f3r58_f3e21 f3z24_f3e37 f3y59_f3e10 f3b_f3e10_r

end Go.Proofs.Ytciibgjmdgpgnaa
