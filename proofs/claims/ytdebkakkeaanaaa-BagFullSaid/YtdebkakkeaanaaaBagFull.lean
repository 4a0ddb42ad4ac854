/- What the machine does with each piece of code, in plain text. PRINTED by a program of this workplace; Lean checks it. -/
import Derived.Test.YtdebkakkeaanaaaBagAnn
import Derived.Test.YtdebkakkeaanaaaProg
import Derived.KernelRfl
import Derived.Attr
namespace Go.Proofs.Ytdebkakkeaanaaa
open Go.AM
set_option maxRecDepth 100000
set_option linter.unusedVariables false
noncomputable def f4rs : List ResultVar := [ResultVar.tmp (2 : Nat)]
noncomputable def f4c0 : Code := subCode [] (bodyOf Try.prog 4)
def f4a0 : Ann := subAnn [] ann4
noncomputable def f4c1 : Code := subCode [0] (bodyOf Try.prog 4)
def f4a1 : Ann := subAnn [0] ann4
noncomputable def f4c2 : Code := subCode [1] (bodyOf Try.prog 4)
def f4a2 : Ann := subAnn [1] ann4
noncomputable def f4c3 : Code := subCode [1, 0] (bodyOf Try.prog 4)
def f4a3 : Ann := subAnn [1, 0] ann4
noncomputable def f4c4 : Code := subCode [1, 1] (bodyOf Try.prog 4)
def f4a4 : Ann := subAnn [1, 1] ann4
noncomputable def f4c5 : Code := subCode [1, 0, 0] (bodyOf Try.prog 4)
def f4a5 : Ann := subAnn [1, 0, 0] ann4
noncomputable def f4c6 : Code := subCode [1, 0, 1] (bodyOf Try.prog 4)
def f4a6 : Ann := subAnn [1, 0, 1] ann4
noncomputable def f4c7 : Code := subCode [1, 0, 1, 0] (bodyOf Try.prog 4)
def f4a7 : Ann := subAnn [1, 0, 1, 0] ann4
noncomputable def f4c8 : Code := subCode [1, 0, 1, 1] (bodyOf Try.prog 4)
def f4a8 : Ann := subAnn [1, 0, 1, 1] ann4
noncomputable def f4c9 : Code := subCode [1, 0, 1, 0, 0] (bodyOf Try.prog 4)
def f4a9 : Ann := subAnn [1, 0, 1, 0, 0] ann4
noncomputable def f4c10 : Code := subCode [1, 0, 1, 0, 1] (bodyOf Try.prog 4)
def f4a10 : Ann := subAnn [1, 0, 1, 0, 1] ann4
noncomputable def f4c11 : Code := subCode [1, 1, 0] (bodyOf Try.prog 4)
def f4a11 : Ann := subAnn [1, 1, 0] ann4
noncomputable def f4c12 : Code := subCode [1, 1, 1] (bodyOf Try.prog 4)
def f4a12 : Ann := subAnn [1, 1, 1] ann4
noncomputable def f4c13 : Code := subCode [1, 1, 1, 0] (bodyOf Try.prog 4)
def f4a13 : Ann := subAnn [1, 1, 1, 0] ann4
noncomputable def f4c14 : Code := subCode [1, 1, 1, 1] (bodyOf Try.prog 4)
def f4a14 : Ann := subAnn [1, 1, 1, 1] ann4
noncomputable def f4c15 : Code := subCode [1, 1, 1, 0, 0] (bodyOf Try.prog 4)
def f4a15 : Ann := subAnn [1, 1, 1, 0, 0] ann4
noncomputable def f4c16 : Code := subCode [1, 1, 1, 0, 1] (bodyOf Try.prog 4)
def f4a16 : Ann := subAnn [1, 1, 1, 0, 1] ann4
noncomputable def f4c17 : Code := subCode [1, 1, 1, 0, 1, 0] (bodyOf Try.prog 4)
def f4a17 : Ann := subAnn [1, 1, 1, 0, 1, 0] ann4
noncomputable def f4c18 : Code := subCode [1, 1, 1, 0, 1, 1] (bodyOf Try.prog 4)
def f4a18 : Ann := subAnn [1, 1, 1, 0, 1, 1] ann4
noncomputable def f4c19 : Code := subCode [1, 1, 1, 0, 1, 0, 0] (bodyOf Try.prog 4)
def f4a19 : Ann := subAnn [1, 1, 1, 0, 1, 0, 0] ann4
noncomputable def f4c20 : Code := subCode [1, 1, 1, 0, 1, 0, 1] (bodyOf Try.prog 4)
def f4a20 : Ann := subAnn [1, 1, 1, 0, 1, 0, 1] ann4
noncomputable def f4c21 : Code := subCode [1, 1, 1, 1, 0] (bodyOf Try.prog 4)
def f4a21 : Ann := subAnn [1, 1, 1, 1, 0] ann4
noncomputable def f4c22 : Code := subCode [1, 1, 1, 1, 1] (bodyOf Try.prog 4)
def f4a22 : Ann := subAnn [1, 1, 1, 1, 1] ann4
noncomputable def f4c23 : Code := subCode [1, 1, 1, 1, 0, 0] (bodyOf Try.prog 4)
def f4a23 : Ann := subAnn [1, 1, 1, 1, 0, 0] ann4
noncomputable def f4c24 : Code := subCode [1, 1, 1, 1, 0, 1] (bodyOf Try.prog 4)
def f4a24 : Ann := subAnn [1, 1, 1, 1, 0, 1] ann4
noncomputable def f4c25 : Code := subCode [1, 1, 1, 1, 0, 1, 0] (bodyOf Try.prog 4)
def f4a25 : Ann := subAnn [1, 1, 1, 1, 0, 1, 0] ann4
noncomputable def f4c26 : Code := subCode [1, 1, 1, 1, 0, 1, 0, 0] (bodyOf Try.prog 4)
def f4a26 : Ann := subAnn [1, 1, 1, 1, 0, 1, 0, 0] ann4
noncomputable def f4c27 : Code := subCode [1, 1, 1, 1, 0, 1, 0, 0, 0] (bodyOf Try.prog 4)
def f4a27 : Ann := subAnn [1, 1, 1, 1, 0, 1, 0, 0, 0] ann4
noncomputable def f4c28 : Code := subCode [1, 1, 1, 1, 0, 1, 0, 0, 1] (bodyOf Try.prog 4)
def f4a28 : Ann := subAnn [1, 1, 1, 1, 0, 1, 0, 0, 1] ann4
noncomputable def f4c29 : Code := subCode [1, 1, 1, 1, 0, 1, 0, 0, 0, 0] (bodyOf Try.prog 4)
def f4a29 : Ann := subAnn [1, 1, 1, 1, 0, 1, 0, 0, 0, 0] ann4
noncomputable def f4c30 : Code := subCode [1, 1, 1, 1, 0, 1, 0, 0, 0, 1] (bodyOf Try.prog 4)
def f4a30 : Ann := subAnn [1, 1, 1, 1, 0, 1, 0, 0, 0, 1] ann4
noncomputable def f4c31 : Code := subCode [1, 1, 1, 1, 0, 1, 0, 0, 0, 1, 0] (bodyOf Try.prog 4)
def f4a31 : Ann := subAnn [1, 1, 1, 1, 0, 1, 0, 0, 0, 1, 0] ann4
noncomputable def f4c32 : Code := subCode [1, 1, 1, 1, 0, 1, 0, 0, 0, 1, 1] (bodyOf Try.prog 4)
def f4a32 : Ann := subAnn [1, 1, 1, 1, 0, 1, 0, 0, 0, 1, 1] ann4
noncomputable def f4c33 : Code := subCode [1, 1, 1, 1, 0, 1, 0, 0, 1, 0] (bodyOf Try.prog 4)
def f4a33 : Ann := subAnn [1, 1, 1, 1, 0, 1, 0, 0, 1, 0] ann4
noncomputable def f4c34 : Code := subCode [1, 1, 1, 1, 0, 1, 0, 0, 1, 1] (bodyOf Try.prog 4)
def f4a34 : Ann := subAnn [1, 1, 1, 1, 0, 1, 0, 0, 1, 1] ann4
noncomputable def f4c35 : Code := subCode [1, 1, 1, 1, 0, 1, 0, 0, 1, 0, 0] (bodyOf Try.prog 4)
def f4a35 : Ann := subAnn [1, 1, 1, 1, 0, 1, 0, 0, 1, 0, 0] ann4
noncomputable def f4c36 : Code := subCode [1, 1, 1, 1, 0, 1, 0, 0, 1, 0, 0, 0] (bodyOf Try.prog 4)
def f4a36 : Ann := subAnn [1, 1, 1, 1, 0, 1, 0, 0, 1, 0, 0, 0] ann4
noncomputable def f4c37 : Code := subCode [1, 1, 1, 1, 0, 1, 0, 0, 1, 0, 0, 1] (bodyOf Try.prog 4)
def f4a37 : Ann := subAnn [1, 1, 1, 1, 0, 1, 0, 0, 1, 0, 0, 1] ann4
noncomputable def f4c38 : Code := subCode [1, 1, 1, 1, 0, 1, 0, 0, 1, 0, 0, 1, 0] (bodyOf Try.prog 4)
def f4a38 : Ann := subAnn [1, 1, 1, 1, 0, 1, 0, 0, 1, 0, 0, 1, 0] ann4
noncomputable def f4c39 : Code := subCode [1, 1, 1, 1, 0, 1, 0, 0, 1, 0, 0, 1, 1] (bodyOf Try.prog 4)
def f4a39 : Ann := subAnn [1, 1, 1, 1, 0, 1, 0, 0, 1, 0, 0, 1, 1] ann4
noncomputable def f4c40 : Code := subCode [1, 1, 1, 1, 0, 1, 0, 0, 1, 0, 0, 1, 0, 0] (bodyOf Try.prog 4)
def f4a40 : Ann := subAnn [1, 1, 1, 1, 0, 1, 0, 0, 1, 0, 0, 1, 0, 0] ann4
noncomputable def f4c41 : Code := subCode [1, 1, 1, 1, 0, 1, 0, 0, 1, 0, 0, 1, 0, 1] (bodyOf Try.prog 4)
def f4a41 : Ann := subAnn [1, 1, 1, 1, 0, 1, 0, 0, 1, 0, 0, 1, 0, 1] ann4
noncomputable def f4c42 : Code := subCode [1, 1, 1, 1, 1, 0] (bodyOf Try.prog 4)
def f4a42 : Ann := subAnn [1, 1, 1, 1, 1, 0] ann4
noncomputable def f4c43 : Code := subCode [1, 1, 1, 1, 1, 1] (bodyOf Try.prog 4)
def f4a43 : Ann := subAnn [1, 1, 1, 1, 1, 1] ann4
noncomputable def f4c44 : Code := subCode [1, 1, 1, 1, 1, 0, 0] (bodyOf Try.prog 4)
def f4a44 : Ann := subAnn [1, 1, 1, 1, 1, 0, 0] ann4
noncomputable def f4c45 : Code := subCode [1, 1, 1, 1, 1, 0, 1] (bodyOf Try.prog 4)
def f4a45 : Ann := subAnn [1, 1, 1, 1, 1, 0, 1] ann4
noncomputable def f4c46 : Code := subCode [1, 1, 1, 1, 1, 0, 1, 0] (bodyOf Try.prog 4)
def f4a46 : Ann := subAnn [1, 1, 1, 1, 1, 0, 1, 0] ann4
noncomputable def f4c47 : Code := subCode [1, 1, 1, 1, 1, 0, 1, 0, 0] (bodyOf Try.prog 4)
def f4a47 : Ann := subAnn [1, 1, 1, 1, 1, 0, 1, 0, 0] ann4
noncomputable def f4c48 : Code := subCode [1, 1, 1, 1, 1, 0, 1, 0, 0, 0] (bodyOf Try.prog 4)
def f4a48 : Ann := subAnn [1, 1, 1, 1, 1, 0, 1, 0, 0, 0] ann4
noncomputable def f4c49 : Code := subCode [1, 1, 1, 1, 1, 0, 1, 0, 0, 1] (bodyOf Try.prog 4)
def f4a49 : Ann := subAnn [1, 1, 1, 1, 1, 0, 1, 0, 0, 1] ann4
noncomputable def f4c50 : Code := subCode [1, 1, 1, 1, 1, 0, 1, 0, 0, 0, 0] (bodyOf Try.prog 4)
def f4a50 : Ann := subAnn [1, 1, 1, 1, 1, 0, 1, 0, 0, 0, 0] ann4
noncomputable def f4c51 : Code := subCode [1, 1, 1, 1, 1, 0, 1, 0, 0, 0, 1] (bodyOf Try.prog 4)
def f4a51 : Ann := subAnn [1, 1, 1, 1, 1, 0, 1, 0, 0, 0, 1] ann4
noncomputable def f4c52 : Code := subCode [1, 1, 1, 1, 1, 0, 1, 0, 0, 0, 1, 0] (bodyOf Try.prog 4)
def f4a52 : Ann := subAnn [1, 1, 1, 1, 1, 0, 1, 0, 0, 0, 1, 0] ann4
noncomputable def f4c53 : Code := subCode [1, 1, 1, 1, 1, 0, 1, 0, 0, 0, 1, 1] (bodyOf Try.prog 4)
def f4a53 : Ann := subAnn [1, 1, 1, 1, 1, 0, 1, 0, 0, 0, 1, 1] ann4
noncomputable def f4c54 : Code := subCode [1, 1, 1, 1, 1, 0, 1, 0, 0, 1, 0] (bodyOf Try.prog 4)
def f4a54 : Ann := subAnn [1, 1, 1, 1, 1, 0, 1, 0, 0, 1, 0] ann4
noncomputable def f4c55 : Code := subCode [1, 1, 1, 1, 1, 0, 1, 0, 0, 1, 1] (bodyOf Try.prog 4)
def f4a55 : Ann := subAnn [1, 1, 1, 1, 1, 0, 1, 0, 0, 1, 1] ann4
noncomputable def f4c56 : Code := subCode [1, 1, 1, 1, 1, 0, 1, 0, 0, 1, 0, 0] (bodyOf Try.prog 4)
def f4a56 : Ann := subAnn [1, 1, 1, 1, 1, 0, 1, 0, 0, 1, 0, 0] ann4
noncomputable def f4c57 : Code := subCode [1, 1, 1, 1, 1, 0, 1, 0, 0, 1, 0, 0, 0] (bodyOf Try.prog 4)
def f4a57 : Ann := subAnn [1, 1, 1, 1, 1, 0, 1, 0, 0, 1, 0, 0, 0] ann4
noncomputable def f4c58 : Code := subCode [1, 1, 1, 1, 1, 0, 1, 0, 0, 1, 0, 0, 1] (bodyOf Try.prog 4)
def f4a58 : Ann := subAnn [1, 1, 1, 1, 1, 0, 1, 0, 0, 1, 0, 0, 1] ann4
noncomputable def f4c59 : Code := subCode [1, 1, 1, 1, 1, 0, 1, 0, 0, 1, 0, 0, 1, 0] (bodyOf Try.prog 4)
def f4a59 : Ann := subAnn [1, 1, 1, 1, 1, 0, 1, 0, 0, 1, 0, 0, 1, 0] ann4
noncomputable def f4c60 : Code := subCode [1, 1, 1, 1, 1, 0, 1, 0, 0, 1, 0, 0, 1, 1] (bodyOf Try.prog 4)
def f4a60 : Ann := subAnn [1, 1, 1, 1, 1, 0, 1, 0, 0, 1, 0, 0, 1, 1] ann4
noncomputable def f4c61 : Code := subCode [1, 1, 1, 1, 1, 0, 1, 0, 0, 1, 0, 0, 1, 0, 0] (bodyOf Try.prog 4)
def f4a61 : Ann := subAnn [1, 1, 1, 1, 1, 0, 1, 0, 0, 1, 0, 0, 1, 0, 0] ann4
noncomputable def f4c62 : Code := subCode [1, 1, 1, 1, 1, 0, 1, 0, 0, 1, 0, 0, 1, 0, 1] (bodyOf Try.prog 4)
def f4a62 : Ann := subAnn [1, 1, 1, 1, 1, 0, 1, 0, 0, 1, 0, 0, 1, 0, 1] ann4
noncomputable def f4c63 : Code := subCode [1, 1, 1, 1, 1, 1, 0] (bodyOf Try.prog 4)
def f4a63 : Ann := subAnn [1, 1, 1, 1, 1, 1, 0] ann4
noncomputable def f4c64 : Code := subCode [1, 1, 1, 1, 1, 1, 1] (bodyOf Try.prog 4)
def f4a64 : Ann := subAnn [1, 1, 1, 1, 1, 1, 1] ann4
noncomputable def f4L25 {R : Type} (call : CallF R) (N : Nat) : KF R → Env → St → Option R := fun K e σ => runK Try.prog call N f4c26 f4a26 K e σ
noncomputable def f4L46 {R : Type} (call : CallF R) (N : Nat) : KF R → Env → St → Option R := fun K e σ => runK Try.prog call N f4c47 f4a47 K e σ
def f4e0 (y0 : Int) : Env := AV.int IntKind.i64 y0 :: Env.sp 52 []
def f4e1 (y0 : Int) (y1 : Bool) : Env := AV.int IntKind.i64 y0 :: Env.sp 1 (AV.bool y1 :: Env.sp 50 [])
def f4e2 (y0 : Int) (y1 : Int) (y2 : Bool) (y3 : Bool) (y4 : Bool) : Env := AV.int IntKind.i64 y0 :: Env.sp 5 (AV.int IntKind.i64 y1 :: AV.bool y2 :: AV.bool y3 :: AV.tuple [] :: AV.tuple [] :: AV.bool y4 :: Env.sp 41 [])
def f4e3 (y0 : Int) (y1 : Int) (y2 : Bool) (y3 : Bool) (y4 : Int) (y5 : Bool) (y6 : Bool) : Env := AV.int IntKind.i64 y0 :: Env.sp 5 (AV.int IntKind.i64 y1 :: AV.bool y2 :: AV.bool y3 :: AV.int IntKind.i64 y4 :: AV.bool y5 :: AV.bool y6 :: Env.sp 41 [])
def f4e4 (y0 : Int) (y1 : Bool) : Env := AV.int IntKind.i64 y0 :: Env.sp 10 (AV.bool y1 :: Env.sp 41 [])
def f4e5 (y0 : Int) (y1 : Bool) (y2 : Bool) (y3 : Bool) : Env := AV.int IntKind.i64 y0 :: Env.sp 1 (AV.bool y1 :: Env.sp 8 (AV.bool y2 :: AV.bool y3 :: Env.sp 40 []))
def f4e6 (y0 : Bool) : Env := Env.sp 2 (AV.bool y0 :: Env.sp 50 [])
def f4e7 (y0 : Int) (y1 : Option (Nat × Nat)) (y2 : Option (Nat × Nat)) : Env := AV.int IntKind.i64 y0 :: Env.sp 2 (AV.ptr y1 :: Env.sp 9 (AV.ptr y2 :: Env.sp 39 []))
def f4e8 (y0 : Int) (y1 : Option (Nat × Nat)) : Env := AV.int IntKind.i64 y0 :: Env.sp 2 (AV.ptr y1 :: Env.sp 49 [])
def f4e9 (y0 : Int) (y1 : Option (Nat × Nat)) (y2 : Option (Nat × Nat)) (y3 : Bool) : Env := AV.int IntKind.i64 y0 :: Env.sp 2 (AV.ptr y1 :: Env.sp 10 (AV.ptr y2 :: AV.bool y3 :: Env.sp 37 []))
def f4e10 (y0 : Int) (y1 : Option (Nat × Nat)) (y2 : Bool) : Env := AV.int IntKind.i64 y0 :: Env.sp 2 (AV.ptr y1 :: Env.sp 11 (AV.bool y2 :: Env.sp 37 []))
def f4e11 (y0 : Int) (y1 : Bool) (y2 : Option (Nat × Nat)) (y3 : Bool) : Env := AV.int IntKind.i64 y0 :: Env.sp 1 (AV.bool y1 :: AV.ptr y2 :: Env.sp 11 (AV.bool y3 :: Env.sp 37 []))
def f4e12 (y0 : Int) (y1 : Option (Nat × Nat)) (y2 : Int) : Env := AV.int IntKind.i64 y0 :: Env.sp 2 (AV.ptr y1 :: AV.int IntKind.i64 y2 :: Env.sp 48 [])
def f4e13 (y0 : Int) (y1 : Option (Nat × Nat)) (y2 : Int) (y3 : Int) (y4 : Bool) : Env := AV.int IntKind.i64 y0 :: Env.sp 2 (AV.ptr y1 :: AV.int IntKind.i64 y2 :: Env.sp 11 (AV.int IntKind.i64 y3 :: AV.bool y4 :: Env.sp 35 []))
def f4e14 (y0 : Int) (y1 : Option (Nat × Nat)) (y2 : Int) (y3 : Bool) : Env := AV.int IntKind.i64 y0 :: Env.sp 2 (AV.ptr y1 :: AV.int IntKind.i64 y2 :: Env.sp 12 (AV.bool y3 :: Env.sp 35 []))
def f4e15 (y0 : Int) (y1 : Option (Nat × Nat)) (y2 : Int) (y3 : Option (Nat × Nat)) (y4 : Int) (y5 : Int) (y6 : Int) (y7 : Int) (y8 : Int) (y9 : ByteArray) (y10 : Int) (y11 : Bool) : Env := AV.int IntKind.i64 y0 :: Env.sp 2 (AV.ptr y1 :: AV.int IntKind.i64 y2 :: Env.sp 15 (AV.ptr y3 :: AV.int IntKind.i64 y4 :: AV.int IntKind.i64 y5 :: AV.agg [AV.int IntKind.i64 y6, AV.int IntKind.i64 y7, AV.int IntKind.i64 y8, AV.str y9] :: AV.int IntKind.i64 y10 :: AV.bool y11 :: Env.sp 27 []))
def f4e16 (y0 : Int) (y1 : Option (Nat × Nat)) (y2 : Int) (y3 : Bool) : Env := AV.int IntKind.i64 y0 :: Env.sp 2 (AV.ptr y1 :: AV.int IntKind.i64 y2 :: Env.sp 20 (AV.bool y3 :: Env.sp 27 []))
def f4e17 (y0 : Int) (y1 : Bool) (y2 : Option (Nat × Nat)) (y3 : Int) (y4 : Bool) : Env := AV.int IntKind.i64 y0 :: Env.sp 1 (AV.bool y1 :: AV.ptr y2 :: AV.int IntKind.i64 y3 :: Env.sp 20 (AV.bool y4 :: Env.sp 27 []))
def f4e18 (y0 : Int) (y1 : Option (Nat × Nat)) (y2 : Int) (y3 : Int) (y4 : Int) : Env := AV.int IntKind.i64 y0 :: Env.sp 2 (AV.ptr y1 :: AV.int IntKind.i64 y2 :: Env.sp 13 (AV.int IntKind.i64 y3 :: AV.int IntKind.i64 y4 :: Env.sp 33 []))
def f4e19 (y0 : Int) (y1 : Option (Nat × Nat)) (y2 : Int) : Env := AV.int IntKind.i64 y0 :: Env.sp 2 (AV.ptr y1 :: Env.sp 1 (AV.int IntKind.i64 y2 :: Env.sp 47 []))
def f4e20 (y0 : Int) (y1 : Option (Nat × Nat)) (y2 : Int) (y3 : Int) (y4 : Int) (y5 : Bool) : Env := AV.int IntKind.i64 y0 :: Env.sp 2 (AV.ptr y1 :: Env.sp 1 (AV.int IntKind.i64 y2 :: Env.sp 20 (AV.int IntKind.i64 y3 :: AV.int IntKind.i64 y4 :: AV.bool y5 :: Env.sp 24 [])))
def f4e21 (y0 : Int) (y1 : Option (Nat × Nat)) (y2 : Int) (y3 : Bool) : Env := AV.int IntKind.i64 y0 :: Env.sp 2 (AV.ptr y1 :: Env.sp 1 (AV.int IntKind.i64 y2 :: Env.sp 22 (AV.bool y3 :: Env.sp 24 [])))
def f4e22 (y0 : Int) (y1 : Option (Nat × Nat)) (y2 : Int) (y3 : Option (Nat × Nat)) (y4 : Int) (y5 : Int) (y6 : Int) (y7 : ByteArray) (y8 : Int) (y9 : Bool) : Env := AV.int IntKind.i64 y0 :: Env.sp 2 (AV.ptr y1 :: Env.sp 1 (AV.int IntKind.i64 y2 :: Env.sp 25 (AV.ptr y3 :: AV.agg [AV.int IntKind.i64 y4, AV.int IntKind.i64 y5, AV.int IntKind.i64 y6, AV.str y7] :: AV.int IntKind.i64 y8 :: AV.bool y9 :: Env.sp 18 [])))
def f4e23 (y0 : Int) (y1 : Option (Nat × Nat)) (y2 : Int) (y3 : Bool) : Env := AV.int IntKind.i64 y0 :: Env.sp 2 (AV.ptr y1 :: Env.sp 1 (AV.int IntKind.i64 y2 :: Env.sp 28 (AV.bool y3 :: Env.sp 18 [])))
def f4e24 (y0 : Int) (y1 : Bool) (y2 : Option (Nat × Nat)) (y3 : Int) (y4 : Bool) : Env := AV.int IntKind.i64 y0 :: Env.sp 1 (AV.bool y1 :: AV.ptr y2 :: Env.sp 1 (AV.int IntKind.i64 y3 :: Env.sp 28 (AV.bool y4 :: Env.sp 18 [])))
def f4e25 (y0 : Int) (y1 : Option (Nat × Nat)) (y2 : Int) (y3 : Int) (y4 : Int) : Env := AV.int IntKind.i64 y0 :: Env.sp 2 (AV.ptr y1 :: Env.sp 1 (AV.int IntKind.i64 y2 :: Env.sp 23 (AV.int IntKind.i64 y3 :: AV.int IntKind.i64 y4 :: Env.sp 22 [])))
def f4e26 (y0 : Int) (y1 : Bool) (y2 : Option (Nat × Nat)) (y3 : Option (Nat × Nat)) (y4 : Int) (y5 : Bool) (y6 : Bool) (y7 : Option (Nat × Nat)) (y8 : Int) (y9 : Bool) (y10 : Bool) (y11 : Bool) (y12 : Option (Nat × Nat)) (y13 : Int) (y14 : Int) (y15 : Int) (y16 : Bool) (y17 : Bool) (y18 : Bool) (y19 : Bool) (y20 : Bool) : Env := AV.int IntKind.i64 y0 :: Env.sp 1 (AV.bool y1 :: AV.ptr y2 :: Env.sp 31 (AV.ptr y3 :: AV.int IntKind.i64 y4 :: AV.bool y5 :: AV.bool y6 :: AV.ptr y7 :: AV.int IntKind.i64 y8 :: AV.bool y9 :: AV.bool y10 :: AV.bool y11 :: AV.ptr y12 :: AV.int IntKind.i64 y13 :: AV.int IntKind.i64 y14 :: AV.int IntKind.i64 y15 :: AV.bool y16 :: AV.bool y17 :: AV.bool y18 :: AV.bool y19 :: AV.bool y20 :: []))
def f4e27 (y0 : Int) (y1 : Bool) (y2 : Option (Nat × Nat)) (y3 : Option (Nat × Nat)) (y4 : Int) (y5 : Bool) (y6 : Bool) (y7 : Option (Nat × Nat)) (y8 : Int) (y9 : Bool) (y10 : Bool) (y11 : Bool) (y12 : Option (Nat × Nat)) (y13 : Int) (y14 : Int) (y15 : Int) (y16 : Bool) (y17 : Bool) (y18 : Bool) (y19 : Bool) : Env := AV.int IntKind.i64 y0 :: Env.sp 1 (AV.bool y1 :: AV.ptr y2 :: Env.sp 31 (AV.ptr y3 :: AV.int IntKind.i64 y4 :: AV.bool y5 :: AV.bool y6 :: AV.ptr y7 :: AV.int IntKind.i64 y8 :: AV.bool y9 :: AV.bool y10 :: AV.bool y11 :: AV.ptr y12 :: AV.int IntKind.i64 y13 :: AV.int IntKind.i64 y14 :: AV.int IntKind.i64 y15 :: AV.bool y16 :: AV.bool y17 :: AV.bool y18 :: AV.tuple [] :: AV.bool y19 :: []))
def f4e28 (y0 : Int) (y1 : Bool) (y2 : Option (Nat × Nat)) (y3 : Option (Nat × Nat)) (y4 : Int) (y5 : Bool) (y6 : Bool) (y7 : Option (Nat × Nat)) (y8 : Int) (y9 : Bool) (y10 : Bool) (y11 : Bool) (y12 : Bool) (y13 : Bool) (y14 : Bool) : Env := AV.int IntKind.i64 y0 :: Env.sp 1 (AV.bool y1 :: AV.ptr y2 :: Env.sp 31 (AV.ptr y3 :: AV.int IntKind.i64 y4 :: AV.bool y5 :: AV.bool y6 :: AV.ptr y7 :: AV.int IntKind.i64 y8 :: AV.bool y9 :: AV.bool y10 :: AV.bool y11 :: AV.tuple [] :: AV.tuple [] :: AV.tuple [] :: AV.tuple [] :: AV.tuple [] :: AV.bool y12 :: AV.bool y13 :: AV.tuple [] :: AV.bool y14 :: []))
def f4e29 (y0 : Int) (y1 : Bool) (y2 : Option (Nat × Nat)) (y3 : Option (Nat × Nat)) (y4 : Int) (y5 : Bool) (y6 : Bool) (y7 : Bool) (y8 : Bool) (y9 : Bool) (y10 : Bool) (y11 : Bool) : Env := AV.int IntKind.i64 y0 :: Env.sp 1 (AV.bool y1 :: AV.ptr y2 :: Env.sp 31 (AV.ptr y3 :: AV.int IntKind.i64 y4 :: AV.bool y5 :: AV.bool y6 :: AV.tuple [] :: AV.tuple [] :: AV.tuple [] :: AV.bool y7 :: AV.bool y8 :: AV.tuple [] :: AV.tuple [] :: AV.tuple [] :: AV.tuple [] :: AV.tuple [] :: AV.bool y9 :: AV.bool y10 :: AV.tuple [] :: AV.bool y11 :: []))

/- function 4 -/
theorem f4_eq {R : Type} (call : CallF R) (N : Nat) (y0 : Int) (σ : St) (K : AV → St → Option R) :
    bodyK Try.prog call N ann 4 [AV.int IntKind.i64 y0] σ K = runK Try.prog call N f4c0 f4a0 (bodyC Try.prog f4rs K) (f4e0 y0) σ := bodyK_of (fn := ((Try.prog.funcs[4]?).get rfl)) (by kernel_rfl) (by kernel_rfl) (by kernel_rfl) (by kernel_rfl) (by kernel_rfl) (by kernel_rfl)
theorem f4n0 {R : Type} (call : CallF R) (N : Nat) (J : KF R) (e : Env) (σ : St) : runK Try.prog call N f4c0 f4a0 J e σ = runK Try.prog call N f4c1 f4a1 (seqC (fun K e σ => runK Try.prog call N f4c2 f4a2 K e σ) f4a0 J) e σ := runK_seq' (by kernel_rfl) (by kernel_rfl) (by kernel_rfl)
theorem f4r1_f4e0 {R : Type} (call : CallF R) (N : Nat) (y0 : Int) (J : KF R) (σ : St) :
    runK Try.prog call N f4c1 f4a1 J (f4e0 y0) σ =
J Ex.normal (f4e1 y0 false) σ := hide (by kernel_rfl)
theorem f4z0_f4e1 (y0 : Int) (y1 : Bool) : Ann.clr f4a0 (f4e1 y0 y1) = f4e0 y0 := hide (by kernel_rfl)
theorem f4n2 {R : Type} (call : CallF R) (N : Nat) (J : KF R) (e : Env) (σ : St) : runK Try.prog call N f4c2 f4a2 J e σ = runK Try.prog call N f4c3 f4a3 (seqC (fun K e σ => runK Try.prog call N f4c4 f4a4 K e σ) f4a2 J) e σ := runK_seq' (by kernel_rfl) (by kernel_rfl) (by kernel_rfl)
theorem f4n3 {R : Type} (call : CallF R) (N : Nat) (J : KF R) (e : Env) (σ : St) : runK Try.prog call N f4c3 f4a3 J e σ = runK Try.prog call N f4c5 f4a5 (seqC (fun K e σ => runK Try.prog call N f4c6 f4a6 K e σ) f4a3 J) e σ := runK_seq' (by kernel_rfl) (by kernel_rfl) (by kernel_rfl)
theorem f4r5_f4e0 {R : Type} (call : CallF R) (N : Nat) (y0 : Int) (J : KF R) (σ : St) :
    runK Try.prog call N f4c5 f4a5 J (f4e0 y0) σ =
if decide (y0 < (0 : Int)) = true then J Ex.normal (f4e2 y0 y0 (decide (y0 < (0 : Int))) true true) σ
else J Ex.normal (f4e3 y0 y0 (decide (y0 < (0 : Int))) false y0 (decide (y0 > (50 : Int))) (decide (y0 > (50 : Int)))) σ := hide (by kernel_rfl)
theorem f4z3_f4e2 (y0 : Int) (y1 : Int) (y2 : Bool) (y3 : Bool) (y4 : Bool) : Ann.clr f4a3 (f4e2 y0 y1 y2 y3 y4) = f4e4 y0 y4 := hide (by kernel_rfl)
theorem f4x6_f4e4 {R : Type} (call : CallF R) (N : Nat) (y0 : Int) (y1 : Bool) (J : KF R) (σ : St) : runK Try.prog call N f4c6 f4a6 J (f4e4 y0 y1) σ = if y1 = true then runK Try.prog call N f4c7 f4a7 (condC f4a6 J) (f4e4 y0 y1) σ else runK Try.prog call N f4c8 f4a8 (condC f4a6 J) (f4e4 y0 y1) σ := runK_cond' (o := Operand.tmp (11 : Nat)) (by kernel_rfl) (by kernel_rfl) (by kernel_rfl) (by kernel_rfl)
theorem f4n7 {R : Type} (call : CallF R) (N : Nat) (J : KF R) (e : Env) (σ : St) : runK Try.prog call N f4c7 f4a7 J e σ = runK Try.prog call N f4c9 f4a9 (seqC (fun K e σ => runK Try.prog call N f4c10 f4a10 K e σ) f4a7 J) e σ := runK_seq' (by kernel_rfl) (by kernel_rfl) (by kernel_rfl)
theorem f4r9_f4e4 {R : Type} (call : CallF R) (N : Nat) (y0 : Int) (y1 : Bool) (J : KF R) (σ : St) :
    runK Try.prog call N f4c9 f4a9 J (f4e4 y0 y1) σ =
call (9 : Nat) [] σ fun v0 v1 => Option.bind (AV.toBool v0) fun v2 => J Ex.normal (f4e5 y0 v2 y1 v2) v1 := hide (by kernel_rfl)
theorem f4z7_f4e5 (y0 : Int) (y1 : Bool) (y2 : Bool) (y3 : Bool) : Ann.clr f4a7 (f4e5 y0 y1 y2 y3) = f4e6 y1 := hide (by kernel_rfl)
theorem f4y10_f4e6 {R : Type} (call : CallF R) (N : Nat) (y0 : Bool) (J : KF R) (σ : St) : runK Try.prog call N f4c10 f4a10 J (f4e6 y0) σ = J .ret (f4e6 y0) σ := runK_ret' (by kernel_rfl) (by kernel_rfl)
theorem f4n8 {R : Type} (call : CallF R) (N : Nat) (J : KF R) (e : Env) (σ : St) : runK Try.prog call N f4c8 f4a8 J e σ = J .normal e σ := runK_skip' (by kernel_rfl)
theorem f4z6_f4e4 (y0 : Int) (y1 : Bool) : Ann.clr f4a6 (f4e4 y0 y1) = f4e0 y0 := hide (by kernel_rfl)
theorem f4z3_f4e3 (y0 : Int) (y1 : Int) (y2 : Bool) (y3 : Bool) (y4 : Int) (y5 : Bool) (y6 : Bool) : Ann.clr f4a3 (f4e3 y0 y1 y2 y3 y4 y5 y6) = f4e4 y0 y6 := hide (by kernel_rfl)
theorem f4z2_f4e0 (y0 : Int) : Ann.clr f4a2 (f4e0 y0) = f4e0 y0 := hide (by kernel_rfl)
theorem f4n4 {R : Type} (call : CallF R) (N : Nat) (J : KF R) (e : Env) (σ : St) : runK Try.prog call N f4c4 f4a4 J e σ = runK Try.prog call N f4c11 f4a11 (seqC (fun K e σ => runK Try.prog call N f4c12 f4a12 K e σ) f4a4 J) e σ := runK_seq' (by kernel_rfl) (by kernel_rfl) (by kernel_rfl)
theorem f4r11_f4e0 {R : Type} (call : CallF R) (N : Nat) (y0 : Int) (J : KF R) (σ : St) :
    runK Try.prog call N f4c11 f4a11 J (f4e0 y0) σ =
call (8 : Nat) [] σ fun v0 v1 => Option.bind (AV.toPtr v0) fun v2 => J Ex.normal (f4e7 y0 v2 v2) v1 := hide (by kernel_rfl)
theorem f4z4_f4e7 (y0 : Int) (y1 : Option (Nat × Nat)) (y2 : Option (Nat × Nat)) : Ann.clr f4a4 (f4e7 y0 y1 y2) = f4e8 y0 y1 := hide (by kernel_rfl)
theorem f4n12 {R : Type} (call : CallF R) (N : Nat) (J : KF R) (e : Env) (σ : St) : runK Try.prog call N f4c12 f4a12 J e σ = runK Try.prog call N f4c13 f4a13 (seqC (fun K e σ => runK Try.prog call N f4c14 f4a14 K e σ) f4a12 J) e σ := runK_seq' (by kernel_rfl) (by kernel_rfl) (by kernel_rfl)
theorem f4n13 {R : Type} (call : CallF R) (N : Nat) (J : KF R) (e : Env) (σ : St) : runK Try.prog call N f4c13 f4a13 J e σ = runK Try.prog call N f4c15 f4a15 (seqC (fun K e σ => runK Try.prog call N f4c16 f4a16 K e σ) f4a13 J) e σ := runK_seq' (by kernel_rfl) (by kernel_rfl) (by kernel_rfl)
theorem f4r15_f4e8 {R : Type} (call : CallF R) (N : Nat) (y0 : Int) (y1 : Option (Nat × Nat)) (J : KF R) (σ : St) :
    runK Try.prog call N f4c15 f4a15 J (f4e8 y0 y1) σ =
J Ex.normal (f4e9 y0 y1 y1 (Option.isNone y1)) σ := hide (by kernel_rfl)
theorem f4z13_f4e9 (y0 : Int) (y1 : Option (Nat × Nat)) (y2 : Option (Nat × Nat)) (y3 : Bool) : Ann.clr f4a13 (f4e9 y0 y1 y2 y3) = f4e10 y0 y1 y3 := hide (by kernel_rfl)
theorem f4x16_f4e10 {R : Type} (call : CallF R) (N : Nat) (y0 : Int) (y1 : Option (Nat × Nat)) (y2 : Bool) (J : KF R) (σ : St) : runK Try.prog call N f4c16 f4a16 J (f4e10 y0 y1 y2) σ = if y2 = true then runK Try.prog call N f4c17 f4a17 (condC f4a16 J) (f4e10 y0 y1 y2) σ else runK Try.prog call N f4c18 f4a18 (condC f4a16 J) (f4e10 y0 y1 y2) σ := runK_cond' (o := Operand.tmp (15 : Nat)) (by kernel_rfl) (by kernel_rfl) (by kernel_rfl) (by kernel_rfl)
theorem f4n17 {R : Type} (call : CallF R) (N : Nat) (J : KF R) (e : Env) (σ : St) : runK Try.prog call N f4c17 f4a17 J e σ = runK Try.prog call N f4c19 f4a19 (seqC (fun K e σ => runK Try.prog call N f4c20 f4a20 K e σ) f4a17 J) e σ := runK_seq' (by kernel_rfl) (by kernel_rfl) (by kernel_rfl)
theorem f4r19_f4e10 {R : Type} (call : CallF R) (N : Nat) (y0 : Int) (y1 : Option (Nat × Nat)) (y2 : Bool) (J : KF R) (σ : St) :
    runK Try.prog call N f4c19 f4a19 J (f4e10 y0 y1 y2) σ =
J Ex.normal (f4e11 y0 false y1 y2) σ := hide (by kernel_rfl)
theorem f4z17_f4e11 (y0 : Int) (y1 : Bool) (y2 : Option (Nat × Nat)) (y3 : Bool) : Ann.clr f4a17 (f4e11 y0 y1 y2 y3) = f4e6 y1 := hide (by kernel_rfl)
theorem f4y20_f4e6 {R : Type} (call : CallF R) (N : Nat) (y0 : Bool) (J : KF R) (σ : St) : runK Try.prog call N f4c20 f4a20 J (f4e6 y0) σ = J .ret (f4e6 y0) σ := runK_ret' (by kernel_rfl) (by kernel_rfl)
theorem f4n18 {R : Type} (call : CallF R) (N : Nat) (J : KF R) (e : Env) (σ : St) : runK Try.prog call N f4c18 f4a18 J e σ = J .normal e σ := runK_skip' (by kernel_rfl)
theorem f4z16_f4e10 (y0 : Int) (y1 : Option (Nat × Nat)) (y2 : Bool) : Ann.clr f4a16 (f4e10 y0 y1 y2) = f4e8 y0 y1 := hide (by kernel_rfl)
theorem f4z12_f4e8 (y0 : Int) (y1 : Option (Nat × Nat)) : Ann.clr f4a12 (f4e8 y0 y1) = f4e8 y0 y1 := hide (by kernel_rfl)
theorem f4n14 {R : Type} (call : CallF R) (N : Nat) (J : KF R) (e : Env) (σ : St) : runK Try.prog call N f4c14 f4a14 J e σ = runK Try.prog call N f4c21 f4a21 (seqC (fun K e σ => runK Try.prog call N f4c22 f4a22 K e σ) f4a14 J) e σ := runK_seq' (by kernel_rfl) (by kernel_rfl) (by kernel_rfl)
theorem f4n21 {R : Type} (call : CallF R) (N : Nat) (J : KF R) (e : Env) (σ : St) : runK Try.prog call N f4c21 f4a21 J e σ = runK Try.prog call N f4c23 f4a23 (seqC (fun K e σ => runK Try.prog call N f4c24 f4a24 K e σ) f4a21 J) e σ := runK_seq' (by kernel_rfl) (by kernel_rfl) (by kernel_rfl)
theorem f4r23_f4e8 {R : Type} (call : CallF R) (N : Nat) (y0 : Int) (y1 : Option (Nat × Nat)) (J : KF R) (σ : St) :
    runK Try.prog call N f4c23 f4a23 J (f4e8 y0 y1) σ =
J Ex.normal (f4e12 y0 y1 (0 : Int)) σ := hide (by kernel_rfl)
theorem f4z21_f4e12 (y0 : Int) (y1 : Option (Nat × Nat)) (y2 : Int) : Ann.clr f4a21 (f4e12 y0 y1 y2) = f4e12 y0 y1 y2 := hide (by kernel_rfl)
theorem f4n24 {R : Type} (call : CallF R) (N : Nat) (J : KF R) (e : Env) (σ : St) : runK Try.prog call N f4c24 f4a24 J e σ = runK Try.prog call N f4c25 f4a25 (blockC 0 f4a24 J) e σ := runK_block' (by kernel_rfl) (by kernel_rfl)
theorem f4L25_eq {R : Type} (call : CallF R) (N : Nat) (J : KF R) (e : Env) (σ : St) : f4L25 call N J e σ = runK Try.prog call N f4c26 f4a26 J e σ := hide rfl
theorem f4z25_f4e12 (y0 : Int) (y1 : Option (Nat × Nat)) (y2 : Int) : Ann.clr f4a25 (f4e12 y0 y1 y2) = f4e12 y0 y1 y2 := hide (by kernel_rfl)
theorem f4l25_f4e12 {R : Type} (call : CallF R) (N : Nat) (y0 : Int) (y1 : Option (Nat × Nat)) (y2 : Int) (J : KF R) (σ : St) : runK Try.prog call N f4c25 f4a25 J (f4e12 y0 y1 y2) σ = loopK (f4L25 call N) f4a25 N J (f4e12 y0 y1 y2) σ := runK_loop' (by kernel_rfl) (by kernel_rfl) (by kernel_rfl)
theorem f4n26 {R : Type} (call : CallF R) (N : Nat) (J : KF R) (e : Env) (σ : St) : runK Try.prog call N f4c26 f4a26 J e σ = runK Try.prog call N f4c27 f4a27 (seqC (fun K e σ => runK Try.prog call N f4c28 f4a28 K e σ) f4a26 J) e σ := runK_seq' (by kernel_rfl) (by kernel_rfl) (by kernel_rfl)
theorem f4n27 {R : Type} (call : CallF R) (N : Nat) (J : KF R) (e : Env) (σ : St) : runK Try.prog call N f4c27 f4a27 J e σ = runK Try.prog call N f4c29 f4a29 (seqC (fun K e σ => runK Try.prog call N f4c30 f4a30 K e σ) f4a27 J) e σ := runK_seq' (by kernel_rfl) (by kernel_rfl) (by kernel_rfl)
theorem f4r29_f4e12 {R : Type} (call : CallF R) (N : Nat) (y0 : Int) (y1 : Option (Nat × Nat)) (y2 : Int) (J : KF R) (σ : St) :
    runK Try.prog call N f4c29 f4a29 J (f4e12 y0 y1 y2) σ =
J Ex.normal (f4e13 y0 y1 y2 y2 (decide (y2 < (4096 : Int)))) σ := hide (by kernel_rfl)
theorem f4z27_f4e13 (y0 : Int) (y1 : Option (Nat × Nat)) (y2 : Int) (y3 : Int) (y4 : Bool) : Ann.clr f4a27 (f4e13 y0 y1 y2 y3 y4) = f4e14 y0 y1 y2 y4 := hide (by kernel_rfl)
theorem f4x30_f4e14 {R : Type} (call : CallF R) (N : Nat) (y0 : Int) (y1 : Option (Nat × Nat)) (y2 : Int) (y3 : Bool) (J : KF R) (σ : St) : runK Try.prog call N f4c30 f4a30 J (f4e14 y0 y1 y2 y3) σ = if y3 = true then runK Try.prog call N f4c31 f4a31 (condC f4a30 J) (f4e14 y0 y1 y2 y3) σ else runK Try.prog call N f4c32 f4a32 (condC f4a30 J) (f4e14 y0 y1 y2 y3) σ := runK_cond' (o := Operand.tmp (17 : Nat)) (by kernel_rfl) (by kernel_rfl) (by kernel_rfl) (by kernel_rfl)
theorem f4n31 {R : Type} (call : CallF R) (N : Nat) (J : KF R) (e : Env) (σ : St) : runK Try.prog call N f4c31 f4a31 J e σ = J .normal e σ := runK_skip' (by kernel_rfl)
theorem f4z30_f4e14 (y0 : Int) (y1 : Option (Nat × Nat)) (y2 : Int) (y3 : Bool) : Ann.clr f4a30 (f4e14 y0 y1 y2 y3) = f4e12 y0 y1 y2 := hide (by kernel_rfl)
theorem f4y32_f4e14 {R : Type} (call : CallF R) (N : Nat) (y0 : Int) (y1 : Option (Nat × Nat)) (y2 : Int) (y3 : Bool) (J : KF R) (σ : St) : runK Try.prog call N f4c32 f4a32 J (f4e14 y0 y1 y2 y3) σ = J (.exit 0) (f4e8 y0 y1) σ := runK_exit' (by kernel_rfl) (by kernel_rfl)
theorem f4z26_f4e12 (y0 : Int) (y1 : Option (Nat × Nat)) (y2 : Int) : Ann.clr f4a26 (f4e12 y0 y1 y2) = f4e12 y0 y1 y2 := hide (by kernel_rfl)
theorem f4n28 {R : Type} (call : CallF R) (N : Nat) (J : KF R) (e : Env) (σ : St) : runK Try.prog call N f4c28 f4a28 J e σ = runK Try.prog call N f4c33 f4a33 (seqC (fun K e σ => runK Try.prog call N f4c34 f4a34 K e σ) f4a28 J) e σ := runK_seq' (by kernel_rfl) (by kernel_rfl) (by kernel_rfl)
theorem f4n33 {R : Type} (call : CallF R) (N : Nat) (J : KF R) (e : Env) (σ : St) : runK Try.prog call N f4c33 f4a33 J e σ = runK Try.prog call N f4c35 f4a35 (blockC 1 f4a33 J) e σ := runK_block' (by kernel_rfl) (by kernel_rfl)
theorem f4n35 {R : Type} (call : CallF R) (N : Nat) (J : KF R) (e : Env) (σ : St) : runK Try.prog call N f4c35 f4a35 J e σ = runK Try.prog call N f4c36 f4a36 (seqC (fun K e σ => runK Try.prog call N f4c37 f4a37 K e σ) f4a35 J) e σ := runK_seq' (by kernel_rfl) (by kernel_rfl) (by kernel_rfl)
theorem f4r36_f4e12 {R : Type} (call : CallF R) (N : Nat) (y0 : Int) (y1 : Option (Nat × Nat)) (y2 : Int) (J : KF R) (σ : St) :
    runK Try.prog call N f4c36 f4a36 J (f4e12 y0 y1 y2) σ =
call (10 : Nat)
  [AV.ptr y1,
    AV.agg [AV.int IntKind.i64 (0 : Int), AV.int IntKind.i64 (Int.tmod y2 (64 : Int)), AV.int IntKind.i64 (0 : Int), AV.str (ByteArray.mk #[])]]
  σ fun v0 v1 =>
  Option.bind (AV.toInt IntKind.i64 v0) fun v2 =>
    J Ex.normal (f4e15 y0 y1 y2 y1 y2 (Int.tmod y2 (64 : Int)) (0 : Int) (Int.tmod y2 (64 : Int)) (0 : Int) (ByteArray.mk #[]) v2 (v2 != (0 : Int)))
      v1 := hide (by kernel_rfl)
theorem f4z35_f4e15 (y0 : Int) (y1 : Option (Nat × Nat)) (y2 : Int) (y3 : Option (Nat × Nat)) (y4 : Int) (y5 : Int) (y6 : Int) (y7 : Int) (y8 : Int) (y9 : ByteArray) (y10 : Int) (y11 : Bool) : Ann.clr f4a35 (f4e15 y0 y1 y2 y3 y4 y5 y6 y7 y8 y9 y10 y11) = f4e16 y0 y1 y2 y11 := hide (by kernel_rfl)
theorem f4x37_f4e16 {R : Type} (call : CallF R) (N : Nat) (y0 : Int) (y1 : Option (Nat × Nat)) (y2 : Int) (y3 : Bool) (J : KF R) (σ : St) : runK Try.prog call N f4c37 f4a37 J (f4e16 y0 y1 y2 y3) σ = if y3 = true then runK Try.prog call N f4c38 f4a38 (condC f4a37 J) (f4e16 y0 y1 y2 y3) σ else runK Try.prog call N f4c39 f4a39 (condC f4a37 J) (f4e16 y0 y1 y2 y3) σ := runK_cond' (o := Operand.tmp (25 : Nat)) (by kernel_rfl) (by kernel_rfl) (by kernel_rfl) (by kernel_rfl)
theorem f4n38 {R : Type} (call : CallF R) (N : Nat) (J : KF R) (e : Env) (σ : St) : runK Try.prog call N f4c38 f4a38 J e σ = runK Try.prog call N f4c40 f4a40 (seqC (fun K e σ => runK Try.prog call N f4c41 f4a41 K e σ) f4a38 J) e σ := runK_seq' (by kernel_rfl) (by kernel_rfl) (by kernel_rfl)
theorem f4r40_f4e16 {R : Type} (call : CallF R) (N : Nat) (y0 : Int) (y1 : Option (Nat × Nat)) (y2 : Int) (y3 : Bool) (J : KF R) (σ : St) :
    runK Try.prog call N f4c40 f4a40 J (f4e16 y0 y1 y2 y3) σ =
J Ex.normal (f4e17 y0 false y1 y2 y3) σ := hide (by kernel_rfl)
theorem f4z38_f4e17 (y0 : Int) (y1 : Bool) (y2 : Option (Nat × Nat)) (y3 : Int) (y4 : Bool) : Ann.clr f4a38 (f4e17 y0 y1 y2 y3 y4) = f4e6 y1 := hide (by kernel_rfl)
theorem f4y41_f4e6 {R : Type} (call : CallF R) (N : Nat) (y0 : Bool) (J : KF R) (σ : St) : runK Try.prog call N f4c41 f4a41 J (f4e6 y0) σ = J .ret (f4e6 y0) σ := runK_ret' (by kernel_rfl) (by kernel_rfl)
theorem f4n39 {R : Type} (call : CallF R) (N : Nat) (J : KF R) (e : Env) (σ : St) : runK Try.prog call N f4c39 f4a39 J e σ = J .normal e σ := runK_skip' (by kernel_rfl)
theorem f4z37_f4e16 (y0 : Int) (y1 : Option (Nat × Nat)) (y2 : Int) (y3 : Bool) : Ann.clr f4a37 (f4e16 y0 y1 y2 y3) = f4e12 y0 y1 y2 := hide (by kernel_rfl)
theorem f4z33_f4e12 (y0 : Int) (y1 : Option (Nat × Nat)) (y2 : Int) : Ann.clr f4a33 (f4e12 y0 y1 y2) = f4e12 y0 y1 y2 := hide (by kernel_rfl)
theorem f4z28_f4e12 (y0 : Int) (y1 : Option (Nat × Nat)) (y2 : Int) : Ann.clr f4a28 (f4e12 y0 y1 y2) = f4e12 y0 y1 y2 := hide (by kernel_rfl)
theorem f4r34_f4e12 {R : Type} (call : CallF R) (N : Nat) (y0 : Int) (y1 : Option (Nat × Nat)) (y2 : Int) (J : KF R) (σ : St) :
    runK Try.prog call N f4c34 f4a34 J (f4e12 y0 y1 y2) σ =
J Ex.normal (f4e18 y0 y1 (IntKind.wrap IntKind.i64 (y2 + (1 : Int))) y2 (IntKind.wrap IntKind.i64 (y2 + (1 : Int)))) σ := hide (by kernel_rfl)
theorem f4z25_f4e18 (y0 : Int) (y1 : Option (Nat × Nat)) (y2 : Int) (y3 : Int) (y4 : Int) : Ann.clr f4a25 (f4e18 y0 y1 y2 y3 y4) = f4e12 y0 y1 y2 := hide (by kernel_rfl)
theorem f4z24_f4e8 (y0 : Int) (y1 : Option (Nat × Nat)) : Ann.clr f4a24 (f4e8 y0 y1) = f4e8 y0 y1 := hide (by kernel_rfl)
theorem f4z14_f4e8 (y0 : Int) (y1 : Option (Nat × Nat)) : Ann.clr f4a14 (f4e8 y0 y1) = f4e8 y0 y1 := hide (by kernel_rfl)
theorem f4n22 {R : Type} (call : CallF R) (N : Nat) (J : KF R) (e : Env) (σ : St) : runK Try.prog call N f4c22 f4a22 J e σ = runK Try.prog call N f4c42 f4a42 (seqC (fun K e σ => runK Try.prog call N f4c43 f4a43 K e σ) f4a22 J) e σ := runK_seq' (by kernel_rfl) (by kernel_rfl) (by kernel_rfl)
theorem f4n42 {R : Type} (call : CallF R) (N : Nat) (J : KF R) (e : Env) (σ : St) : runK Try.prog call N f4c42 f4a42 J e σ = runK Try.prog call N f4c44 f4a44 (seqC (fun K e σ => runK Try.prog call N f4c45 f4a45 K e σ) f4a42 J) e σ := runK_seq' (by kernel_rfl) (by kernel_rfl) (by kernel_rfl)
theorem f4r44_f4e8 {R : Type} (call : CallF R) (N : Nat) (y0 : Int) (y1 : Option (Nat × Nat)) (J : KF R) (σ : St) :
    runK Try.prog call N f4c44 f4a44 J (f4e8 y0 y1) σ =
J Ex.normal (f4e19 y0 y1 (0 : Int)) σ := hide (by kernel_rfl)
theorem f4z42_f4e19 (y0 : Int) (y1 : Option (Nat × Nat)) (y2 : Int) : Ann.clr f4a42 (f4e19 y0 y1 y2) = f4e19 y0 y1 y2 := hide (by kernel_rfl)
theorem f4n45 {R : Type} (call : CallF R) (N : Nat) (J : KF R) (e : Env) (σ : St) : runK Try.prog call N f4c45 f4a45 J e σ = runK Try.prog call N f4c46 f4a46 (blockC 2 f4a45 J) e σ := runK_block' (by kernel_rfl) (by kernel_rfl)
theorem f4L46_eq {R : Type} (call : CallF R) (N : Nat) (J : KF R) (e : Env) (σ : St) : f4L46 call N J e σ = runK Try.prog call N f4c47 f4a47 J e σ := hide rfl
theorem f4z46_f4e19 (y0 : Int) (y1 : Option (Nat × Nat)) (y2 : Int) : Ann.clr f4a46 (f4e19 y0 y1 y2) = f4e19 y0 y1 y2 := hide (by kernel_rfl)
theorem f4l46_f4e19 {R : Type} (call : CallF R) (N : Nat) (y0 : Int) (y1 : Option (Nat × Nat)) (y2 : Int) (J : KF R) (σ : St) : runK Try.prog call N f4c46 f4a46 J (f4e19 y0 y1 y2) σ = loopK (f4L46 call N) f4a46 N J (f4e19 y0 y1 y2) σ := runK_loop' (by kernel_rfl) (by kernel_rfl) (by kernel_rfl)
theorem f4n47 {R : Type} (call : CallF R) (N : Nat) (J : KF R) (e : Env) (σ : St) : runK Try.prog call N f4c47 f4a47 J e σ = runK Try.prog call N f4c48 f4a48 (seqC (fun K e σ => runK Try.prog call N f4c49 f4a49 K e σ) f4a47 J) e σ := runK_seq' (by kernel_rfl) (by kernel_rfl) (by kernel_rfl)
theorem f4n48 {R : Type} (call : CallF R) (N : Nat) (J : KF R) (e : Env) (σ : St) : runK Try.prog call N f4c48 f4a48 J e σ = runK Try.prog call N f4c50 f4a50 (seqC (fun K e σ => runK Try.prog call N f4c51 f4a51 K e σ) f4a48 J) e σ := runK_seq' (by kernel_rfl) (by kernel_rfl) (by kernel_rfl)
theorem f4r50_f4e19 {R : Type} (call : CallF R) (N : Nat) (y0 : Int) (y1 : Option (Nat × Nat)) (y2 : Int) (J : KF R) (σ : St) :
    runK Try.prog call N f4c50 f4a50 J (f4e19 y0 y1 y2) σ =
J Ex.normal (f4e20 y0 y1 y2 y2 y0 (decide (y2 < y0))) σ := hide (by kernel_rfl)
theorem f4z48_f4e20 (y0 : Int) (y1 : Option (Nat × Nat)) (y2 : Int) (y3 : Int) (y4 : Int) (y5 : Bool) : Ann.clr f4a48 (f4e20 y0 y1 y2 y3 y4 y5) = f4e21 y0 y1 y2 y5 := hide (by kernel_rfl)
theorem f4x51_f4e21 {R : Type} (call : CallF R) (N : Nat) (y0 : Int) (y1 : Option (Nat × Nat)) (y2 : Int) (y3 : Bool) (J : KF R) (σ : St) : runK Try.prog call N f4c51 f4a51 J (f4e21 y0 y1 y2 y3) σ = if y3 = true then runK Try.prog call N f4c52 f4a52 (condC f4a51 J) (f4e21 y0 y1 y2 y3) σ else runK Try.prog call N f4c53 f4a53 (condC f4a51 J) (f4e21 y0 y1 y2 y3) σ := runK_cond' (o := Operand.tmp (28 : Nat)) (by kernel_rfl) (by kernel_rfl) (by kernel_rfl) (by kernel_rfl)
theorem f4n52 {R : Type} (call : CallF R) (N : Nat) (J : KF R) (e : Env) (σ : St) : runK Try.prog call N f4c52 f4a52 J e σ = J .normal e σ := runK_skip' (by kernel_rfl)
theorem f4z51_f4e21 (y0 : Int) (y1 : Option (Nat × Nat)) (y2 : Int) (y3 : Bool) : Ann.clr f4a51 (f4e21 y0 y1 y2 y3) = f4e19 y0 y1 y2 := hide (by kernel_rfl)
theorem f4y53_f4e21 {R : Type} (call : CallF R) (N : Nat) (y0 : Int) (y1 : Option (Nat × Nat)) (y2 : Int) (y3 : Bool) (J : KF R) (σ : St) : runK Try.prog call N f4c53 f4a53 J (f4e21 y0 y1 y2 y3) σ = J (.exit 2) (f4e8 y0 y1) σ := runK_exit' (by kernel_rfl) (by kernel_rfl)
theorem f4z47_f4e19 (y0 : Int) (y1 : Option (Nat × Nat)) (y2 : Int) : Ann.clr f4a47 (f4e19 y0 y1 y2) = f4e19 y0 y1 y2 := hide (by kernel_rfl)
theorem f4n49 {R : Type} (call : CallF R) (N : Nat) (J : KF R) (e : Env) (σ : St) : runK Try.prog call N f4c49 f4a49 J e σ = runK Try.prog call N f4c54 f4a54 (seqC (fun K e σ => runK Try.prog call N f4c55 f4a55 K e σ) f4a49 J) e σ := runK_seq' (by kernel_rfl) (by kernel_rfl) (by kernel_rfl)
theorem f4n54 {R : Type} (call : CallF R) (N : Nat) (J : KF R) (e : Env) (σ : St) : runK Try.prog call N f4c54 f4a54 J e σ = runK Try.prog call N f4c56 f4a56 (blockC 3 f4a54 J) e σ := runK_block' (by kernel_rfl) (by kernel_rfl)
theorem f4n56 {R : Type} (call : CallF R) (N : Nat) (J : KF R) (e : Env) (σ : St) : runK Try.prog call N f4c56 f4a56 J e σ = runK Try.prog call N f4c57 f4a57 (seqC (fun K e σ => runK Try.prog call N f4c58 f4a58 K e σ) f4a56 J) e σ := runK_seq' (by kernel_rfl) (by kernel_rfl) (by kernel_rfl)
theorem f4r57_f4e19 {R : Type} (call : CallF R) (N : Nat) (y0 : Int) (y1 : Option (Nat × Nat)) (y2 : Int) (J : KF R) (σ : St) :
    runK Try.prog call N f4c57 f4a57 J (f4e19 y0 y1 y2) σ =
call (10 : Nat)
  [AV.ptr y1, AV.agg [AV.int IntKind.i64 (0 : Int), AV.int IntKind.i64 (0 : Int), AV.int IntKind.i64 (0 : Int), AV.str (ByteArray.mk #[])]] σ
  fun v0 v1 =>
  Option.bind (AV.toInt IntKind.i64 v0) fun v2 =>
    J Ex.normal (f4e22 y0 y1 y2 y1 (0 : Int) (0 : Int) (0 : Int) (ByteArray.mk #[]) v2 (v2 != (5 : Int))) v1 := hide (by kernel_rfl)
theorem f4z56_f4e22 (y0 : Int) (y1 : Option (Nat × Nat)) (y2 : Int) (y3 : Option (Nat × Nat)) (y4 : Int) (y5 : Int) (y6 : Int) (y7 : ByteArray) (y8 : Int) (y9 : Bool) : Ann.clr f4a56 (f4e22 y0 y1 y2 y3 y4 y5 y6 y7 y8 y9) = f4e23 y0 y1 y2 y9 := hide (by kernel_rfl)
theorem f4x58_f4e23 {R : Type} (call : CallF R) (N : Nat) (y0 : Int) (y1 : Option (Nat × Nat)) (y2 : Int) (y3 : Bool) (J : KF R) (σ : St) : runK Try.prog call N f4c58 f4a58 J (f4e23 y0 y1 y2 y3) σ = if y3 = true then runK Try.prog call N f4c59 f4a59 (condC f4a58 J) (f4e23 y0 y1 y2 y3) σ else runK Try.prog call N f4c60 f4a60 (condC f4a58 J) (f4e23 y0 y1 y2 y3) σ := runK_cond' (o := Operand.tmp (34 : Nat)) (by kernel_rfl) (by kernel_rfl) (by kernel_rfl) (by kernel_rfl)
theorem f4n59 {R : Type} (call : CallF R) (N : Nat) (J : KF R) (e : Env) (σ : St) : runK Try.prog call N f4c59 f4a59 J e σ = runK Try.prog call N f4c61 f4a61 (seqC (fun K e σ => runK Try.prog call N f4c62 f4a62 K e σ) f4a59 J) e σ := runK_seq' (by kernel_rfl) (by kernel_rfl) (by kernel_rfl)
theorem f4r61_f4e23 {R : Type} (call : CallF R) (N : Nat) (y0 : Int) (y1 : Option (Nat × Nat)) (y2 : Int) (y3 : Bool) (J : KF R) (σ : St) :
    runK Try.prog call N f4c61 f4a61 J (f4e23 y0 y1 y2 y3) σ =
J Ex.normal (f4e24 y0 false y1 y2 y3) σ := hide (by kernel_rfl)
theorem f4z59_f4e24 (y0 : Int) (y1 : Bool) (y2 : Option (Nat × Nat)) (y3 : Int) (y4 : Bool) : Ann.clr f4a59 (f4e24 y0 y1 y2 y3 y4) = f4e6 y1 := hide (by kernel_rfl)
theorem f4y62_f4e6 {R : Type} (call : CallF R) (N : Nat) (y0 : Bool) (J : KF R) (σ : St) : runK Try.prog call N f4c62 f4a62 J (f4e6 y0) σ = J .ret (f4e6 y0) σ := runK_ret' (by kernel_rfl) (by kernel_rfl)
theorem f4n60 {R : Type} (call : CallF R) (N : Nat) (J : KF R) (e : Env) (σ : St) : runK Try.prog call N f4c60 f4a60 J e σ = J .normal e σ := runK_skip' (by kernel_rfl)
theorem f4z58_f4e23 (y0 : Int) (y1 : Option (Nat × Nat)) (y2 : Int) (y3 : Bool) : Ann.clr f4a58 (f4e23 y0 y1 y2 y3) = f4e19 y0 y1 y2 := hide (by kernel_rfl)
theorem f4z54_f4e19 (y0 : Int) (y1 : Option (Nat × Nat)) (y2 : Int) : Ann.clr f4a54 (f4e19 y0 y1 y2) = f4e19 y0 y1 y2 := hide (by kernel_rfl)
theorem f4z49_f4e19 (y0 : Int) (y1 : Option (Nat × Nat)) (y2 : Int) : Ann.clr f4a49 (f4e19 y0 y1 y2) = f4e19 y0 y1 y2 := hide (by kernel_rfl)
theorem f4r55_f4e19 {R : Type} (call : CallF R) (N : Nat) (y0 : Int) (y1 : Option (Nat × Nat)) (y2 : Int) (J : KF R) (σ : St) :
    runK Try.prog call N f4c55 f4a55 J (f4e19 y0 y1 y2) σ =
J Ex.normal (f4e25 y0 y1 (IntKind.wrap IntKind.i64 (y2 + (1 : Int))) y2 (IntKind.wrap IntKind.i64 (y2 + (1 : Int)))) σ := hide (by kernel_rfl)
theorem f4z46_f4e25 (y0 : Int) (y1 : Option (Nat × Nat)) (y2 : Int) (y3 : Int) (y4 : Int) : Ann.clr f4a46 (f4e25 y0 y1 y2 y3 y4) = f4e19 y0 y1 y2 := hide (by kernel_rfl)
theorem f4z45_f4e8 (y0 : Int) (y1 : Option (Nat × Nat)) : Ann.clr f4a45 (f4e8 y0 y1) = f4e8 y0 y1 := hide (by kernel_rfl)
theorem f4z22_f4e8 (y0 : Int) (y1 : Option (Nat × Nat)) : Ann.clr f4a22 (f4e8 y0 y1) = f4e8 y0 y1 := hide (by kernel_rfl)
theorem f4n43 {R : Type} (call : CallF R) (N : Nat) (J : KF R) (e : Env) (σ : St) : runK Try.prog call N f4c43 f4a43 J e σ = runK Try.prog call N f4c63 f4a63 (seqC (fun K e σ => runK Try.prog call N f4c64 f4a64 K e σ) f4a43 J) e σ := runK_seq' (by kernel_rfl) (by kernel_rfl) (by kernel_rfl)
theorem f4r63_f4e8 {R : Type} (call : CallF R) (N : Nat) (y0 : Int) (y1 : Option (Nat × Nat)) (J : KF R) (σ : St) :
    runK Try.prog call N f4c63 f4a63 J (f4e8 y0 y1) σ =
call (14 : Nat) [AV.ptr y1, AV.int IntKind.i64 (0 : Int)] σ fun v0 v1 =>
  Option.bind (AV.toInt IntKind.i64 v0) fun v2 =>
    if (v2 == (5 : Int)) = true then
      call (13 : Nat) [AV.ptr y1] v1 fun v3 v4 =>
        Option.bind (AV.toInt IntKind.i64 v3) fun v5 =>
          if (v5 == (4096 : Int)) = true then
            call (15 : Nat) [AV.ptr y1] v4 fun v6 v7 =>
              Option.bind (AV.toInt IntKind.i64 v6) fun v8 =>
                if (v8 == IntKind.wrap IntKind.i64 (y0 + (1 : Int))) = true then
                  call (9 : Nat) [] v7 fun v9 v10 =>
                    Option.bind (AV.toBool v9) fun v11 =>
                      J Ex.normal
                        (f4e26 y0 v11 y1 y1 v2 (v2 == (5 : Int)) true y1 v5 (v5 == (4096 : Int)) (v5 == (4096 : Int)) true y1 v8 y0
                          (IntKind.wrap IntKind.i64 (y0 + (1 : Int))) (v8 == IntKind.wrap IntKind.i64 (y0 + (1 : Int)))
                          (v8 == IntKind.wrap IntKind.i64 (y0 + (1 : Int))) true v11 v11)
                        v10
                else
                  J Ex.normal
                    (f4e27 y0 false y1 y1 v2 (v2 == (5 : Int)) true y1 v5 (v5 == (4096 : Int)) (v5 == (4096 : Int)) true y1 v8 y0
                      (IntKind.wrap IntKind.i64 (y0 + (1 : Int))) (v8 == IntKind.wrap IntKind.i64 (y0 + (1 : Int)))
                      (v8 == IntKind.wrap IntKind.i64 (y0 + (1 : Int))) false false)
                    v7
          else J Ex.normal (f4e28 y0 false y1 y1 v2 (v2 == (5 : Int)) true y1 v5 (v5 == (4096 : Int)) (v5 == (4096 : Int)) false false false false) v4
    else J Ex.normal (f4e29 y0 false y1 y1 v2 (v2 == (5 : Int)) false false false false false false) v1 := hide (by kernel_rfl)
theorem f4z43_f4e26 (y0 : Int) (y1 : Bool) (y2 : Option (Nat × Nat)) (y3 : Option (Nat × Nat)) (y4 : Int) (y5 : Bool) (y6 : Bool) (y7 : Option (Nat × Nat)) (y8 : Int) (y9 : Bool) (y10 : Bool) (y11 : Bool) (y12 : Option (Nat × Nat)) (y13 : Int) (y14 : Int) (y15 : Int) (y16 : Bool) (y17 : Bool) (y18 : Bool) (y19 : Bool) (y20 : Bool) : Ann.clr f4a43 (f4e26 y0 y1 y2 y3 y4 y5 y6 y7 y8 y9 y10 y11 y12 y13 y14 y15 y16 y17 y18 y19 y20) = f4e6 y1 := hide (by kernel_rfl)
theorem f4y64_f4e6 {R : Type} (call : CallF R) (N : Nat) (y0 : Bool) (J : KF R) (σ : St) : runK Try.prog call N f4c64 f4a64 J (f4e6 y0) σ = J .ret (f4e6 y0) σ := runK_ret' (by kernel_rfl) (by kernel_rfl)
theorem f4z43_f4e27 (y0 : Int) (y1 : Bool) (y2 : Option (Nat × Nat)) (y3 : Option (Nat × Nat)) (y4 : Int) (y5 : Bool) (y6 : Bool) (y7 : Option (Nat × Nat)) (y8 : Int) (y9 : Bool) (y10 : Bool) (y11 : Bool) (y12 : Option (Nat × Nat)) (y13 : Int) (y14 : Int) (y15 : Int) (y16 : Bool) (y17 : Bool) (y18 : Bool) (y19 : Bool) : Ann.clr f4a43 (f4e27 y0 y1 y2 y3 y4 y5 y6 y7 y8 y9 y10 y11 y12 y13 y14 y15 y16 y17 y18 y19) = f4e6 y1 := hide (by kernel_rfl)
theorem f4z43_f4e28 (y0 : Int) (y1 : Bool) (y2 : Option (Nat × Nat)) (y3 : Option (Nat × Nat)) (y4 : Int) (y5 : Bool) (y6 : Bool) (y7 : Option (Nat × Nat)) (y8 : Int) (y9 : Bool) (y10 : Bool) (y11 : Bool) (y12 : Bool) (y13 : Bool) (y14 : Bool) : Ann.clr f4a43 (f4e28 y0 y1 y2 y3 y4 y5 y6 y7 y8 y9 y10 y11 y12 y13 y14) = f4e6 y1 := hide (by kernel_rfl)
theorem f4z43_f4e29 (y0 : Int) (y1 : Bool) (y2 : Option (Nat × Nat)) (y3 : Option (Nat × Nat)) (y4 : Int) (y5 : Bool) (y6 : Bool) (y7 : Bool) (y8 : Bool) (y9 : Bool) (y10 : Bool) (y11 : Bool) : Ann.clr f4a43 (f4e29 y0 y1 y2 y3 y4 y5 y6 y7 y8 y9 y10 y11) = f4e6 y1 := hide (by kernel_rfl)
theorem f4b_f4e6_r {R : Type} (y0 : Bool) (σ : St) (K : AV → St → Option R) : bodyC Try.prog f4rs K (Ex.ret) (f4e6 y0) σ =
K (AV.bool y0) σ := hide (by kernel_rfl)
attribute [go_sem] f4_eq f4n0 f4r1_f4e0 f4z0_f4e1 f4n2 f4n3 f4r5_f4e0 f4z3_f4e2 f4x6_f4e4 f4n7 f4r9_f4e4 f4z7_f4e5 f4y10_f4e6 f4n8 f4z6_f4e4 f4z3_f4e3 f4z2_f4e0 f4n4 f4r11_f4e0 f4z4_f4e7 f4n12 f4n13 f4r15_f4e8 f4z13_f4e9 f4x16_f4e10 f4n17 f4r19_f4e10 f4z17_f4e11 f4y20_f4e6 f4n18 f4z16_f4e10 f4z12_f4e8 f4n14 f4n21 f4r23_f4e8 f4z21_f4e12 f4n24 f4L25_eq f4z25_f4e12 f4l25_f4e12 f4n26 f4n27 f4r29_f4e12 f4z27_f4e13 f4x30_f4e14 f4n31 f4z30_f4e14 f4y32_f4e14 f4z26_f4e12 f4n28 f4n33 f4n35 f4r36_f4e12 f4z35_f4e15 f4x37_f4e16 f4n38 f4r40_f4e16 f4z38_f4e17 f4y41_f4e6 f4n39 f4z37_f4e16 f4z33_f4e12 f4z28_f4e12 f4r34_f4e12 f4z25_f4e18 f4z24_f4e8 f4z14_f4e8 f4n22 f4n42 f4r44_f4e8 f4z42_f4e19 f4n45 f4L46_eq f4z46_f4e19 f4l46_f4e19 f4n47 f4n48 f4r50_f4e19 f4z48_f4e20 f4x51_f4e21 f4n52 f4z51_f4e21 f4y53_f4e21 f4z47_f4e19 f4n49 f4n54 f4n56 f4r57_f4e19 f4z56_f4e22 f4x58_f4e23 f4n59 f4r61_f4e23 f4z59_f4e24 f4y62_f4e6 f4n60 f4z58_f4e23 f4z54_f4e19 f4z49_f4e19 f4r55_f4e19 f4z46_f4e25 f4z45_f4e8 f4z22_f4e8 f4n43 f4r63_f4e8 f4z43_f4e26 f4y64_f4e6 f4z43_f4e27 f4z43_f4e28 f4z43_f4e29 f4b_f4e6_r

end Go.Proofs.Ytdebkakkeaanaaa
