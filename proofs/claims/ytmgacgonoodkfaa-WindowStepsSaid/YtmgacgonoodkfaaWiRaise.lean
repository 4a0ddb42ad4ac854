/- What the machine does with each piece of code, in plain text. PRINTED by a program of this workplace; Lean checks it. -/
import Derived.Test.YtmgacgonoodkfaaWiAnn
import Derived.Test.YtmgacgonoodkfaaProg
import Derived.KernelRfl
import Derived.Attr
namespace Go.Proofs.Ytmgacgonoodkfaa
open Go.AM
set_option maxRecDepth 100000
set_option linter.unusedVariables false
noncomputable def f14rs : List ResultVar := [ResultVar.tmp (4 : Nat), ResultVar.tmp (5 : Nat)]
noncomputable def f14c0 : Code := subCode [] (bodyOf Try.prog 14)
def f14a0 : Ann := subAnn [] ann14
noncomputable def f14c1 : Code := subCode [0] (bodyOf Try.prog 14)
def f14a1 : Ann := subAnn [0] ann14
noncomputable def f14c2 : Code := subCode [1] (bodyOf Try.prog 14)
def f14a2 : Ann := subAnn [1] ann14
noncomputable def f14c3 : Code := subCode [1, 0] (bodyOf Try.prog 14)
def f14a3 : Ann := subAnn [1, 0] ann14
noncomputable def f14c4 : Code := subCode [1, 1] (bodyOf Try.prog 14)
def f14a4 : Ann := subAnn [1, 1] ann14
noncomputable def f14c5 : Code := subCode [1, 0, 0] (bodyOf Try.prog 14)
def f14a5 : Ann := subAnn [1, 0, 0] ann14
noncomputable def f14c6 : Code := subCode [1, 0, 0, 0] (bodyOf Try.prog 14)
def f14a6 : Ann := subAnn [1, 0, 0, 0] ann14
noncomputable def f14c7 : Code := subCode [1, 0, 0, 1] (bodyOf Try.prog 14)
def f14a7 : Ann := subAnn [1, 0, 0, 1] ann14
noncomputable def f14c8 : Code := subCode [1, 0, 0, 1, 0] (bodyOf Try.prog 14)
def f14a8 : Ann := subAnn [1, 0, 0, 1, 0] ann14
noncomputable def f14c9 : Code := subCode [1, 0, 0, 1, 1] (bodyOf Try.prog 14)
def f14a9 : Ann := subAnn [1, 0, 0, 1, 1] ann14
noncomputable def f14c10 : Code := subCode [1, 0, 0, 1, 0, 0] (bodyOf Try.prog 14)
def f14a10 : Ann := subAnn [1, 0, 0, 1, 0, 0] ann14
noncomputable def f14c11 : Code := subCode [1, 0, 0, 1, 0, 1] (bodyOf Try.prog 14)
def f14a11 : Ann := subAnn [1, 0, 0, 1, 0, 1] ann14
noncomputable def f14c12 : Code := subCode [1, 0, 0, 1, 1, 0] (bodyOf Try.prog 14)
def f14a12 : Ann := subAnn [1, 0, 0, 1, 1, 0] ann14
noncomputable def f14c13 : Code := subCode [1, 0, 0, 1, 1, 1] (bodyOf Try.prog 14)
def f14a13 : Ann := subAnn [1, 0, 0, 1, 1, 1] ann14
noncomputable def f14c14 : Code := subCode [1, 0, 0, 1, 1, 1, 0] (bodyOf Try.prog 14)
def f14a14 : Ann := subAnn [1, 0, 0, 1, 1, 1, 0] ann14
noncomputable def f14c15 : Code := subCode [1, 0, 0, 1, 1, 1, 1] (bodyOf Try.prog 14)
def f14a15 : Ann := subAnn [1, 0, 0, 1, 1, 1, 1] ann14
noncomputable def f14c16 : Code := subCode [1, 0, 0, 1, 1, 1, 0, 0] (bodyOf Try.prog 14)
def f14a16 : Ann := subAnn [1, 0, 0, 1, 1, 1, 0, 0] ann14
noncomputable def f14c17 : Code := subCode [1, 0, 0, 1, 1, 1, 0, 1] (bodyOf Try.prog 14)
def f14a17 : Ann := subAnn [1, 0, 0, 1, 1, 1, 0, 1] ann14
noncomputable def f14c18 : Code := subCode [1, 0, 0, 1, 1, 1, 1, 0] (bodyOf Try.prog 14)
def f14a18 : Ann := subAnn [1, 0, 0, 1, 1, 1, 1, 0] ann14
noncomputable def f14c19 : Code := subCode [1, 0, 0, 1, 1, 1, 1, 1] (bodyOf Try.prog 14)
def f14a19 : Ann := subAnn [1, 0, 0, 1, 1, 1, 1, 1] ann14
noncomputable def f14c20 : Code := subCode [1, 0, 0, 1, 1, 1, 1, 1, 0] (bodyOf Try.prog 14)
def f14a20 : Ann := subAnn [1, 0, 0, 1, 1, 1, 1, 1, 0] ann14
noncomputable def f14c21 : Code := subCode [1, 0, 0, 1, 1, 1, 1, 1, 1] (bodyOf Try.prog 14)
def f14a21 : Ann := subAnn [1, 0, 0, 1, 1, 1, 1, 1, 1] ann14
noncomputable def f14c22 : Code := subCode [1, 0, 0, 1, 1, 1, 1, 1, 0, 0] (bodyOf Try.prog 14)
def f14a22 : Ann := subAnn [1, 0, 0, 1, 1, 1, 1, 1, 0, 0] ann14
noncomputable def f14c23 : Code := subCode [1, 0, 0, 1, 1, 1, 1, 1, 0, 1] (bodyOf Try.prog 14)
def f14a23 : Ann := subAnn [1, 0, 0, 1, 1, 1, 1, 1, 0, 1] ann14
noncomputable def f14c24 : Code := subCode [1, 1, 0] (bodyOf Try.prog 14)
def f14a24 : Ann := subAnn [1, 1, 0] ann14
noncomputable def f14c25 : Code := subCode [1, 1, 1] (bodyOf Try.prog 14)
def f14a25 : Ann := subAnn [1, 1, 1] ann14
noncomputable def f14c26 : Code := subCode [1, 1, 1, 0] (bodyOf Try.prog 14)
def f14a26 : Ann := subAnn [1, 1, 1, 0] ann14
noncomputable def f14c27 : Code := subCode [1, 1, 1, 1] (bodyOf Try.prog 14)
def f14a27 : Ann := subAnn [1, 1, 1, 1] ann14
noncomputable def f14c28 : Code := subCode [1, 1, 1, 1, 0] (bodyOf Try.prog 14)
def f14a28 : Ann := subAnn [1, 1, 1, 1, 0] ann14
noncomputable def f14c29 : Code := subCode [1, 1, 1, 1, 1] (bodyOf Try.prog 14)
def f14a29 : Ann := subAnn [1, 1, 1, 1, 1] ann14
noncomputable def f14c30 : Code := subCode [1, 1, 1, 1, 0, 0] (bodyOf Try.prog 14)
def f14a30 : Ann := subAnn [1, 1, 1, 1, 0, 0] ann14
noncomputable def f14c31 : Code := subCode [1, 1, 1, 1, 0, 1] (bodyOf Try.prog 14)
def f14a31 : Ann := subAnn [1, 1, 1, 1, 0, 1] ann14
noncomputable def f14c32 : Code := subCode [1, 1, 1, 1, 0, 1, 0] (bodyOf Try.prog 14)
def f14a32 : Ann := subAnn [1, 1, 1, 1, 0, 1, 0] ann14
noncomputable def f14c33 : Code := subCode [1, 1, 1, 1, 0, 1, 0, 0] (bodyOf Try.prog 14)
def f14a33 : Ann := subAnn [1, 1, 1, 1, 0, 1, 0, 0] ann14
noncomputable def f14c34 : Code := subCode [1, 1, 1, 1, 0, 1, 0, 0, 0] (bodyOf Try.prog 14)
def f14a34 : Ann := subAnn [1, 1, 1, 1, 0, 1, 0, 0, 0] ann14
noncomputable def f14c35 : Code := subCode [1, 1, 1, 1, 0, 1, 0, 0, 1] (bodyOf Try.prog 14)
def f14a35 : Ann := subAnn [1, 1, 1, 1, 0, 1, 0, 0, 1] ann14
noncomputable def f14c36 : Code := subCode [1, 1, 1, 1, 0, 1, 0, 0, 1, 0] (bodyOf Try.prog 14)
def f14a36 : Ann := subAnn [1, 1, 1, 1, 0, 1, 0, 0, 1, 0] ann14
noncomputable def f14c37 : Code := subCode [1, 1, 1, 1, 0, 1, 0, 0, 1, 1] (bodyOf Try.prog 14)
def f14a37 : Ann := subAnn [1, 1, 1, 1, 0, 1, 0, 0, 1, 1] ann14
noncomputable def f14c38 : Code := subCode [1, 1, 1, 1, 0, 1, 0, 0, 1, 0, 0] (bodyOf Try.prog 14)
def f14a38 : Ann := subAnn [1, 1, 1, 1, 0, 1, 0, 0, 1, 0, 0] ann14
noncomputable def f14c39 : Code := subCode [1, 1, 1, 1, 0, 1, 0, 0, 1, 0, 1] (bodyOf Try.prog 14)
def f14a39 : Ann := subAnn [1, 1, 1, 1, 0, 1, 0, 0, 1, 0, 1] ann14
noncomputable def f14c40 : Code := subCode [1, 1, 1, 1, 0, 1, 0, 0, 1, 1, 0] (bodyOf Try.prog 14)
def f14a40 : Ann := subAnn [1, 1, 1, 1, 0, 1, 0, 0, 1, 1, 0] ann14
noncomputable def f14c41 : Code := subCode [1, 1, 1, 1, 0, 1, 0, 0, 1, 1, 0, 0] (bodyOf Try.prog 14)
def f14a41 : Ann := subAnn [1, 1, 1, 1, 0, 1, 0, 0, 1, 1, 0, 0] ann14
noncomputable def f14c42 : Code := subCode [1, 1, 1, 1, 0, 1, 0, 0, 1, 1, 0, 1] (bodyOf Try.prog 14)
def f14a42 : Ann := subAnn [1, 1, 1, 1, 0, 1, 0, 0, 1, 1, 0, 1] ann14
noncomputable def f14c43 : Code := subCode [1, 1, 1, 1, 0, 1, 0, 0, 1, 1, 0, 1, 0] (bodyOf Try.prog 14)
def f14a43 : Ann := subAnn [1, 1, 1, 1, 0, 1, 0, 0, 1, 1, 0, 1, 0] ann14
noncomputable def f14c44 : Code := subCode [1, 1, 1, 1, 0, 1, 0, 0, 1, 1, 0, 1, 1] (bodyOf Try.prog 14)
def f14a44 : Ann := subAnn [1, 1, 1, 1, 0, 1, 0, 0, 1, 1, 0, 1, 1] ann14
noncomputable def f14c45 : Code := subCode [1, 1, 1, 1, 0, 1, 0, 0, 1, 1, 0, 1, 1, 0] (bodyOf Try.prog 14)
def f14a45 : Ann := subAnn [1, 1, 1, 1, 0, 1, 0, 0, 1, 1, 0, 1, 1, 0] ann14
noncomputable def f14c46 : Code := subCode [1, 1, 1, 1, 0, 1, 0, 0, 1, 1, 0, 1, 1, 1] (bodyOf Try.prog 14)
def f14a46 : Ann := subAnn [1, 1, 1, 1, 0, 1, 0, 0, 1, 1, 0, 1, 1, 1] ann14
noncomputable def f14c47 : Code := subCode [1, 1, 1, 1, 1, 0] (bodyOf Try.prog 14)
def f14a47 : Ann := subAnn [1, 1, 1, 1, 1, 0] ann14
noncomputable def f14c48 : Code := subCode [1, 1, 1, 1, 1, 1] (bodyOf Try.prog 14)
def f14a48 : Ann := subAnn [1, 1, 1, 1, 1, 1] ann14
noncomputable def f14L32 {R : Type} (call : Bool → CallF R) (dem : Bool) (N : Nat) : KF R → Env → St → Option R := fun K e σ => runK Try.prog call dem N f14c33 f14a33 K e σ
def f14e0 (y0 : Option (Nat × Nat)) (y1 : Int) : Env := AV.ptr y0 :: AV.int IntKind.i64 y1 :: Env.sp 49 []
def f14e1 (y0 : Option (Nat × Nat)) (y1 : Int) (y2 : Nat) (y3 : Bool) (y4 : Int) : Env := AV.ptr y0 :: AV.int IntKind.i64 y1 :: Env.sp 1 (AV.ptr (some (y2, (0 : Nat))) :: AV.bool y3 :: AV.int IntKind.i64 y4 :: Env.sp 45 [])
def f14e2 (y0 : Option (Nat × Nat)) (y1 : Nat) : Env := AV.ptr y0 :: Env.sp 2 (AV.ptr (some (y1, (0 : Nat))) :: Env.sp 47 [])
def f14e3 (y0 : Option (Nat × Nat)) (y1 : Nat) (y2 : Bool) (y3 : Int) (y4 : Bool) (y5 : Bool) (y6 : Bool) : Env := AV.ptr y0 :: Env.sp 2 (AV.ptr (some (y1, (0 : Nat))) :: Env.sp 3 (AV.bool y2 :: AV.int IntKind.i64 y3 :: AV.bool y4 :: AV.bool y5 :: AV.tuple [] :: AV.tuple [] :: AV.bool y6 :: Env.sp 37 []))
def f14e4 (y0 : Option (Nat × Nat)) (y1 : Nat) (y2 : Bool) (y3 : Int) (y4 : Bool) (y5 : Bool) (y6 : Int) (y7 : Bool) (y8 : Bool) : Env := AV.ptr y0 :: Env.sp 2 (AV.ptr (some (y1, (0 : Nat))) :: Env.sp 3 (AV.bool y2 :: AV.int IntKind.i64 y3 :: AV.bool y4 :: AV.bool y5 :: AV.int IntKind.i64 y6 :: AV.bool y7 :: AV.bool y8 :: Env.sp 37 []))
def f14e5 (y0 : Option (Nat × Nat)) (y1 : Nat) (y2 : Bool) : Env := AV.ptr y0 :: Env.sp 2 (AV.ptr (some (y1, (0 : Nat))) :: Env.sp 3 (AV.bool y2 :: Env.sp 43 []))
def f14e6 (y0 : Option (Nat × Nat)) (y1 : Nat) (y2 : Bool) (y3 : Int) (y4 : Bool) : Env := AV.ptr y0 :: Env.sp 2 (AV.ptr (some (y1, (0 : Nat))) :: AV.bool y2 :: AV.int IntKind.i64 y3 :: Env.sp 1 (AV.bool y4 :: Env.sp 43 []))
def f14e7 (y0 : Bool) (y1 : Int) : Env := Env.sp 4 (AV.bool y0 :: AV.int IntKind.i64 y1 :: Env.sp 45 [])
def f14e8 (y0 : Option (Nat × Nat)) (y1 : Nat) (y2 : Bool) (y3 : Bool) (y4 : Option (Nat × Nat)) (y5 : Bool) : Env := AV.ptr y0 :: Env.sp 2 (AV.ptr (some (y1, (0 : Nat))) :: Env.sp 3 (AV.bool y2 :: Env.sp 6 (AV.bool y3 :: AV.ptr y4 :: AV.bool y5 :: Env.sp 34 [])))
def f14e9 (y0 : Option (Nat × Nat)) (y1 : Nat) (y2 : Bool) : Env := AV.ptr y0 :: Env.sp 2 (AV.ptr (some (y1, (0 : Nat))) :: Env.sp 10 (AV.bool y2 :: Env.sp 36 []))
def f14e10 (y0 : Option (Nat × Nat)) (y1 : Nat) (y2 : Bool) (y3 : Int) (y4 : Bool) : Env := AV.ptr y0 :: Env.sp 2 (AV.ptr (some (y1, (0 : Nat))) :: AV.bool y2 :: AV.int IntKind.i64 y3 :: Env.sp 8 (AV.bool y4 :: Env.sp 36 []))
def f14e11 (y0 : Option (Nat × Nat)) (y1 : Nat) (y2 : Bool) (y3 : Bool) (y4 : Int) (y5 : Option (Nat × Nat)) (y6 : Option (Nat × Nat)) (y7 : Option (Nat × Nat)) (y8 : Int) (y9 : Bool) : Env := AV.ptr y0 :: Env.sp 2 (AV.ptr (some (y1, (0 : Nat))) :: Env.sp 10 (AV.bool y2 :: Env.sp 2 (AV.bool y3 :: AV.int IntKind.i64 y4 :: AV.ptr y5 :: AV.ptr y6 :: AV.ptr y7 :: AV.int IntKind.i64 y8 :: AV.bool y9 :: Env.sp 27 [])))
def f14e12 (y0 : Option (Nat × Nat)) (y1 : Nat) (y2 : Bool) : Env := AV.ptr y0 :: Env.sp 2 (AV.ptr (some (y1, (0 : Nat))) :: Env.sp 13 (AV.bool y2 :: Env.sp 33 []))
def f14e13 (y0 : Option (Nat × Nat)) (y1 : Nat) (y2 : Bool) (y3 : Int) (y4 : Bool) : Env := AV.ptr y0 :: Env.sp 2 (AV.ptr (some (y1, (0 : Nat))) :: AV.bool y2 :: AV.int IntKind.i64 y3 :: Env.sp 11 (AV.bool y4 :: Env.sp 33 []))
def f14e14 (y0 : Option (Nat × Nat)) (y1 : Nat) (y2 : Option (Nat × Nat)) (y3 : Int) (y4 : Option (Nat × Nat)) (y5 : Option (Nat × Nat)) : Env := AV.ptr y0 :: Env.sp 2 (AV.ptr (some (y1, (0 : Nat))) :: Env.sp 20 (AV.ptr y2 :: AV.int IntKind.i64 y3 :: AV.ptr y4 :: AV.ptr y5 :: Env.sp 23 []))
def f14e15 (y0 : Option (Nat × Nat)) (y1 : Nat) (y2 : Option (Nat × Nat)) (y3 : Option (Nat × Nat)) (y4 : Option (Nat × Nat)) (y5 : Option Nat) (y6 : Nat) (y7 : Nat) : Env := AV.ptr y0 :: Env.sp 2 (AV.ptr (some (y1, (0 : Nat))) :: Env.sp 24 (AV.ptr y2 :: AV.ptr y3 :: AV.ptr y4 :: AV.map y5 :: AV.func (Fn.func y6) [] [AV.ptr (some (y7, (0 : Nat)))] :: AV.tuple [] :: Env.sp 17 []))
def f14e16 (y0 : Option (Nat × Nat)) (y1 : Nat) (y2 : Option (Nat × Nat)) (y3 : Option (Nat × Nat)) (y4 : Option (Nat × Nat)) (y5 : Option Nat) (y6 : Nat) : Env := AV.ptr y0 :: Env.sp 2 (AV.ptr (some (y1, (0 : Nat))) :: Env.sp 30 (AV.ptr y2 :: AV.ptr y3 :: AV.ptr y4 :: AV.map y5 :: AV.ptr (some (y6, (0 : Nat))) :: Env.sp 12 []))
def f14e17 (y0 : Option (Nat × Nat)) (y1 : Nat) (y2 : Nat) : Env := AV.ptr y0 :: Env.sp 2 (AV.ptr (some (y1, (0 : Nat))) :: Env.sp 34 (AV.ptr (some (y2, (0 : Nat))) :: Env.sp 12 []))
def f14e18 (y0 : Option (Nat × Nat)) (y1 : Nat) (y2 : Nat) (y3 : Bool) (y4 : Bool) : Env := AV.ptr y0 :: Env.sp 2 (AV.ptr (some (y1, (0 : Nat))) :: Env.sp 34 (AV.ptr (some (y2, (0 : Nat))) :: AV.tuple [AV.bool y3] :: AV.bool y4 :: Env.sp 10 []))
def f14e19 (y0 : Option (Nat × Nat)) (y1 : Nat) (y2 : Nat) (y3 : Bool) (y4 : AV) (y5 : AV) (y6 : Bool) : Env := AV.ptr y0 :: Env.sp 2 (AV.ptr (some (y1, (0 : Nat))) :: Env.sp 34 (AV.ptr (some (y2, (0 : Nat))) :: AV.tuple [AV.bool y3, y4, y5] :: AV.bool y6 :: Env.sp 10 []))
def f14e20 (y0 : Option (Nat × Nat)) (y1 : Nat) (y2 : Nat) (y3 : Bool) : Env := AV.ptr y0 :: Env.sp 2 (AV.ptr (some (y1, (0 : Nat))) :: Env.sp 34 (AV.ptr (some (y2, (0 : Nat))) :: Env.sp 1 (AV.bool y3 :: Env.sp 10 [])))
def f14e21 : Env := Env.sp 51 []
def f14e22 (y0 : Option (Nat × Nat)) (y1 : Nat) (y2 : Int) (y3 : Nat) (y4 : AV) (y5 : AV) (y6 : Int) : Env := AV.ptr y0 :: Env.sp 2 (AV.ptr (some (y1, (0 : Nat))) :: Env.sp 2 (AV.int IntKind.i64 y2 :: Env.sp 31 (AV.ptr (some (y3, (0 : Nat))) :: Env.sp 2 (AV.tuple [y4, y5] :: AV.int IntKind.i64 y6 :: Env.sp 8 []))))
def f14e23 (y0 : Option (Nat × Nat)) (y1 : Nat) (y2 : Int) (y3 : Nat) : Env := AV.ptr y0 :: Env.sp 2 (AV.ptr (some (y1, (0 : Nat))) :: Env.sp 2 (AV.int IntKind.i64 y2 :: Env.sp 31 (AV.ptr (some (y3, (0 : Nat))) :: Env.sp 12 [])))
def f14e24 (y0 : Option (Nat × Nat)) (y1 : Nat) (y2 : Int) (y3 : Nat) (y4 : Int) (y5 : Int) (y6 : Bool) : Env := AV.ptr y0 :: Env.sp 2 (AV.ptr (some (y1, (0 : Nat))) :: Env.sp 2 (AV.int IntKind.i64 y2 :: Env.sp 31 (AV.ptr (some (y3, (0 : Nat))) :: Env.sp 4 (AV.int IntKind.i64 y4 :: AV.int IntKind.i64 y5 :: AV.bool y6 :: Env.sp 5 []))))
def f14e25 (y0 : Option (Nat × Nat)) (y1 : Nat) (y2 : Int) (y3 : Nat) (y4 : Bool) : Env := AV.ptr y0 :: Env.sp 2 (AV.ptr (some (y1, (0 : Nat))) :: Env.sp 2 (AV.int IntKind.i64 y2 :: Env.sp 31 (AV.ptr (some (y3, (0 : Nat))) :: Env.sp 6 (AV.bool y4 :: Env.sp 5 []))))
def f14e26 (y0 : Option (Nat × Nat)) (y1 : Nat) (y2 : Int) (y3 : Nat) (y4 : Bool) (y5 : Option (Nat × Nat)) (y6 : Option (Nat × Nat)) (y7 : Option (Nat × Nat)) (y8 : Option Nat) (y9 : Int) : Env := AV.ptr y0 :: Env.sp 2 (AV.ptr (some (y1, (0 : Nat))) :: Env.sp 2 (AV.int IntKind.i64 y2 :: Env.sp 31 (AV.ptr (some (y3, (0 : Nat))) :: Env.sp 6 (AV.bool y4 :: AV.ptr y5 :: AV.ptr y6 :: AV.ptr y7 :: AV.map y8 :: AV.int IntKind.i64 y9 :: []))))

/- function 14 -/
theorem f14_eq {R : Type} (call : Bool → CallF R) (dem : Bool) (N : Nat) (y0 : Option (Nat × Nat)) (y1 : Int) (σ : St) (K : AV → St → Option R) :
    bodyK Try.prog call dem N ann 14 [AV.ptr y0, AV.int IntKind.i64 y1] σ K = runK Try.prog call dem N f14c0 f14a0 (bodyC Try.prog f14rs K) (f14e0 y0 y1) σ := bodyK_of (fn := ((Try.prog.funcs[14]?).get rfl)) (by kernel_rfl) (by kernel_rfl) (by kernel_rfl) (by kernel_rfl) (by kernel_rfl) (by kernel_rfl)
theorem f14n0 {R : Type} (call : Bool → CallF R) (dem : Bool) (N : Nat) (J : KF R) (e : Env) (σ : St) : runK Try.prog call dem N f14c0 f14a0 J e σ = runK Try.prog call dem N f14c1 f14a1 (seqC (fun K e σ => runK Try.prog call dem N f14c2 f14a2 K e σ) f14a0 J) e σ := runK_seq' (by kernel_rfl) (by kernel_rfl) (by kernel_rfl)
theorem f14r1_f14e0 {R : Type} (call : Bool → CallF R) (dem : Bool) (N : Nat) (y0 : Option (Nat × Nat)) (y1 : Int) (J : KF R) (σ : St) :
    runK Try.prog call dem N f14c1 f14a1 J (f14e0 y0 y1) σ =
J Ex.normal (f14e1 y0 y1 (St.next σ) false (0 : Int)) (St.new σ (Blk.cells [AV.int IntKind.i64 y1] true)) := hide (by kernel_rfl)
theorem f14z0_f14e1 (y0 : Option (Nat × Nat)) (y1 : Int) (y2 : Nat) (y3 : Bool) (y4 : Int) : Ann.clr f14a0 (f14e1 y0 y1 y2 y3 y4) = f14e2 y0 y2 := hide (by kernel_rfl)
theorem f14n2 {R : Type} (call : Bool → CallF R) (dem : Bool) (N : Nat) (J : KF R) (e : Env) (σ : St) : runK Try.prog call dem N f14c2 f14a2 J e σ = runK Try.prog call dem N f14c3 f14a3 (seqC (fun K e σ => runK Try.prog call dem N f14c4 f14a4 K e σ) f14a2 J) e σ := runK_seq' (by kernel_rfl) (by kernel_rfl) (by kernel_rfl)
theorem f14n3 {R : Type} (call : Bool → CallF R) (dem : Bool) (N : Nat) (J : KF R) (e : Env) (σ : St) : runK Try.prog call dem N f14c3 f14a3 J e σ = runK Try.prog call dem N f14c5 f14a5 (blockC 0 f14a3 J) e σ := runK_block' (by kernel_rfl) (by kernel_rfl)
theorem f14n5 {R : Type} (call : Bool → CallF R) (dem : Bool) (N : Nat) (J : KF R) (e : Env) (σ : St) : runK Try.prog call dem N f14c5 f14a5 J e σ = runK Try.prog call dem N f14c6 f14a6 (seqC (fun K e σ => runK Try.prog call dem N f14c7 f14a7 K e σ) f14a5 J) e σ := runK_seq' (by kernel_rfl) (by kernel_rfl) (by kernel_rfl)
theorem f14r6_f14e2 {R : Type} (call : Bool → CallF R) (dem : Bool) (N : Nat) (y0 : Option (Nat × Nat)) (y1 : Nat) (J : KF R) (σ : St) :
    runK Try.prog call dem N f14c6 f14a6 J (f14e2 y0 y1) σ =
Option.bind (St.ld σ y1 (0 : Nat)) fun v0 =>
  Option.bind (AV.toInt IntKind.i64 v0) fun v1 =>
    if decide (v1 < (0 : Int)) = true then J Ex.normal (f14e3 y0 y1 true v1 (decide (v1 < (0 : Int))) true true) σ
    else
      Option.bind (St.ld σ y1 (0 : Nat)) fun v2 =>
        Option.bind (AV.toInt IntKind.i64 v2) fun v3 =>
          J Ex.normal
            (f14e4 y0 y1 (decide (v3 > (1099511627768 : Int))) v1 (decide (v1 < (0 : Int))) false v3 (decide (v3 > (1099511627768 : Int)))
              (decide (v3 > (1099511627768 : Int))))
            σ := hide (by kernel_rfl)
theorem f14z5_f14e3 (y0 : Option (Nat × Nat)) (y1 : Nat) (y2 : Bool) (y3 : Int) (y4 : Bool) (y5 : Bool) (y6 : Bool) : Ann.clr f14a5 (f14e3 y0 y1 y2 y3 y4 y5 y6) = f14e5 y0 y1 y2 := hide (by kernel_rfl)
theorem f14x7_f14e5 {R : Type} (call : Bool → CallF R) (dem : Bool) (N : Nat) (y0 : Option (Nat × Nat)) (y1 : Nat) (y2 : Bool) (J : KF R) (σ : St) : runK Try.prog call dem N f14c7 f14a7 J (f14e5 y0 y1 y2) σ = if y2 = true then runK Try.prog call dem N f14c8 f14a8 (condC f14a7 J) (f14e5 y0 y1 y2) σ else runK Try.prog call dem N f14c9 f14a9 (condC f14a7 J) (f14e5 y0 y1 y2) σ := runK_cond' (o := Operand.tmp (7 : Nat)) (by kernel_rfl) (by kernel_rfl) (by kernel_rfl) (by kernel_rfl)
theorem f14n8 {R : Type} (call : Bool → CallF R) (dem : Bool) (N : Nat) (J : KF R) (e : Env) (σ : St) : runK Try.prog call dem N f14c8 f14a8 J e σ = runK Try.prog call dem N f14c10 f14a10 (seqC (fun K e σ => runK Try.prog call dem N f14c11 f14a11 K e σ) f14a8 J) e σ := runK_seq' (by kernel_rfl) (by kernel_rfl) (by kernel_rfl)
theorem f14r10_f14e5 {R : Type} (call : Bool → CallF R) (dem : Bool) (N : Nat) (y0 : Option (Nat × Nat)) (y1 : Nat) (y2 : Bool) (J : KF R) (σ : St) :
    runK Try.prog call dem N f14c10 f14a10 J (f14e5 y0 y1 y2) σ =
J Ex.normal (f14e6 y0 y1 false (1 : Int) y2) σ := hide (by kernel_rfl)
theorem f14z8_f14e6 (y0 : Option (Nat × Nat)) (y1 : Nat) (y2 : Bool) (y3 : Int) (y4 : Bool) : Ann.clr f14a8 (f14e6 y0 y1 y2 y3 y4) = f14e7 y2 y3 := hide (by kernel_rfl)
theorem f14y11_f14e7 {R : Type} (call : Bool → CallF R) (dem : Bool) (N : Nat) (y0 : Bool) (y1 : Int) (J : KF R) (σ : St) : runK Try.prog call dem N f14c11 f14a11 J (f14e7 y0 y1) σ = J .ret (f14e7 y0 y1) σ := runK_ret' (by kernel_rfl) (by kernel_rfl)
theorem f14n9 {R : Type} (call : Bool → CallF R) (dem : Bool) (N : Nat) (J : KF R) (e : Env) (σ : St) : runK Try.prog call dem N f14c9 f14a9 J e σ = runK Try.prog call dem N f14c12 f14a12 (seqC (fun K e σ => runK Try.prog call dem N f14c13 f14a13 K e σ) f14a9 J) e σ := runK_seq' (by kernel_rfl) (by kernel_rfl) (by kernel_rfl)
theorem f14r12_f14e5 {R : Type} (call : Bool → CallF R) (dem : Bool) (N : Nat) (y0 : Option (Nat × Nat)) (y1 : Nat) (y2 : Bool) (J : KF R) (σ : St) :
    runK Try.prog call dem N f14c12 f14a12 J (f14e5 y0 y1 y2) σ =
J Ex.normal (f14e8 y0 y1 y2 (Option.isNone y0) y0 (Option.isNone y0)) σ := hide (by kernel_rfl)
theorem f14z9_f14e8 (y0 : Option (Nat × Nat)) (y1 : Nat) (y2 : Bool) (y3 : Bool) (y4 : Option (Nat × Nat)) (y5 : Bool) : Ann.clr f14a9 (f14e8 y0 y1 y2 y3 y4 y5) = f14e9 y0 y1 y3 := hide (by kernel_rfl)
theorem f14x13_f14e9 {R : Type} (call : Bool → CallF R) (dem : Bool) (N : Nat) (y0 : Option (Nat × Nat)) (y1 : Nat) (y2 : Bool) (J : KF R) (σ : St) : runK Try.prog call dem N f14c13 f14a13 J (f14e9 y0 y1 y2) σ = if y2 = true then runK Try.prog call dem N f14c14 f14a14 (condC f14a13 J) (f14e9 y0 y1 y2) σ else runK Try.prog call dem N f14c15 f14a15 (condC f14a13 J) (f14e9 y0 y1 y2) σ := runK_cond' (o := Operand.tmp (14 : Nat)) (by kernel_rfl) (by kernel_rfl) (by kernel_rfl) (by kernel_rfl)
theorem f14n14 {R : Type} (call : Bool → CallF R) (dem : Bool) (N : Nat) (J : KF R) (e : Env) (σ : St) : runK Try.prog call dem N f14c14 f14a14 J e σ = runK Try.prog call dem N f14c16 f14a16 (seqC (fun K e σ => runK Try.prog call dem N f14c17 f14a17 K e σ) f14a14 J) e σ := runK_seq' (by kernel_rfl) (by kernel_rfl) (by kernel_rfl)
theorem f14r16_f14e9 {R : Type} (call : Bool → CallF R) (dem : Bool) (N : Nat) (y0 : Option (Nat × Nat)) (y1 : Nat) (y2 : Bool) (J : KF R) (σ : St) :
    runK Try.prog call dem N f14c16 f14a16 J (f14e9 y0 y1 y2) σ =
J Ex.normal (f14e10 y0 y1 false (7 : Int) y2) σ := hide (by kernel_rfl)
theorem f14z14_f14e10 (y0 : Option (Nat × Nat)) (y1 : Nat) (y2 : Bool) (y3 : Int) (y4 : Bool) : Ann.clr f14a14 (f14e10 y0 y1 y2 y3 y4) = f14e7 y2 y3 := hide (by kernel_rfl)
theorem f14y17_f14e7 {R : Type} (call : Bool → CallF R) (dem : Bool) (N : Nat) (y0 : Bool) (y1 : Int) (J : KF R) (σ : St) : runK Try.prog call dem N f14c17 f14a17 J (f14e7 y0 y1) σ = J .ret (f14e7 y0 y1) σ := runK_ret' (by kernel_rfl) (by kernel_rfl)
theorem f14n15 {R : Type} (call : Bool → CallF R) (dem : Bool) (N : Nat) (J : KF R) (e : Env) (σ : St) : runK Try.prog call dem N f14c15 f14a15 J e σ = runK Try.prog call dem N f14c18 f14a18 (seqC (fun K e σ => runK Try.prog call dem N f14c19 f14a19 K e σ) f14a15 J) e σ := runK_seq' (by kernel_rfl) (by kernel_rfl) (by kernel_rfl)
theorem f14r18_f14e9 {R : Type} (call : Bool → CallF R) (dem : Bool) (N : Nat) (y0 : Option (Nat × Nat)) (y1 : Nat) (y2 : Bool) (J : KF R) (σ : St) :
    runK Try.prog call dem N f14c18 f14a18 J (f14e9 y0 y1 y2) σ =
Option.bind (St.ld σ y1 (0 : Nat)) fun v0 =>
  Option.bind (AV.toInt IntKind.i64 v0) fun v1 =>
    Option.bind y0 fun v2 =>
      Option.bind (St.ld σ (Prod.fst v2) (Prod.snd v2 + (2 : Nat))) fun v3 =>
        Option.bind (AV.toInt IntKind.i64 v3) fun v4 =>
          J Ex.normal (f14e11 y0 y1 y2 (decide (v1 ≤ v4)) v1 y0 (some v2) (some (Prod.fst v2, Prod.snd v2 + (2 : Nat))) v4 (decide (v1 ≤ v4))) σ := hide (by kernel_rfl)
theorem f14z15_f14e11 (y0 : Option (Nat × Nat)) (y1 : Nat) (y2 : Bool) (y3 : Bool) (y4 : Int) (y5 : Option (Nat × Nat)) (y6 : Option (Nat × Nat)) (y7 : Option (Nat × Nat)) (y8 : Int) (y9 : Bool) : Ann.clr f14a15 (f14e11 y0 y1 y2 y3 y4 y5 y6 y7 y8 y9) = f14e12 y0 y1 y3 := hide (by kernel_rfl)
theorem f14x19_f14e12 {R : Type} (call : Bool → CallF R) (dem : Bool) (N : Nat) (y0 : Option (Nat × Nat)) (y1 : Nat) (y2 : Bool) (J : KF R) (σ : St) : runK Try.prog call dem N f14c19 f14a19 J (f14e12 y0 y1 y2) σ = if y2 = true then runK Try.prog call dem N f14c20 f14a20 (condC f14a19 J) (f14e12 y0 y1 y2) σ else runK Try.prog call dem N f14c21 f14a21 (condC f14a19 J) (f14e12 y0 y1 y2) σ := runK_cond' (o := Operand.tmp (17 : Nat)) (by kernel_rfl) (by kernel_rfl) (by kernel_rfl) (by kernel_rfl)
theorem f14n20 {R : Type} (call : Bool → CallF R) (dem : Bool) (N : Nat) (J : KF R) (e : Env) (σ : St) : runK Try.prog call dem N f14c20 f14a20 J e σ = runK Try.prog call dem N f14c22 f14a22 (seqC (fun K e σ => runK Try.prog call dem N f14c23 f14a23 K e σ) f14a20 J) e σ := runK_seq' (by kernel_rfl) (by kernel_rfl) (by kernel_rfl)
theorem f14r22_f14e12 {R : Type} (call : Bool → CallF R) (dem : Bool) (N : Nat) (y0 : Option (Nat × Nat)) (y1 : Nat) (y2 : Bool) (J : KF R) (σ : St) :
    runK Try.prog call dem N f14c22 f14a22 J (f14e12 y0 y1 y2) σ =
J Ex.normal (f14e13 y0 y1 false (0 : Int) y2) σ := hide (by kernel_rfl)
theorem f14z20_f14e13 (y0 : Option (Nat × Nat)) (y1 : Nat) (y2 : Bool) (y3 : Int) (y4 : Bool) : Ann.clr f14a20 (f14e13 y0 y1 y2 y3 y4) = f14e7 y2 y3 := hide (by kernel_rfl)
theorem f14y23_f14e7 {R : Type} (call : Bool → CallF R) (dem : Bool) (N : Nat) (y0 : Bool) (y1 : Int) (J : KF R) (σ : St) : runK Try.prog call dem N f14c23 f14a23 J (f14e7 y0 y1) σ = J .ret (f14e7 y0 y1) σ := runK_ret' (by kernel_rfl) (by kernel_rfl)
theorem f14n21 {R : Type} (call : Bool → CallF R) (dem : Bool) (N : Nat) (J : KF R) (e : Env) (σ : St) : runK Try.prog call dem N f14c21 f14a21 J e σ = J .normal e σ := runK_skip' (by kernel_rfl)
theorem f14z19_f14e12 (y0 : Option (Nat × Nat)) (y1 : Nat) (y2 : Bool) : Ann.clr f14a19 (f14e12 y0 y1 y2) = f14e2 y0 y1 := hide (by kernel_rfl)
theorem f14z13_f14e2 (y0 : Option (Nat × Nat)) (y1 : Nat) : Ann.clr f14a13 (f14e2 y0 y1) = f14e2 y0 y1 := hide (by kernel_rfl)
theorem f14z7_f14e2 (y0 : Option (Nat × Nat)) (y1 : Nat) : Ann.clr f14a7 (f14e2 y0 y1) = f14e2 y0 y1 := hide (by kernel_rfl)
theorem f14z5_f14e4 (y0 : Option (Nat × Nat)) (y1 : Nat) (y2 : Bool) (y3 : Int) (y4 : Bool) (y5 : Bool) (y6 : Int) (y7 : Bool) (y8 : Bool) : Ann.clr f14a5 (f14e4 y0 y1 y2 y3 y4 y5 y6 y7 y8) = f14e5 y0 y1 y2 := hide (by kernel_rfl)
theorem f14z3_f14e2 (y0 : Option (Nat × Nat)) (y1 : Nat) : Ann.clr f14a3 (f14e2 y0 y1) = f14e2 y0 y1 := hide (by kernel_rfl)
theorem f14z2_f14e2 (y0 : Option (Nat × Nat)) (y1 : Nat) : Ann.clr f14a2 (f14e2 y0 y1) = f14e2 y0 y1 := hide (by kernel_rfl)
theorem f14n4 {R : Type} (call : Bool → CallF R) (dem : Bool) (N : Nat) (J : KF R) (e : Env) (σ : St) : runK Try.prog call dem N f14c4 f14a4 J e σ = runK Try.prog call dem N f14c24 f14a24 (seqC (fun K e σ => runK Try.prog call dem N f14c25 f14a25 K e σ) f14a4 J) e σ := runK_seq' (by kernel_rfl) (by kernel_rfl) (by kernel_rfl)
theorem f14r24_f14e2 {R : Type} (call : Bool → CallF R) (dem : Bool) (N : Nat) (y0 : Option (Nat × Nat)) (y1 : Nat) (J : KF R) (σ : St) :
    runK Try.prog call dem N f14c24 f14a24 J (f14e2 y0 y1) σ =
Option.bind (St.ld σ y1 (0 : Nat)) fun v0 =>
  Option.bind (AV.toInt IntKind.i64 v0) fun v1 =>
    Option.bind y0 fun v2 =>
      Option.bind (St.st σ (Prod.fst v2) (Prod.snd v2 + (2 : Nat)) [AV.int IntKind.i64 v1]) fun v3 =>
        J Ex.normal (f14e14 y0 y1 y0 v1 (some v2) (some (Prod.fst v2, Prod.snd v2 + (2 : Nat)))) v3 := hide (by kernel_rfl)
theorem f14z4_f14e14 (y0 : Option (Nat × Nat)) (y1 : Nat) (y2 : Option (Nat × Nat)) (y3 : Int) (y4 : Option (Nat × Nat)) (y5 : Option (Nat × Nat)) : Ann.clr f14a4 (f14e14 y0 y1 y2 y3 y4 y5) = f14e2 y0 y1 := hide (by kernel_rfl)
theorem f14n25 {R : Type} (call : Bool → CallF R) (dem : Bool) (N : Nat) (J : KF R) (e : Env) (σ : St) : runK Try.prog call dem N f14c25 f14a25 J e σ = runK Try.prog call dem N f14c26 f14a26 (seqC (fun K e σ => runK Try.prog call dem N f14c27 f14a27 K e σ) f14a25 J) e σ := runK_seq' (by kernel_rfl) (by kernel_rfl) (by kernel_rfl)
theorem f14r26_f14e2 {R : Type} (call : Bool → CallF R) (dem : Bool) (N : Nat) (y0 : Option (Nat × Nat)) (y1 : Nat) (J : KF R) (σ : St) :
    runK Try.prog call dem N f14c26 f14a26 J (f14e2 y0 y1) σ =
Option.bind y0 fun v0 =>
  Option.bind (St.ld σ (Prod.fst v0) (Prod.snd v0 + (3 : Nat))) fun v1 =>
    Option.bind (AV.toMap v1) fun v2 =>
      call dem (41 : Nat) [AV.map v2, AV.func (Fn.func (42 : Nat)) [] [AV.ptr (some (y1, (0 : Nat)))]] σ fun v3 v4 =>
        Option.bind (AV.toTuple v3) fun v5 =>
          if List.length v5 = (0 : Nat) then J Ex.normal (f14e15 y0 y1 y0 (some v0) (some (Prod.fst v0, Prod.snd v0 + (3 : Nat))) v2 (42 : Nat) y1) v4
          else none := hide (by kernel_rfl)
theorem f14z25_f14e15 (y0 : Option (Nat × Nat)) (y1 : Nat) (y2 : Option (Nat × Nat)) (y3 : Option (Nat × Nat)) (y4 : Option (Nat × Nat)) (y5 : Option Nat) (y6 : Nat) (y7 : Nat) : Ann.clr f14a25 (f14e15 y0 y1 y2 y3 y4 y5 y6 y7) = f14e2 y0 y1 := hide (by kernel_rfl)
theorem f14n27 {R : Type} (call : Bool → CallF R) (dem : Bool) (N : Nat) (J : KF R) (e : Env) (σ : St) : runK Try.prog call dem N f14c27 f14a27 J e σ = runK Try.prog call dem N f14c28 f14a28 (seqC (fun K e σ => runK Try.prog call dem N f14c29 f14a29 K e σ) f14a27 J) e σ := runK_seq' (by kernel_rfl) (by kernel_rfl) (by kernel_rfl)
theorem f14n28 {R : Type} (call : Bool → CallF R) (dem : Bool) (N : Nat) (J : KF R) (e : Env) (σ : St) : runK Try.prog call dem N f14c28 f14a28 J e σ = runK Try.prog call dem N f14c30 f14a30 (seqC (fun K e σ => runK Try.prog call dem N f14c31 f14a31 K e σ) f14a28 J) e σ := runK_seq' (by kernel_rfl) (by kernel_rfl) (by kernel_rfl)
theorem f14r30_f14e2 {R : Type} (call : Bool → CallF R) (dem : Bool) (N : Nat) (y0 : Option (Nat × Nat)) (y1 : Nat) (J : KF R) (σ : St) :
    runK Try.prog call dem N f14c30 f14a30 J (f14e2 y0 y1) σ =
Option.bind y0 fun v0 =>
  Option.bind (St.ld σ (Prod.fst v0) (Prod.snd v0 + (4 : Nat))) fun v1 =>
    Option.bind (AV.toMap v1) fun v2 =>
      match some (TypeDesc.map (3 : Nat) (121 : Nat)), AV.map v2 with
      | some (TypeDesc.map v3 v4), AV.map none =>
        J Ex.normal (f14e16 y0 y1 y0 (some v0) (some (Prod.fst v0, Prod.snd v0 + (4 : Nat))) v2 (St.next σ))
          (St.new σ (Blk.miter none (0 : Nat) [] (0 : Nat)))
      | some (TypeDesc.map v3 v4), AV.map (some v5) =>
        Option.bind (St.map σ v5) fun v6 =>
          J Ex.normal (f14e16 y0 y1 y0 (some v0) (some (Prod.fst v0, Prod.snd v0 + (4 : Nat))) v2 (St.next σ))
            (St.new σ (Blk.miter (some v5) (Prod.snd v6) [] (Prod.snd v6)))
      | v3, v4 => none := hide (by kernel_rfl)
theorem f14z28_f14e16 (y0 : Option (Nat × Nat)) (y1 : Nat) (y2 : Option (Nat × Nat)) (y3 : Option (Nat × Nat)) (y4 : Option (Nat × Nat)) (y5 : Option Nat) (y6 : Nat) : Ann.clr f14a28 (f14e16 y0 y1 y2 y3 y4 y5 y6) = f14e17 y0 y1 y6 := hide (by kernel_rfl)
theorem f14n31 {R : Type} (call : Bool → CallF R) (dem : Bool) (N : Nat) (J : KF R) (e : Env) (σ : St) : runK Try.prog call dem N f14c31 f14a31 J e σ = runK Try.prog call dem N f14c32 f14a32 (blockC 1 f14a31 J) e σ := runK_block' (by kernel_rfl) (by kernel_rfl)
theorem f14L32_eq {R : Type} (call : Bool → CallF R) (dem : Bool) (N : Nat) (J : KF R) (e : Env) (σ : St) : f14L32 call dem N J e σ = runK Try.prog call dem N f14c33 f14a33 J e σ := hide rfl
theorem f14z32_f14e17 (y0 : Option (Nat × Nat)) (y1 : Nat) (y2 : Nat) : Ann.clr f14a32 (f14e17 y0 y1 y2) = f14e17 y0 y1 y2 := hide (by kernel_rfl)
theorem f14l32_f14e17 {R : Type} (call : Bool → CallF R) (dem : Bool) (N : Nat) (y0 : Option (Nat × Nat)) (y1 : Nat) (y2 : Nat) (J : KF R) (σ : St) : runK Try.prog call dem N f14c32 f14a32 J (f14e17 y0 y1 y2) σ = loopK (f14L32 call dem N) f14a32 N J (f14e17 y0 y1 y2) σ := runK_loop' (by kernel_rfl) (by kernel_rfl) (by kernel_rfl)
theorem f14n33 {R : Type} (call : Bool → CallF R) (dem : Bool) (N : Nat) (J : KF R) (e : Env) (σ : St) : runK Try.prog call dem N f14c33 f14a33 J e σ = runK Try.prog call dem N f14c34 f14a34 (seqC (fun K e σ => runK Try.prog call dem N f14c35 f14a35 K e σ) f14a33 J) e σ := runK_seq' (by kernel_rfl) (by kernel_rfl) (by kernel_rfl)
theorem f14r34_f14e17 {R : Type} (call : Bool → CallF R) (dem : Bool) (N : Nat) (y0 : Option (Nat × Nat)) (y1 : Nat) (y2 : Nat) (J : KF R) (σ : St) :
    runK Try.prog call dem N f14c34 f14a34 J (f14e17 y0 y1 y2) σ =
nextK dem σ y2 (J Ex.normal (f14e18 y0 y1 y2 false false) σ) fun v0 v1 v2 => J Ex.normal (f14e19 y0 y1 y2 true v0 v1 true) v2 := hide (by kernel_rfl)
theorem f14z33_f14e18 (y0 : Option (Nat × Nat)) (y1 : Nat) (y2 : Nat) (y3 : Bool) (y4 : Bool) : Ann.clr f14a33 (f14e18 y0 y1 y2 y3 y4) = f14e20 y0 y1 y2 y4 := hide (by kernel_rfl)
theorem f14n35 {R : Type} (call : Bool → CallF R) (dem : Bool) (N : Nat) (J : KF R) (e : Env) (σ : St) : runK Try.prog call dem N f14c35 f14a35 J e σ = runK Try.prog call dem N f14c36 f14a36 (seqC (fun K e σ => runK Try.prog call dem N f14c37 f14a37 K e σ) f14a35 J) e σ := runK_seq' (by kernel_rfl) (by kernel_rfl) (by kernel_rfl)
theorem f14x36_f14e20 {R : Type} (call : Bool → CallF R) (dem : Bool) (N : Nat) (y0 : Option (Nat × Nat)) (y1 : Nat) (y2 : Nat) (y3 : Bool) (J : KF R) (σ : St) : runK Try.prog call dem N f14c36 f14a36 J (f14e20 y0 y1 y2 y3) σ = if y3 = true then runK Try.prog call dem N f14c38 f14a38 (condC f14a36 J) (f14e20 y0 y1 y2 y3) σ else runK Try.prog call dem N f14c39 f14a39 (condC f14a36 J) (f14e20 y0 y1 y2 y3) σ := runK_cond' (o := Operand.tmp (40 : Nat)) (by kernel_rfl) (by kernel_rfl) (by kernel_rfl) (by kernel_rfl)
theorem f14n38 {R : Type} (call : Bool → CallF R) (dem : Bool) (N : Nat) (J : KF R) (e : Env) (σ : St) : runK Try.prog call dem N f14c38 f14a38 J e σ = J .normal e σ := runK_skip' (by kernel_rfl)
theorem f14z36_f14e20 (y0 : Option (Nat × Nat)) (y1 : Nat) (y2 : Nat) (y3 : Bool) : Ann.clr f14a36 (f14e20 y0 y1 y2 y3) = f14e17 y0 y1 y2 := hide (by kernel_rfl)
theorem f14y39_f14e20 {R : Type} (call : Bool → CallF R) (dem : Bool) (N : Nat) (y0 : Option (Nat × Nat)) (y1 : Nat) (y2 : Nat) (y3 : Bool) (J : KF R) (σ : St) : runK Try.prog call dem N f14c39 f14a39 J (f14e20 y0 y1 y2 y3) σ = J (.exit 1) (f14e21) σ := runK_exit' (by kernel_rfl) (by kernel_rfl)
theorem f14z35_f14e17 (y0 : Option (Nat × Nat)) (y1 : Nat) (y2 : Nat) : Ann.clr f14a35 (f14e17 y0 y1 y2) = f14e17 y0 y1 y2 := hide (by kernel_rfl)
theorem f14n37 {R : Type} (call : Bool → CallF R) (dem : Bool) (N : Nat) (J : KF R) (e : Env) (σ : St) : runK Try.prog call dem N f14c37 f14a37 J e σ = runK Try.prog call dem N f14c40 f14a40 (blockC 2 f14a37 J) e σ := runK_block' (by kernel_rfl) (by kernel_rfl)
theorem f14n40 {R : Type} (call : Bool → CallF R) (dem : Bool) (N : Nat) (J : KF R) (e : Env) (σ : St) : runK Try.prog call dem N f14c40 f14a40 J e σ = runK Try.prog call dem N f14c41 f14a41 (seqC (fun K e σ => runK Try.prog call dem N f14c42 f14a42 K e σ) f14a40 J) e σ := runK_seq' (by kernel_rfl) (by kernel_rfl) (by kernel_rfl)
theorem f14r41_f14e17 {R : Type} (call : Bool → CallF R) (dem : Bool) (N : Nat) (y0 : Option (Nat × Nat)) (y1 : Nat) (y2 : Nat) (J : KF R) (σ : St) :
    runK Try.prog call dem N f14c41 f14a41 J (f14e17 y0 y1 y2) σ =
Option.bind (entryOf σ y2) fun v0 =>
  Option.bind (AV.toInt IntKind.i64 (Prod.fst v0)) fun v1 => J Ex.normal (f14e22 y0 y1 v1 y2 (Prod.fst v0) (Prod.snd v0) v1) σ := hide (by kernel_rfl)
theorem f14z40_f14e22 (y0 : Option (Nat × Nat)) (y1 : Nat) (y2 : Int) (y3 : Nat) (y4 : AV) (y5 : AV) (y6 : Int) : Ann.clr f14a40 (f14e22 y0 y1 y2 y3 y4 y5 y6) = f14e23 y0 y1 y2 y3 := hide (by kernel_rfl)
theorem f14n42 {R : Type} (call : Bool → CallF R) (dem : Bool) (N : Nat) (J : KF R) (e : Env) (σ : St) : runK Try.prog call dem N f14c42 f14a42 J e σ = runK Try.prog call dem N f14c43 f14a43 (seqC (fun K e σ => runK Try.prog call dem N f14c44 f14a44 K e σ) f14a42 J) e σ := runK_seq' (by kernel_rfl) (by kernel_rfl) (by kernel_rfl)
theorem f14r43_f14e23 {R : Type} (call : Bool → CallF R) (dem : Bool) (N : Nat) (y0 : Option (Nat × Nat)) (y1 : Nat) (y2 : Int) (y3 : Nat) (J : KF R) (σ : St) :
    runK Try.prog call dem N f14c43 f14a43 J (f14e23 y0 y1 y2 y3) σ =
Option.bind (St.ld σ y1 (0 : Nat)) fun v0 =>
  Option.bind (AV.toInt IntKind.i64 v0) fun v1 => J Ex.normal (f14e24 y0 y1 y2 y3 y2 v1 (decide (y2 ≤ v1))) σ := hide (by kernel_rfl)
theorem f14z42_f14e24 (y0 : Option (Nat × Nat)) (y1 : Nat) (y2 : Int) (y3 : Nat) (y4 : Int) (y5 : Int) (y6 : Bool) : Ann.clr f14a42 (f14e24 y0 y1 y2 y3 y4 y5 y6) = f14e25 y0 y1 y2 y3 y6 := hide (by kernel_rfl)
theorem f14x44_f14e25 {R : Type} (call : Bool → CallF R) (dem : Bool) (N : Nat) (y0 : Option (Nat × Nat)) (y1 : Nat) (y2 : Int) (y3 : Nat) (y4 : Bool) (J : KF R) (σ : St) : runK Try.prog call dem N f14c44 f14a44 J (f14e25 y0 y1 y2 y3 y4) σ = if y4 = true then runK Try.prog call dem N f14c45 f14a45 (condC f14a44 J) (f14e25 y0 y1 y2 y3 y4) σ else runK Try.prog call dem N f14c46 f14a46 (condC f14a44 J) (f14e25 y0 y1 y2 y3 y4) σ := runK_cond' (o := Operand.tmp (45 : Nat)) (by kernel_rfl) (by kernel_rfl) (by kernel_rfl) (by kernel_rfl)
theorem f14r45_f14e25 {R : Type} (call : Bool → CallF R) (dem : Bool) (N : Nat) (y0 : Option (Nat × Nat)) (y1 : Nat) (y2 : Int) (y3 : Nat) (y4 : Bool) (J : KF R) (σ : St) :
    runK Try.prog call dem N f14c45 f14a45 J (f14e25 y0 y1 y2 y3 y4) σ =
Option.bind y0 fun v0 =>
  Option.bind (St.ld σ (Prod.fst v0) (Prod.snd v0 + (4 : Nat))) fun v1 =>
    Option.bind (AV.toMap v1) fun v2 =>
      match v2 with
      | none => J Ex.normal (f14e26 y0 y1 y2 y3 y4 y0 (some v0) (some (Prod.fst v0, Prod.snd v0 + (4 : Nat))) v2 y2) σ
      | some v3 =>
        Option.bind (St.map σ v3) fun v4 =>
          Option.bind (mapDel false [Sh.int IntKind.i64] [AV.int IntKind.i64 y2] (Prod.fst v4)) fun v5 =>
            J Ex.normal (f14e26 y0 y1 y2 y3 y4 y0 (some v0) (some (Prod.fst v0, Prod.snd v0 + (4 : Nat))) v2 y2)
              (St.put σ v3 (Blk.map v5 (Prod.snd v4))) := hide (by kernel_rfl)
theorem f14z44_f14e26 (y0 : Option (Nat × Nat)) (y1 : Nat) (y2 : Int) (y3 : Nat) (y4 : Bool) (y5 : Option (Nat × Nat)) (y6 : Option (Nat × Nat)) (y7 : Option (Nat × Nat)) (y8 : Option Nat) (y9 : Int) : Ann.clr f14a44 (f14e26 y0 y1 y2 y3 y4 y5 y6 y7 y8 y9) = f14e17 y0 y1 y3 := hide (by kernel_rfl)
theorem f14n46 {R : Type} (call : Bool → CallF R) (dem : Bool) (N : Nat) (J : KF R) (e : Env) (σ : St) : runK Try.prog call dem N f14c46 f14a46 J e σ = J .normal e σ := runK_skip' (by kernel_rfl)
theorem f14z44_f14e25 (y0 : Option (Nat × Nat)) (y1 : Nat) (y2 : Int) (y3 : Nat) (y4 : Bool) : Ann.clr f14a44 (f14e25 y0 y1 y2 y3 y4) = f14e17 y0 y1 y3 := hide (by kernel_rfl)
theorem f14z37_f14e17 (y0 : Option (Nat × Nat)) (y1 : Nat) (y2 : Nat) : Ann.clr f14a37 (f14e17 y0 y1 y2) = f14e17 y0 y1 y2 := hide (by kernel_rfl)
theorem f14z33_f14e19 (y0 : Option (Nat × Nat)) (y1 : Nat) (y2 : Nat) (y3 : Bool) (y4 : AV) (y5 : AV) (y6 : Bool) : Ann.clr f14a33 (f14e19 y0 y1 y2 y3 y4 y5 y6) = f14e20 y0 y1 y2 y6 := hide (by kernel_rfl)
theorem f14z31_f14e21 : Ann.clr f14a31 (f14e21) = f14e21 := hide (by kernel_rfl)
theorem f14z27_f14e21 : Ann.clr f14a27 (f14e21) = f14e21 := hide (by kernel_rfl)
theorem f14n29 {R : Type} (call : Bool → CallF R) (dem : Bool) (N : Nat) (J : KF R) (e : Env) (σ : St) : runK Try.prog call dem N f14c29 f14a29 J e σ = runK Try.prog call dem N f14c47 f14a47 (seqC (fun K e σ => runK Try.prog call dem N f14c48 f14a48 K e σ) f14a29 J) e σ := runK_seq' (by kernel_rfl) (by kernel_rfl) (by kernel_rfl)
theorem f14r47_f14e21 {R : Type} (call : Bool → CallF R) (dem : Bool) (N : Nat) (J : KF R) (σ : St) :
    runK Try.prog call dem N f14c47 f14a47 J (f14e21) σ =
J Ex.normal (f14e7 true (0 : Int)) σ := hide (by kernel_rfl)
theorem f14z29_f14e7 (y0 : Bool) (y1 : Int) : Ann.clr f14a29 (f14e7 y0 y1) = f14e7 y0 y1 := hide (by kernel_rfl)
theorem f14y48_f14e7 {R : Type} (call : Bool → CallF R) (dem : Bool) (N : Nat) (y0 : Bool) (y1 : Int) (J : KF R) (σ : St) : runK Try.prog call dem N f14c48 f14a48 J (f14e7 y0 y1) σ = J .ret (f14e7 y0 y1) σ := runK_ret' (by kernel_rfl) (by kernel_rfl)
theorem f14b_f14e7_r {R : Type} (y0 : Bool) (y1 : Int) (σ : St) (K : AV → St → Option R) : bodyC Try.prog f14rs K (Ex.ret) (f14e7 y0 y1) σ =
K (AV.tuple [AV.bool y0, AV.int IntKind.i64 y1]) σ := hide (by kernel_rfl)
attribute [go_sem] f14_eq f14n0 f14r1_f14e0 f14z0_f14e1 f14n2 f14n3 f14n5 f14r6_f14e2 f14z5_f14e3 f14x7_f14e5 f14n8 f14r10_f14e5 f14z8_f14e6 f14y11_f14e7 f14n9 f14r12_f14e5 f14z9_f14e8 f14x13_f14e9 f14n14 f14r16_f14e9 f14z14_f14e10 f14y17_f14e7 f14n15 f14r18_f14e9 f14z15_f14e11 f14x19_f14e12 f14n20 f14r22_f14e12 f14z20_f14e13 f14y23_f14e7 f14n21 f14z19_f14e12 f14z13_f14e2 f14z7_f14e2 f14z5_f14e4 f14z3_f14e2 f14z2_f14e2 f14n4 f14r24_f14e2 f14z4_f14e14 f14n25 f14r26_f14e2 f14z25_f14e15 f14n27 f14n28 f14r30_f14e2 f14z28_f14e16 f14n31 f14L32_eq f14z32_f14e17 f14l32_f14e17 f14n33 f14r34_f14e17 f14z33_f14e18 f14n35 f14x36_f14e20 f14n38 f14z36_f14e20 f14y39_f14e20 f14z35_f14e17 f14n37 f14n40 f14r41_f14e17 f14z40_f14e22 f14n42 f14r43_f14e23 f14z42_f14e24 f14x44_f14e25 f14r45_f14e25 f14z44_f14e26 f14n46 f14z44_f14e25 f14z37_f14e17 f14z33_f14e19 f14z31_f14e21 f14z27_f14e21 f14n29 f14r47_f14e21 f14z29_f14e7 f14y48_f14e7 f14b_f14e7_r

noncomputable def f41rs : List ResultVar := []
noncomputable def f41c0 : Code := subCode [] (bodyOf Try.prog 41)
def f41a0 : Ann := subAnn [] ann41
noncomputable def f41c1 : Code := subCode [0] (bodyOf Try.prog 41)
def f41a1 : Ann := subAnn [0] ann41
noncomputable def f41c2 : Code := subCode [1] (bodyOf Try.prog 41)
def f41a2 : Ann := subAnn [1] ann41
noncomputable def f41c3 : Code := subCode [1, 0] (bodyOf Try.prog 41)
def f41a3 : Ann := subAnn [1, 0] ann41
noncomputable def f41c4 : Code := subCode [1, 0, 0] (bodyOf Try.prog 41)
def f41a4 : Ann := subAnn [1, 0, 0] ann41
noncomputable def f41c5 : Code := subCode [1, 0, 0, 0] (bodyOf Try.prog 41)
def f41a5 : Ann := subAnn [1, 0, 0, 0] ann41
noncomputable def f41c6 : Code := subCode [1, 0, 0, 1] (bodyOf Try.prog 41)
def f41a6 : Ann := subAnn [1, 0, 0, 1] ann41
noncomputable def f41c7 : Code := subCode [1, 0, 0, 1, 0] (bodyOf Try.prog 41)
def f41a7 : Ann := subAnn [1, 0, 0, 1, 0] ann41
noncomputable def f41c8 : Code := subCode [1, 0, 0, 1, 1] (bodyOf Try.prog 41)
def f41a8 : Ann := subAnn [1, 0, 0, 1, 1] ann41
noncomputable def f41c9 : Code := subCode [1, 0, 0, 1, 0, 0] (bodyOf Try.prog 41)
def f41a9 : Ann := subAnn [1, 0, 0, 1, 0, 0] ann41
noncomputable def f41c10 : Code := subCode [1, 0, 0, 1, 0, 1] (bodyOf Try.prog 41)
def f41a10 : Ann := subAnn [1, 0, 0, 1, 0, 1] ann41
noncomputable def f41c11 : Code := subCode [1, 0, 0, 1, 1, 0] (bodyOf Try.prog 41)
def f41a11 : Ann := subAnn [1, 0, 0, 1, 1, 0] ann41
noncomputable def f41c12 : Code := subCode [1, 0, 0, 1, 1, 0, 0] (bodyOf Try.prog 41)
def f41a12 : Ann := subAnn [1, 0, 0, 1, 1, 0, 0] ann41
noncomputable def f41c13 : Code := subCode [1, 0, 0, 1, 1, 0, 1] (bodyOf Try.prog 41)
def f41a13 : Ann := subAnn [1, 0, 0, 1, 1, 0, 1] ann41
noncomputable def f41c14 : Code := subCode [1, 0, 0, 1, 1, 0, 1, 0] (bodyOf Try.prog 41)
def f41a14 : Ann := subAnn [1, 0, 0, 1, 1, 0, 1, 0] ann41
noncomputable def f41c15 : Code := subCode [1, 0, 0, 1, 1, 0, 1, 1] (bodyOf Try.prog 41)
def f41a15 : Ann := subAnn [1, 0, 0, 1, 1, 0, 1, 1] ann41
noncomputable def f41c16 : Code := subCode [1, 0, 0, 1, 1, 0, 1, 1, 0] (bodyOf Try.prog 41)
def f41a16 : Ann := subAnn [1, 0, 0, 1, 1, 0, 1, 1, 0] ann41
noncomputable def f41c17 : Code := subCode [1, 0, 0, 1, 1, 0, 1, 1, 1] (bodyOf Try.prog 41)
def f41a17 : Ann := subAnn [1, 0, 0, 1, 1, 0, 1, 1, 1] ann41
noncomputable def f41L3 {R : Type} (call : Bool → CallF R) (dem : Bool) (N : Nat) : KF R → Env → St → Option R := fun K e σ => runK Try.prog call dem N f41c4 f41a4 K e σ
def f41e0 (y0 : Option Nat) (y1 : Nat) (y2 : Nat) : Env := AV.map y0 :: AV.func (Fn.func y1) [] [AV.ptr (some (y2, (0 : Nat)))] :: Env.sp 17 []
def f41e1 (y0 : Option Nat) (y1 : Nat) (y2 : Nat) (y3 : Option Nat) (y4 : Nat) : Env := AV.map y0 :: AV.func (Fn.func y1) [] [AV.ptr (some (y2, (0 : Nat)))] :: Env.sp 4 (AV.map y3 :: AV.ptr (some (y4, (0 : Nat))) :: Env.sp 11 [])
def f41e2 (y0 : Option Nat) (y1 : Nat) (y2 : Nat) (y3 : Nat) : Env := AV.map y0 :: AV.func (Fn.func y1) [] [AV.ptr (some (y2, (0 : Nat)))] :: Env.sp 5 (AV.ptr (some (y3, (0 : Nat))) :: Env.sp 11 [])
def f41e3 (y0 : Option Nat) (y1 : Nat) (y2 : Nat) (y3 : Nat) (y4 : Bool) (y5 : Bool) : Env := AV.map y0 :: AV.func (Fn.func y1) [] [AV.ptr (some (y2, (0 : Nat)))] :: Env.sp 5 (AV.ptr (some (y3, (0 : Nat))) :: AV.tuple [AV.bool y4] :: AV.bool y5 :: Env.sp 9 [])
def f41e4 (y0 : Option Nat) (y1 : Nat) (y2 : Nat) (y3 : Nat) (y4 : Bool) (y5 : AV) (y6 : AV) (y7 : Bool) : Env := AV.map y0 :: AV.func (Fn.func y1) [] [AV.ptr (some (y2, (0 : Nat)))] :: Env.sp 5 (AV.ptr (some (y3, (0 : Nat))) :: AV.tuple [AV.bool y4, y5, y6] :: AV.bool y7 :: Env.sp 9 [])
def f41e5 (y0 : Option Nat) (y1 : Nat) (y2 : Nat) (y3 : Nat) (y4 : Bool) : Env := AV.map y0 :: AV.func (Fn.func y1) [] [AV.ptr (some (y2, (0 : Nat)))] :: Env.sp 5 (AV.ptr (some (y3, (0 : Nat))) :: Env.sp 1 (AV.bool y4 :: Env.sp 9 []))
def f41e6 : Env := Env.sp 19 []
def f41e7 (y0 : Option Nat) (y1 : Nat) (y2 : Nat) (y3 : Nat) (y4 : Option (Nat × Nat)) (y5 : Nat) (y6 : AV) (y7 : AV) (y8 : Int) (y9 : Int) (y10 : Option (Nat × Nat)) : Env := AV.map y0 :: AV.func (Fn.func y1) [] [AV.ptr (some (y2, (0 : Nat)))] :: Env.sp 2 (AV.ptr (some (y3, (0 : Nat))) :: AV.ptr y4 :: Env.sp 1 (AV.ptr (some (y5, (0 : Nat))) :: Env.sp 2 (AV.tuple [y6, y7] :: AV.agg [AV.int IntKind.i64 y8, AV.int IntKind.i64 y9] :: AV.ptr y10 :: Env.sp 6 [])))
def f41e8 (y0 : Option Nat) (y1 : Nat) (y2 : Nat) (y3 : Nat) (y4 : Option (Nat × Nat)) (y5 : Nat) : Env := AV.map y0 :: AV.func (Fn.func y1) [] [AV.ptr (some (y2, (0 : Nat)))] :: Env.sp 2 (AV.ptr (some (y3, (0 : Nat))) :: AV.ptr y4 :: Env.sp 1 (AV.ptr (some (y5, (0 : Nat))) :: Env.sp 11 []))
def f41e9 (y0 : Option Nat) (y1 : Nat) (y2 : Nat) (y3 : Nat) (y4 : Option (Nat × Nat)) (y5 : Nat) (y6 : Nat) (y7 : Nat) (y8 : Int) (y9 : Int) (y10 : Option (Nat × Nat)) (y11 : Bool) : Env := AV.map y0 :: AV.func (Fn.func y1) [] [AV.ptr (some (y2, (0 : Nat)))] :: Env.sp 2 (AV.ptr (some (y3, (0 : Nat))) :: AV.ptr y4 :: Env.sp 1 (AV.ptr (some (y5, (0 : Nat))) :: Env.sp 5 (AV.func (Fn.func y6) [] [AV.ptr (some (y7, (0 : Nat)))] :: AV.agg [AV.int IntKind.i64 y8, AV.int IntKind.i64 y9] :: AV.ptr y10 :: AV.bool y11 :: Env.sp 2 [])))
def f41e10 (y0 : Option Nat) (y1 : Nat) (y2 : Nat) (y3 : Nat) (y4 : Nat) (y5 : Bool) : Env := AV.map y0 :: AV.func (Fn.func y1) [] [AV.ptr (some (y2, (0 : Nat)))] :: Env.sp 2 (AV.ptr (some (y3, (0 : Nat))) :: Env.sp 2 (AV.ptr (some (y4, (0 : Nat))) :: Env.sp 8 (AV.bool y5 :: Env.sp 2 [])))
def f41e11 (y0 : Option Nat) (y1 : Nat) (y2 : Nat) (y3 : Nat) (y4 : Nat) (y5 : Bool) (y6 : Option Nat) (y7 : Int) (y8 : Int) : Env := AV.map y0 :: AV.func (Fn.func y1) [] [AV.ptr (some (y2, (0 : Nat)))] :: Env.sp 2 (AV.ptr (some (y3, (0 : Nat))) :: Env.sp 2 (AV.ptr (some (y4, (0 : Nat))) :: Env.sp 8 (AV.bool y5 :: AV.map y6 :: AV.agg [AV.int IntKind.i64 y7, AV.int IntKind.i64 y8] :: [])))

/- function 41 -/
theorem f41_eq {R : Type} (call : Bool → CallF R) (dem : Bool) (N : Nat) (y0 : Option Nat) (y1 : Nat) (y2 : Nat) (σ : St) (K : AV → St → Option R) :
    bodyK Try.prog call dem N ann 41 [AV.map y0, AV.func (Fn.func y1) [] [AV.ptr (some (y2, (0 : Nat)))]] σ K = runK Try.prog call dem N f41c0 f41a0 (bodyC Try.prog f41rs K) (f41e0 y0 y1 y2) σ := bodyK_of (fn := ((Try.prog.funcs[41]?).get rfl)) (by kernel_rfl) (by kernel_rfl) (by kernel_rfl) (by kernel_rfl) (by kernel_rfl) (by kernel_rfl)
theorem f41n0 {R : Type} (call : Bool → CallF R) (dem : Bool) (N : Nat) (J : KF R) (e : Env) (σ : St) : runK Try.prog call dem N f41c0 f41a0 J e σ = runK Try.prog call dem N f41c1 f41a1 (seqC (fun K e σ => runK Try.prog call dem N f41c2 f41a2 K e σ) f41a0 J) e σ := runK_seq' (by kernel_rfl) (by kernel_rfl) (by kernel_rfl)
theorem f41r1_f41e0 {R : Type} (call : Bool → CallF R) (dem : Bool) (N : Nat) (y0 : Option Nat) (y1 : Nat) (y2 : Nat) (J : KF R) (σ : St) :
    runK Try.prog call dem N f41c1 f41a1 J (f41e0 y0 y1 y2) σ =
match some (TypeDesc.map (105 : Nat) (30 : Nat)), AV.map y0 with
| some (TypeDesc.map v0 v1), AV.map none => J Ex.normal (f41e1 y0 y1 y2 y0 (St.next σ)) (St.new σ (Blk.miter none (0 : Nat) [] (0 : Nat)))
| some (TypeDesc.map v0 v1), AV.map (some v2) =>
  Option.bind (St.map σ v2) fun v3 => J Ex.normal (f41e1 y0 y1 y2 y0 (St.next σ)) (St.new σ (Blk.miter (some v2) (Prod.snd v3) [] (Prod.snd v3)))
| v0, v1 => none := hide (by kernel_rfl)
theorem f41z0_f41e1 (y0 : Option Nat) (y1 : Nat) (y2 : Nat) (y3 : Option Nat) (y4 : Nat) : Ann.clr f41a0 (f41e1 y0 y1 y2 y3 y4) = f41e2 y0 y1 y2 y4 := hide (by kernel_rfl)
theorem f41n2 {R : Type} (call : Bool → CallF R) (dem : Bool) (N : Nat) (J : KF R) (e : Env) (σ : St) : runK Try.prog call dem N f41c2 f41a2 J e σ = runK Try.prog call dem N f41c3 f41a3 (blockC 0 f41a2 J) e σ := runK_block' (by kernel_rfl) (by kernel_rfl)
theorem f41L3_eq {R : Type} (call : Bool → CallF R) (dem : Bool) (N : Nat) (J : KF R) (e : Env) (σ : St) : f41L3 call dem N J e σ = runK Try.prog call dem N f41c4 f41a4 J e σ := hide rfl
theorem f41z3_f41e2 (y0 : Option Nat) (y1 : Nat) (y2 : Nat) (y3 : Nat) : Ann.clr f41a3 (f41e2 y0 y1 y2 y3) = f41e2 y0 y1 y2 y3 := hide (by kernel_rfl)
theorem f41l3_f41e2 {R : Type} (call : Bool → CallF R) (dem : Bool) (N : Nat) (y0 : Option Nat) (y1 : Nat) (y2 : Nat) (y3 : Nat) (J : KF R) (σ : St) : runK Try.prog call dem N f41c3 f41a3 J (f41e2 y0 y1 y2 y3) σ = loopK (f41L3 call dem N) f41a3 N J (f41e2 y0 y1 y2 y3) σ := runK_loop' (by kernel_rfl) (by kernel_rfl) (by kernel_rfl)
theorem f41n4 {R : Type} (call : Bool → CallF R) (dem : Bool) (N : Nat) (J : KF R) (e : Env) (σ : St) : runK Try.prog call dem N f41c4 f41a4 J e σ = runK Try.prog call dem N f41c5 f41a5 (seqC (fun K e σ => runK Try.prog call dem N f41c6 f41a6 K e σ) f41a4 J) e σ := runK_seq' (by kernel_rfl) (by kernel_rfl) (by kernel_rfl)
theorem f41r5_f41e2 {R : Type} (call : Bool → CallF R) (dem : Bool) (N : Nat) (y0 : Option Nat) (y1 : Nat) (y2 : Nat) (y3 : Nat) (J : KF R) (σ : St) :
    runK Try.prog call dem N f41c5 f41a5 J (f41e2 y0 y1 y2 y3) σ =
nextK dem σ y3 (J Ex.normal (f41e3 y0 y1 y2 y3 false false) σ) fun v0 v1 v2 => J Ex.normal (f41e4 y0 y1 y2 y3 true v0 v1 true) v2 := hide (by kernel_rfl)
theorem f41z4_f41e3 (y0 : Option Nat) (y1 : Nat) (y2 : Nat) (y3 : Nat) (y4 : Bool) (y5 : Bool) : Ann.clr f41a4 (f41e3 y0 y1 y2 y3 y4 y5) = f41e5 y0 y1 y2 y3 y5 := hide (by kernel_rfl)
theorem f41n6 {R : Type} (call : Bool → CallF R) (dem : Bool) (N : Nat) (J : KF R) (e : Env) (σ : St) : runK Try.prog call dem N f41c6 f41a6 J e σ = runK Try.prog call dem N f41c7 f41a7 (seqC (fun K e σ => runK Try.prog call dem N f41c8 f41a8 K e σ) f41a6 J) e σ := runK_seq' (by kernel_rfl) (by kernel_rfl) (by kernel_rfl)
theorem f41x7_f41e5 {R : Type} (call : Bool → CallF R) (dem : Bool) (N : Nat) (y0 : Option Nat) (y1 : Nat) (y2 : Nat) (y3 : Nat) (y4 : Bool) (J : KF R) (σ : St) : runK Try.prog call dem N f41c7 f41a7 J (f41e5 y0 y1 y2 y3 y4) σ = if y4 = true then runK Try.prog call dem N f41c9 f41a9 (condC f41a7 J) (f41e5 y0 y1 y2 y3 y4) σ else runK Try.prog call dem N f41c10 f41a10 (condC f41a7 J) (f41e5 y0 y1 y2 y3 y4) σ := runK_cond' (o := Operand.tmp (9 : Nat)) (by kernel_rfl) (by kernel_rfl) (by kernel_rfl) (by kernel_rfl)
theorem f41n9 {R : Type} (call : Bool → CallF R) (dem : Bool) (N : Nat) (J : KF R) (e : Env) (σ : St) : runK Try.prog call dem N f41c9 f41a9 J e σ = J .normal e σ := runK_skip' (by kernel_rfl)
theorem f41z7_f41e5 (y0 : Option Nat) (y1 : Nat) (y2 : Nat) (y3 : Nat) (y4 : Bool) : Ann.clr f41a7 (f41e5 y0 y1 y2 y3 y4) = f41e2 y0 y1 y2 y3 := hide (by kernel_rfl)
theorem f41y10_f41e5 {R : Type} (call : Bool → CallF R) (dem : Bool) (N : Nat) (y0 : Option Nat) (y1 : Nat) (y2 : Nat) (y3 : Nat) (y4 : Bool) (J : KF R) (σ : St) : runK Try.prog call dem N f41c10 f41a10 J (f41e5 y0 y1 y2 y3 y4) σ = J (.exit 0) (f41e6) σ := runK_exit' (by kernel_rfl) (by kernel_rfl)
theorem f41z6_f41e2 (y0 : Option Nat) (y1 : Nat) (y2 : Nat) (y3 : Nat) : Ann.clr f41a6 (f41e2 y0 y1 y2 y3) = f41e2 y0 y1 y2 y3 := hide (by kernel_rfl)
theorem f41n8 {R : Type} (call : Bool → CallF R) (dem : Bool) (N : Nat) (J : KF R) (e : Env) (σ : St) : runK Try.prog call dem N f41c8 f41a8 J e σ = runK Try.prog call dem N f41c11 f41a11 (blockC 1 f41a8 J) e σ := runK_block' (by kernel_rfl) (by kernel_rfl)
theorem f41n11 {R : Type} (call : Bool → CallF R) (dem : Bool) (N : Nat) (J : KF R) (e : Env) (σ : St) : runK Try.prog call dem N f41c11 f41a11 J e σ = runK Try.prog call dem N f41c12 f41a12 (seqC (fun K e σ => runK Try.prog call dem N f41c13 f41a13 K e σ) f41a11 J) e σ := runK_seq' (by kernel_rfl) (by kernel_rfl) (by kernel_rfl)
theorem f41r12_f41e2 {R : Type} (call : Bool → CallF R) (dem : Bool) (N : Nat) (y0 : Option Nat) (y1 : Nat) (y2 : Nat) (y3 : Nat) (J : KF R) (σ : St) :
    runK Try.prog call dem N f41c12 f41a12 J (f41e2 y0 y1 y2 y3) σ =
Option.bind (entryOf σ y3) fun v0 =>
  Option.bind (AV.toAgg (Prod.fst v0)) fun v1 =>
    if List.length v1 = (2 : Nat) then
      Option.bind (List.head? v1) fun v2 =>
        Option.bind (AV.toInt IntKind.i64 v2) fun v3 =>
          Option.bind (List.head? (List.tail v1)) fun v4 =>
            Option.bind (AV.toInt IntKind.i64 v4) fun v5 =>
              Option.bind (AV.toPtr (Prod.snd v0)) fun v6 =>
                Option.bind
                  (St.st (St.new σ (Blk.cells [AV.int IntKind.i64 (0 : Int), AV.int IntKind.i64 (0 : Int)] true)) (St.next σ) (0 : Nat)
                    [AV.int IntKind.i64 v3, AV.int IntKind.i64 v5])
                  fun v7 => J Ex.normal (f41e7 y0 y1 y2 (St.next σ) v6 y3 (Prod.fst v0) (Prod.snd v0) v3 v5 v6) v7
    else none := hide (by kernel_rfl)
theorem f41z11_f41e7 (y0 : Option Nat) (y1 : Nat) (y2 : Nat) (y3 : Nat) (y4 : Option (Nat × Nat)) (y5 : Nat) (y6 : AV) (y7 : AV) (y8 : Int) (y9 : Int) (y10 : Option (Nat × Nat)) : Ann.clr f41a11 (f41e7 y0 y1 y2 y3 y4 y5 y6 y7 y8 y9 y10) = f41e8 y0 y1 y2 y3 y4 y5 := hide (by kernel_rfl)
theorem f41n13 {R : Type} (call : Bool → CallF R) (dem : Bool) (N : Nat) (J : KF R) (e : Env) (σ : St) : runK Try.prog call dem N f41c13 f41a13 J e σ = runK Try.prog call dem N f41c14 f41a14 (seqC (fun K e σ => runK Try.prog call dem N f41c15 f41a15 K e σ) f41a13 J) e σ := runK_seq' (by kernel_rfl) (by kernel_rfl) (by kernel_rfl)
theorem f41r14_f41e8 {R : Type} (call : Bool → CallF R) (dem : Bool) (N : Nat) (y0 : Option Nat) (y1 : Nat) (y2 : Nat) (y3 : Nat) (y4 : Option (Nat × Nat)) (y5 : Nat) (J : KF R) (σ : St) :
    runK Try.prog call dem N f41c14 f41a14 J (f41e8 y0 y1 y2 y3 y4 y5) σ =
Option.bind (St.ld σ y3 (0 : Nat)) fun v0 =>
  Option.bind (AV.toInt IntKind.i64 v0) fun v1 =>
    Option.bind (St.ld σ y3 (1 : Nat)) fun v2 =>
      Option.bind (AV.toInt IntKind.i64 v2) fun v3 =>
        call dem y1 [AV.agg [AV.int IntKind.i64 v1, AV.int IntKind.i64 v3], AV.ptr y4, AV.ptr (some (y2, (0 : Nat)))] σ fun v4 v5 =>
          Option.bind (AV.toBool v4) fun v6 => J Ex.normal (f41e9 y0 y1 y2 y3 y4 y5 y1 y2 v1 v3 y4 v6) v5 := hide (by kernel_rfl)
theorem f41z13_f41e9 (y0 : Option Nat) (y1 : Nat) (y2 : Nat) (y3 : Nat) (y4 : Option (Nat × Nat)) (y5 : Nat) (y6 : Nat) (y7 : Nat) (y8 : Int) (y9 : Int) (y10 : Option (Nat × Nat)) (y11 : Bool) : Ann.clr f41a13 (f41e9 y0 y1 y2 y3 y4 y5 y6 y7 y8 y9 y10 y11) = f41e10 y0 y1 y2 y3 y5 y11 := hide (by kernel_rfl)
theorem f41x15_f41e10 {R : Type} (call : Bool → CallF R) (dem : Bool) (N : Nat) (y0 : Option Nat) (y1 : Nat) (y2 : Nat) (y3 : Nat) (y4 : Nat) (y5 : Bool) (J : KF R) (σ : St) : runK Try.prog call dem N f41c15 f41a15 J (f41e10 y0 y1 y2 y3 y4 y5) σ = if y5 = true then runK Try.prog call dem N f41c16 f41a16 (condC f41a15 J) (f41e10 y0 y1 y2 y3 y4 y5) σ else runK Try.prog call dem N f41c17 f41a17 (condC f41a15 J) (f41e10 y0 y1 y2 y3 y4 y5) σ := runK_cond' (o := Operand.tmp (16 : Nat)) (by kernel_rfl) (by kernel_rfl) (by kernel_rfl) (by kernel_rfl)
theorem f41r16_f41e10 {R : Type} (call : Bool → CallF R) (dem : Bool) (N : Nat) (y0 : Option Nat) (y1 : Nat) (y2 : Nat) (y3 : Nat) (y4 : Nat) (y5 : Bool) (J : KF R) (σ : St) :
    runK Try.prog call dem N f41c16 f41a16 J (f41e10 y0 y1 y2 y3 y4 y5) σ =
Option.bind (St.ld σ y3 (0 : Nat)) fun v0 =>
  Option.bind (AV.toInt IntKind.i64 v0) fun v1 =>
    Option.bind (St.ld σ y3 (1 : Nat)) fun v2 =>
      Option.bind (AV.toInt IntKind.i64 v2) fun v3 =>
        match y0 with
        | none => J Ex.normal (f41e11 y0 y1 y2 y3 y4 y5 y0 v1 v3) σ
        | some v4 =>
          Option.bind (St.map σ v4) fun v5 =>
            Option.bind (mapDel true [Sh.int IntKind.i64, Sh.int IntKind.i64] [AV.int IntKind.i64 v1, AV.int IntKind.i64 v3] (Prod.fst v5)) fun v6 =>
              J Ex.normal (f41e11 y0 y1 y2 y3 y4 y5 y0 v1 v3) (St.put σ v4 (Blk.map v6 (Prod.snd v5))) := hide (by kernel_rfl)
theorem f41z15_f41e11 (y0 : Option Nat) (y1 : Nat) (y2 : Nat) (y3 : Nat) (y4 : Nat) (y5 : Bool) (y6 : Option Nat) (y7 : Int) (y8 : Int) : Ann.clr f41a15 (f41e11 y0 y1 y2 y3 y4 y5 y6 y7 y8) = f41e2 y0 y1 y2 y4 := hide (by kernel_rfl)
theorem f41n17 {R : Type} (call : Bool → CallF R) (dem : Bool) (N : Nat) (J : KF R) (e : Env) (σ : St) : runK Try.prog call dem N f41c17 f41a17 J e σ = J .normal e σ := runK_skip' (by kernel_rfl)
theorem f41z15_f41e10 (y0 : Option Nat) (y1 : Nat) (y2 : Nat) (y3 : Nat) (y4 : Nat) (y5 : Bool) : Ann.clr f41a15 (f41e10 y0 y1 y2 y3 y4 y5) = f41e2 y0 y1 y2 y4 := hide (by kernel_rfl)
theorem f41z8_f41e2 (y0 : Option Nat) (y1 : Nat) (y2 : Nat) (y3 : Nat) : Ann.clr f41a8 (f41e2 y0 y1 y2 y3) = f41e2 y0 y1 y2 y3 := hide (by kernel_rfl)
theorem f41z4_f41e4 (y0 : Option Nat) (y1 : Nat) (y2 : Nat) (y3 : Nat) (y4 : Bool) (y5 : AV) (y6 : AV) (y7 : Bool) : Ann.clr f41a4 (f41e4 y0 y1 y2 y3 y4 y5 y6 y7) = f41e5 y0 y1 y2 y3 y7 := hide (by kernel_rfl)
theorem f41z2_f41e6 : Ann.clr f41a2 (f41e6) = f41e6 := hide (by kernel_rfl)
theorem f41b_f41e6_n {R : Type} (σ : St) (K : AV → St → Option R) : bodyC Try.prog f41rs K (Ex.normal) (f41e6) σ =
K (AV.tuple []) σ := hide (by kernel_rfl)
attribute [go_sem] f41_eq f41n0 f41r1_f41e0 f41z0_f41e1 f41n2 f41L3_eq f41z3_f41e2 f41l3_f41e2 f41n4 f41r5_f41e2 f41z4_f41e3 f41n6 f41x7_f41e5 f41n9 f41z7_f41e5 f41y10_f41e5 f41z6_f41e2 f41n8 f41n11 f41r12_f41e2 f41z11_f41e7 f41n13 f41r14_f41e8 f41z13_f41e9 f41x15_f41e10 f41r16_f41e10 f41z15_f41e11 f41n17 f41z15_f41e10 f41z8_f41e2 f41z4_f41e4 f41z2_f41e6 f41b_f41e6_n

noncomputable def f42rs : List ResultVar := [ResultVar.tmp (5 : Nat)]
noncomputable def f42c0 : Code := subCode [] (bodyOf Try.prog 42)
def f42a0 : Ann := subAnn [] ann42
noncomputable def f42c1 : Code := subCode [0] (bodyOf Try.prog 42)
def f42a1 : Ann := subAnn [0] ann42
noncomputable def f42c2 : Code := subCode [1] (bodyOf Try.prog 42)
def f42a2 : Ann := subAnn [1] ann42
noncomputable def f42c3 : Code := subCode [1, 0] (bodyOf Try.prog 42)
def f42a3 : Ann := subAnn [1, 0] ann42
noncomputable def f42c4 : Code := subCode [1, 1] (bodyOf Try.prog 42)
def f42a4 : Ann := subAnn [1, 1] ann42
def f42e0 (y0 : Int) (y1 : Int) (y2 : Option (Nat × Nat)) (y3 : Nat) : Env := AV.agg [AV.int IntKind.i64 y0, AV.int IntKind.i64 y1] :: AV.ptr y2 :: AV.ptr (some (y3, (0 : Nat))) :: Env.sp 7 []
def f42e1 (y0 : Int) (y1 : Int) (y2 : Option (Nat × Nat)) (y3 : Nat) (y4 : Nat) (y5 : Bool) : Env := AV.agg [AV.int IntKind.i64 y0, AV.int IntKind.i64 y1] :: AV.ptr y2 :: AV.ptr (some (y3, (0 : Nat))) :: AV.ptr (some (y4, (0 : Nat))) :: Env.sp 1 (AV.bool y5 :: Env.sp 4 [])
def f42e2 (y0 : Nat) (y1 : Nat) : Env := Env.sp 2 (AV.ptr (some (y0, (0 : Nat))) :: AV.ptr (some (y1, (0 : Nat))) :: Env.sp 6 [])
def f42e3 (y0 : Nat) (y1 : Nat) (y2 : Bool) (y3 : Nat) (y4 : Int) (y5 : Int) (y6 : Bool) : Env := Env.sp 2 (AV.ptr (some (y0, (0 : Nat))) :: AV.ptr (some (y1, (0 : Nat))) :: Env.sp 1 (AV.bool y2 :: AV.ptr (some (y3, (1 : Nat))) :: AV.int IntKind.i64 y4 :: AV.int IntKind.i64 y5 :: AV.bool y6 :: []))
def f42e4 (y0 : Bool) : Env := Env.sp 5 (AV.bool y0 :: Env.sp 4 [])

/- function 42 -/
theorem f42_eq {R : Type} (call : Bool → CallF R) (dem : Bool) (N : Nat) (y0 : Int) (y1 : Int) (y2 : Option (Nat × Nat)) (y3 : Nat) (σ : St) (K : AV → St → Option R) :
    bodyK Try.prog call dem N ann 42 [AV.agg [AV.int IntKind.i64 y0, AV.int IntKind.i64 y1], AV.ptr y2, AV.ptr (some (y3, (0 : Nat)))] σ K = runK Try.prog call dem N f42c0 f42a0 (bodyC Try.prog f42rs K) (f42e0 y0 y1 y2 y3) σ := bodyK_of (fn := ((Try.prog.funcs[42]?).get rfl)) (by kernel_rfl) (by kernel_rfl) (by kernel_rfl) (by kernel_rfl) (by kernel_rfl) (by kernel_rfl)
theorem f42n0 {R : Type} (call : Bool → CallF R) (dem : Bool) (N : Nat) (J : KF R) (e : Env) (σ : St) : runK Try.prog call dem N f42c0 f42a0 J e σ = runK Try.prog call dem N f42c1 f42a1 (seqC (fun K e σ => runK Try.prog call dem N f42c2 f42a2 K e σ) f42a0 J) e σ := runK_seq' (by kernel_rfl) (by kernel_rfl) (by kernel_rfl)
theorem f42r1_f42e0 {R : Type} (call : Bool → CallF R) (dem : Bool) (N : Nat) (y0 : Int) (y1 : Int) (y2 : Option (Nat × Nat)) (y3 : Nat) (J : KF R) (σ : St) :
    runK Try.prog call dem N f42c1 f42a1 J (f42e0 y0 y1 y2 y3) σ =
J Ex.normal (f42e1 y0 y1 y2 y3 (St.next σ) false) (St.new σ (Blk.cells [AV.int IntKind.i64 y0, AV.int IntKind.i64 y1] true)) := hide (by kernel_rfl)
theorem f42z0_f42e1 (y0 : Int) (y1 : Int) (y2 : Option (Nat × Nat)) (y3 : Nat) (y4 : Nat) (y5 : Bool) : Ann.clr f42a0 (f42e1 y0 y1 y2 y3 y4 y5) = f42e2 y3 y4 := hide (by kernel_rfl)
theorem f42n2 {R : Type} (call : Bool → CallF R) (dem : Bool) (N : Nat) (J : KF R) (e : Env) (σ : St) : runK Try.prog call dem N f42c2 f42a2 J e σ = runK Try.prog call dem N f42c3 f42a3 (seqC (fun K e σ => runK Try.prog call dem N f42c4 f42a4 K e σ) f42a2 J) e σ := runK_seq' (by kernel_rfl) (by kernel_rfl) (by kernel_rfl)
theorem f42r3_f42e2 {R : Type} (call : Bool → CallF R) (dem : Bool) (N : Nat) (y0 : Nat) (y1 : Nat) (J : KF R) (σ : St) :
    runK Try.prog call dem N f42c3 f42a3 J (f42e2 y0 y1) σ =
Option.bind (St.ld σ y1 (1 : Nat)) fun v0 =>
  Option.bind (AV.toInt IntKind.i64 v0) fun v1 =>
    Option.bind (St.ld σ y0 (0 : Nat)) fun v2 =>
      Option.bind (AV.toInt IntKind.i64 v2) fun v3 => J Ex.normal (f42e3 y0 y1 (decide (v1 ≤ v3)) y1 v1 v3 (decide (v1 ≤ v3))) σ := hide (by kernel_rfl)
theorem f42z2_f42e3 (y0 : Nat) (y1 : Nat) (y2 : Bool) (y3 : Nat) (y4 : Int) (y5 : Int) (y6 : Bool) : Ann.clr f42a2 (f42e3 y0 y1 y2 y3 y4 y5 y6) = f42e4 y2 := hide (by kernel_rfl)
theorem f42y4_f42e4 {R : Type} (call : Bool → CallF R) (dem : Bool) (N : Nat) (y0 : Bool) (J : KF R) (σ : St) : runK Try.prog call dem N f42c4 f42a4 J (f42e4 y0) σ = J .ret (f42e4 y0) σ := runK_ret' (by kernel_rfl) (by kernel_rfl)
theorem f42b_f42e4_r {R : Type} (y0 : Bool) (σ : St) (K : AV → St → Option R) : bodyC Try.prog f42rs K (Ex.ret) (f42e4 y0) σ =
K (AV.bool y0) σ := hide (by kernel_rfl)
attribute [go_sem] f42_eq f42n0 f42r1_f42e0 f42z0_f42e1 f42n2 f42r3_f42e2 f42z2_f42e3 f42y4_f42e4 f42b_f42e4_r

end Go.Proofs.Ytmgacgonoodkfaa
