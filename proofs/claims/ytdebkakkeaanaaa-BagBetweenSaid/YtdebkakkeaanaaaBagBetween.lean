/- What the machine does with each piece of code, in plain text. PRINTED by a program of this workplace; Lean checks it. -/
import Derived.Test.YtdebkakkeaanaaaBagAnn
import Derived.Test.YtdebkakkeaanaaaProg
import Derived.KernelRfl
import Derived.Attr
namespace Go.Proofs.Ytdebkakkeaanaaa
open Go.AM
set_option maxRecDepth 100000
set_option linter.unusedVariables false
noncomputable def f5rs : List ResultVar := [ResultVar.tmp (6 : Nat)]
noncomputable def f5c0 : Code := subCode [] (bodyOf Try.prog 5)
def f5a0 : Ann := subAnn [] ann5
noncomputable def f5c1 : Code := subCode [0] (bodyOf Try.prog 5)
def f5a1 : Ann := subAnn [0] ann5
noncomputable def f5c2 : Code := subCode [1] (bodyOf Try.prog 5)
def f5a2 : Ann := subAnn [1] ann5
noncomputable def f5c3 : Code := subCode [1, 0] (bodyOf Try.prog 5)
def f5a3 : Ann := subAnn [1, 0] ann5
noncomputable def f5c4 : Code := subCode [1, 1] (bodyOf Try.prog 5)
def f5a4 : Ann := subAnn [1, 1] ann5
noncomputable def f5c5 : Code := subCode [1, 1, 0] (bodyOf Try.prog 5)
def f5a5 : Ann := subAnn [1, 1, 0] ann5
noncomputable def f5c6 : Code := subCode [1, 1, 1] (bodyOf Try.prog 5)
def f5a6 : Ann := subAnn [1, 1, 1] ann5
noncomputable def f5c7 : Code := subCode [1, 1, 0, 0] (bodyOf Try.prog 5)
def f5a7 : Ann := subAnn [1, 1, 0, 0] ann5
noncomputable def f5c8 : Code := subCode [1, 1, 0, 1] (bodyOf Try.prog 5)
def f5a8 : Ann := subAnn [1, 1, 0, 1] ann5
noncomputable def f5c9 : Code := subCode [1, 1, 0, 1, 0] (bodyOf Try.prog 5)
def f5a9 : Ann := subAnn [1, 1, 0, 1, 0] ann5
noncomputable def f5c10 : Code := subCode [1, 1, 0, 1, 1] (bodyOf Try.prog 5)
def f5a10 : Ann := subAnn [1, 1, 0, 1, 1] ann5
noncomputable def f5c11 : Code := subCode [1, 1, 0, 1, 0, 0] (bodyOf Try.prog 5)
def f5a11 : Ann := subAnn [1, 1, 0, 1, 0, 0] ann5
noncomputable def f5c12 : Code := subCode [1, 1, 0, 1, 0, 1] (bodyOf Try.prog 5)
def f5a12 : Ann := subAnn [1, 1, 0, 1, 0, 1] ann5
noncomputable def f5c13 : Code := subCode [1, 1, 1, 0] (bodyOf Try.prog 5)
def f5a13 : Ann := subAnn [1, 1, 1, 0] ann5
noncomputable def f5c14 : Code := subCode [1, 1, 1, 1] (bodyOf Try.prog 5)
def f5a14 : Ann := subAnn [1, 1, 1, 1] ann5
noncomputable def f5c15 : Code := subCode [1, 1, 1, 1, 0] (bodyOf Try.prog 5)
def f5a15 : Ann := subAnn [1, 1, 1, 1, 0] ann5
noncomputable def f5c16 : Code := subCode [1, 1, 1, 1, 1] (bodyOf Try.prog 5)
def f5a16 : Ann := subAnn [1, 1, 1, 1, 1] ann5
noncomputable def f5c17 : Code := subCode [1, 1, 1, 1, 0, 0] (bodyOf Try.prog 5)
def f5a17 : Ann := subAnn [1, 1, 1, 1, 0, 0] ann5
noncomputable def f5c18 : Code := subCode [1, 1, 1, 1, 0, 1] (bodyOf Try.prog 5)
def f5a18 : Ann := subAnn [1, 1, 1, 1, 0, 1] ann5
noncomputable def f5c19 : Code := subCode [1, 1, 1, 1, 0, 1, 0] (bodyOf Try.prog 5)
def f5a19 : Ann := subAnn [1, 1, 1, 1, 0, 1, 0] ann5
noncomputable def f5c20 : Code := subCode [1, 1, 1, 1, 0, 1, 0, 0] (bodyOf Try.prog 5)
def f5a20 : Ann := subAnn [1, 1, 1, 1, 0, 1, 0, 0] ann5
noncomputable def f5c21 : Code := subCode [1, 1, 1, 1, 0, 1, 0, 0, 0] (bodyOf Try.prog 5)
def f5a21 : Ann := subAnn [1, 1, 1, 1, 0, 1, 0, 0, 0] ann5
noncomputable def f5c22 : Code := subCode [1, 1, 1, 1, 0, 1, 0, 0, 1] (bodyOf Try.prog 5)
def f5a22 : Ann := subAnn [1, 1, 1, 1, 0, 1, 0, 0, 1] ann5
noncomputable def f5c23 : Code := subCode [1, 1, 1, 1, 0, 1, 0, 0, 1, 0] (bodyOf Try.prog 5)
def f5a23 : Ann := subAnn [1, 1, 1, 1, 0, 1, 0, 0, 1, 0] ann5
noncomputable def f5c24 : Code := subCode [1, 1, 1, 1, 0, 1, 0, 0, 1, 1] (bodyOf Try.prog 5)
def f5a24 : Ann := subAnn [1, 1, 1, 1, 0, 1, 0, 0, 1, 1] ann5
noncomputable def f5c25 : Code := subCode [1, 1, 1, 1, 0, 1, 0, 0, 1, 0, 0] (bodyOf Try.prog 5)
def f5a25 : Ann := subAnn [1, 1, 1, 1, 0, 1, 0, 0, 1, 0, 0] ann5
noncomputable def f5c26 : Code := subCode [1, 1, 1, 1, 0, 1, 0, 0, 1, 0, 1] (bodyOf Try.prog 5)
def f5a26 : Ann := subAnn [1, 1, 1, 1, 0, 1, 0, 0, 1, 0, 1] ann5
noncomputable def f5c27 : Code := subCode [1, 1, 1, 1, 0, 1, 0, 0, 1, 1, 0] (bodyOf Try.prog 5)
def f5a27 : Ann := subAnn [1, 1, 1, 1, 0, 1, 0, 0, 1, 1, 0] ann5
noncomputable def f5c28 : Code := subCode [1, 1, 1, 1, 0, 1, 0, 0, 1, 1, 1] (bodyOf Try.prog 5)
def f5a28 : Ann := subAnn [1, 1, 1, 1, 0, 1, 0, 0, 1, 1, 1] ann5
noncomputable def f5c29 : Code := subCode [1, 1, 1, 1, 0, 1, 0, 0, 1, 1, 0, 0] (bodyOf Try.prog 5)
def f5a29 : Ann := subAnn [1, 1, 1, 1, 0, 1, 0, 0, 1, 1, 0, 0] ann5
noncomputable def f5c30 : Code := subCode [1, 1, 1, 1, 0, 1, 0, 0, 1, 1, 0, 0, 0] (bodyOf Try.prog 5)
def f5a30 : Ann := subAnn [1, 1, 1, 1, 0, 1, 0, 0, 1, 1, 0, 0, 0] ann5
noncomputable def f5c31 : Code := subCode [1, 1, 1, 1, 0, 1, 0, 0, 1, 1, 0, 0, 1] (bodyOf Try.prog 5)
def f5a31 : Ann := subAnn [1, 1, 1, 1, 0, 1, 0, 0, 1, 1, 0, 0, 1] ann5
noncomputable def f5c32 : Code := subCode [1, 1, 1, 1, 0, 1, 0, 0, 1, 1, 0, 0, 1, 0] (bodyOf Try.prog 5)
def f5a32 : Ann := subAnn [1, 1, 1, 1, 0, 1, 0, 0, 1, 1, 0, 0, 1, 0] ann5
noncomputable def f5c33 : Code := subCode [1, 1, 1, 1, 0, 1, 0, 0, 1, 1, 0, 0, 1, 1] (bodyOf Try.prog 5)
def f5a33 : Ann := subAnn [1, 1, 1, 1, 0, 1, 0, 0, 1, 1, 0, 0, 1, 1] ann5
noncomputable def f5c34 : Code := subCode [1, 1, 1, 1, 0, 1, 0, 0, 1, 1, 0, 0, 1, 1, 0] (bodyOf Try.prog 5)
def f5a34 : Ann := subAnn [1, 1, 1, 1, 0, 1, 0, 0, 1, 1, 0, 0, 1, 1, 0] ann5
noncomputable def f5c35 : Code := subCode [1, 1, 1, 1, 0, 1, 0, 0, 1, 1, 0, 0, 1, 1, 1] (bodyOf Try.prog 5)
def f5a35 : Ann := subAnn [1, 1, 1, 1, 0, 1, 0, 0, 1, 1, 0, 0, 1, 1, 1] ann5
noncomputable def f5c36 : Code := subCode [1, 1, 1, 1, 1, 0] (bodyOf Try.prog 5)
def f5a36 : Ann := subAnn [1, 1, 1, 1, 1, 0] ann5
noncomputable def f5c37 : Code := subCode [1, 1, 1, 1, 1, 1] (bodyOf Try.prog 5)
def f5a37 : Ann := subAnn [1, 1, 1, 1, 1, 1] ann5
noncomputable def f5c38 : Code := subCode [1, 1, 1, 1, 1, 0, 0] (bodyOf Try.prog 5)
def f5a38 : Ann := subAnn [1, 1, 1, 1, 1, 0, 0] ann5
noncomputable def f5c39 : Code := subCode [1, 1, 1, 1, 1, 0, 1] (bodyOf Try.prog 5)
def f5a39 : Ann := subAnn [1, 1, 1, 1, 1, 0, 1] ann5
noncomputable def f5c40 : Code := subCode [1, 1, 1, 1, 1, 0, 1, 0] (bodyOf Try.prog 5)
def f5a40 : Ann := subAnn [1, 1, 1, 1, 1, 0, 1, 0] ann5
noncomputable def f5c41 : Code := subCode [1, 1, 1, 1, 1, 0, 1, 0, 0] (bodyOf Try.prog 5)
def f5a41 : Ann := subAnn [1, 1, 1, 1, 1, 0, 1, 0, 0] ann5
noncomputable def f5c42 : Code := subCode [1, 1, 1, 1, 1, 0, 1, 0, 0, 0] (bodyOf Try.prog 5)
def f5a42 : Ann := subAnn [1, 1, 1, 1, 1, 0, 1, 0, 0, 0] ann5
noncomputable def f5c43 : Code := subCode [1, 1, 1, 1, 1, 0, 1, 0, 0, 1] (bodyOf Try.prog 5)
def f5a43 : Ann := subAnn [1, 1, 1, 1, 1, 0, 1, 0, 0, 1] ann5
noncomputable def f5c44 : Code := subCode [1, 1, 1, 1, 1, 0, 1, 0, 0, 1, 0] (bodyOf Try.prog 5)
def f5a44 : Ann := subAnn [1, 1, 1, 1, 1, 0, 1, 0, 0, 1, 0] ann5
noncomputable def f5c45 : Code := subCode [1, 1, 1, 1, 1, 0, 1, 0, 0, 1, 1] (bodyOf Try.prog 5)
def f5a45 : Ann := subAnn [1, 1, 1, 1, 1, 0, 1, 0, 0, 1, 1] ann5
noncomputable def f5c46 : Code := subCode [1, 1, 1, 1, 1, 0, 1, 0, 0, 1, 0, 0] (bodyOf Try.prog 5)
def f5a46 : Ann := subAnn [1, 1, 1, 1, 1, 0, 1, 0, 0, 1, 0, 0] ann5
noncomputable def f5c47 : Code := subCode [1, 1, 1, 1, 1, 0, 1, 0, 0, 1, 0, 1] (bodyOf Try.prog 5)
def f5a47 : Ann := subAnn [1, 1, 1, 1, 1, 0, 1, 0, 0, 1, 0, 1] ann5
noncomputable def f5c48 : Code := subCode [1, 1, 1, 1, 1, 0, 1, 0, 0, 1, 1, 0] (bodyOf Try.prog 5)
def f5a48 : Ann := subAnn [1, 1, 1, 1, 1, 0, 1, 0, 0, 1, 1, 0] ann5
noncomputable def f5c49 : Code := subCode [1, 1, 1, 1, 1, 0, 1, 0, 0, 1, 1, 1] (bodyOf Try.prog 5)
def f5a49 : Ann := subAnn [1, 1, 1, 1, 1, 0, 1, 0, 0, 1, 1, 1] ann5
noncomputable def f5c50 : Code := subCode [1, 1, 1, 1, 1, 0, 1, 0, 0, 1, 1, 0, 0] (bodyOf Try.prog 5)
def f5a50 : Ann := subAnn [1, 1, 1, 1, 1, 0, 1, 0, 0, 1, 1, 0, 0] ann5
noncomputable def f5c51 : Code := subCode [1, 1, 1, 1, 1, 0, 1, 0, 0, 1, 1, 0, 0, 0] (bodyOf Try.prog 5)
def f5a51 : Ann := subAnn [1, 1, 1, 1, 1, 0, 1, 0, 0, 1, 1, 0, 0, 0] ann5
noncomputable def f5c52 : Code := subCode [1, 1, 1, 1, 1, 0, 1, 0, 0, 1, 1, 0, 0, 1] (bodyOf Try.prog 5)
def f5a52 : Ann := subAnn [1, 1, 1, 1, 1, 0, 1, 0, 0, 1, 1, 0, 0, 1] ann5
noncomputable def f5c53 : Code := subCode [1, 1, 1, 1, 1, 0, 1, 0, 0, 1, 1, 0, 0, 1, 0] (bodyOf Try.prog 5)
def f5a53 : Ann := subAnn [1, 1, 1, 1, 1, 0, 1, 0, 0, 1, 1, 0, 0, 1, 0] ann5
noncomputable def f5c54 : Code := subCode [1, 1, 1, 1, 1, 0, 1, 0, 0, 1, 1, 0, 0, 1, 1] (bodyOf Try.prog 5)
def f5a54 : Ann := subAnn [1, 1, 1, 1, 1, 0, 1, 0, 0, 1, 1, 0, 0, 1, 1] ann5
noncomputable def f5c55 : Code := subCode [1, 1, 1, 1, 1, 0, 1, 0, 0, 1, 1, 0, 0, 1, 1, 0] (bodyOf Try.prog 5)
def f5a55 : Ann := subAnn [1, 1, 1, 1, 1, 0, 1, 0, 0, 1, 1, 0, 0, 1, 1, 0] ann5
noncomputable def f5c56 : Code := subCode [1, 1, 1, 1, 1, 0, 1, 0, 0, 1, 1, 0, 0, 1, 1, 1] (bodyOf Try.prog 5)
def f5a56 : Ann := subAnn [1, 1, 1, 1, 1, 0, 1, 0, 0, 1, 1, 0, 0, 1, 1, 1] ann5
noncomputable def f5c57 : Code := subCode [1, 1, 1, 1, 1, 0, 1, 0, 0, 1, 1, 0, 0, 1, 1, 0, 0] (bodyOf Try.prog 5)
def f5a57 : Ann := subAnn [1, 1, 1, 1, 1, 0, 1, 0, 0, 1, 1, 0, 0, 1, 1, 0, 0] ann5
noncomputable def f5c58 : Code := subCode [1, 1, 1, 1, 1, 0, 1, 0, 0, 1, 1, 0, 0, 1, 1, 0, 1] (bodyOf Try.prog 5)
def f5a58 : Ann := subAnn [1, 1, 1, 1, 1, 0, 1, 0, 0, 1, 1, 0, 0, 1, 1, 0, 1] ann5
noncomputable def f5c59 : Code := subCode [1, 1, 1, 1, 1, 0, 1, 0, 0, 1, 1, 0, 0, 1, 1, 0, 1, 0] (bodyOf Try.prog 5)
def f5a59 : Ann := subAnn [1, 1, 1, 1, 1, 0, 1, 0, 0, 1, 1, 0, 0, 1, 1, 0, 1, 0] ann5
noncomputable def f5c60 : Code := subCode [1, 1, 1, 1, 1, 0, 1, 0, 0, 1, 1, 0, 0, 1, 1, 0, 1, 1] (bodyOf Try.prog 5)
def f5a60 : Ann := subAnn [1, 1, 1, 1, 1, 0, 1, 0, 0, 1, 1, 0, 0, 1, 1, 0, 1, 1] ann5
noncomputable def f5c61 : Code := subCode [1, 1, 1, 1, 1, 0, 1, 0, 0, 1, 1, 0, 0, 1, 1, 0, 1, 0, 0] (bodyOf Try.prog 5)
def f5a61 : Ann := subAnn [1, 1, 1, 1, 1, 0, 1, 0, 0, 1, 1, 0, 0, 1, 1, 0, 1, 0, 0] ann5
noncomputable def f5c62 : Code := subCode [1, 1, 1, 1, 1, 0, 1, 0, 0, 1, 1, 0, 0, 1, 1, 0, 1, 0, 1] (bodyOf Try.prog 5)
def f5a62 : Ann := subAnn [1, 1, 1, 1, 1, 0, 1, 0, 0, 1, 1, 0, 0, 1, 1, 0, 1, 0, 1] ann5
noncomputable def f5c63 : Code := subCode [1, 1, 1, 1, 1, 0, 1, 0, 0, 1, 1, 0, 0, 1, 1, 1, 0] (bodyOf Try.prog 5)
def f5a63 : Ann := subAnn [1, 1, 1, 1, 1, 0, 1, 0, 0, 1, 1, 0, 0, 1, 1, 1, 0] ann5
noncomputable def f5c64 : Code := subCode [1, 1, 1, 1, 1, 0, 1, 0, 0, 1, 1, 0, 0, 1, 1, 1, 1] (bodyOf Try.prog 5)
def f5a64 : Ann := subAnn [1, 1, 1, 1, 1, 0, 1, 0, 0, 1, 1, 0, 0, 1, 1, 1, 1] ann5
noncomputable def f5c65 : Code := subCode [1, 1, 1, 1, 1, 0, 1, 0, 0, 1, 1, 0, 0, 1, 1, 1, 1, 0] (bodyOf Try.prog 5)
def f5a65 : Ann := subAnn [1, 1, 1, 1, 1, 0, 1, 0, 0, 1, 1, 0, 0, 1, 1, 1, 1, 0] ann5
noncomputable def f5c66 : Code := subCode [1, 1, 1, 1, 1, 0, 1, 0, 0, 1, 1, 0, 0, 1, 1, 1, 1, 1] (bodyOf Try.prog 5)
def f5a66 : Ann := subAnn [1, 1, 1, 1, 1, 0, 1, 0, 0, 1, 1, 0, 0, 1, 1, 1, 1, 1] ann5
noncomputable def f5c67 : Code := subCode [1, 1, 1, 1, 1, 0, 1, 0, 0, 1, 1, 0, 0, 1, 1, 1, 1, 1, 0] (bodyOf Try.prog 5)
def f5a67 : Ann := subAnn [1, 1, 1, 1, 1, 0, 1, 0, 0, 1, 1, 0, 0, 1, 1, 1, 1, 1, 0] ann5
noncomputable def f5c68 : Code := subCode [1, 1, 1, 1, 1, 0, 1, 0, 0, 1, 1, 0, 0, 1, 1, 1, 1, 1, 1] (bodyOf Try.prog 5)
def f5a68 : Ann := subAnn [1, 1, 1, 1, 1, 0, 1, 0, 0, 1, 1, 0, 0, 1, 1, 1, 1, 1, 1] ann5
noncomputable def f5c69 : Code := subCode [1, 1, 1, 1, 1, 0, 1, 0, 0, 1, 1, 0, 0, 1, 1, 1, 1, 1, 0, 0] (bodyOf Try.prog 5)
def f5a69 : Ann := subAnn [1, 1, 1, 1, 1, 0, 1, 0, 0, 1, 1, 0, 0, 1, 1, 1, 1, 1, 0, 0] ann5
noncomputable def f5c70 : Code := subCode [1, 1, 1, 1, 1, 0, 1, 0, 0, 1, 1, 0, 0, 1, 1, 1, 1, 1, 0, 1] (bodyOf Try.prog 5)
def f5a70 : Ann := subAnn [1, 1, 1, 1, 1, 0, 1, 0, 0, 1, 1, 0, 0, 1, 1, 1, 1, 1, 0, 1] ann5
noncomputable def f5c71 : Code := subCode [1, 1, 1, 1, 1, 1, 0] (bodyOf Try.prog 5)
def f5a71 : Ann := subAnn [1, 1, 1, 1, 1, 1, 0] ann5
noncomputable def f5c72 : Code := subCode [1, 1, 1, 1, 1, 1, 1] (bodyOf Try.prog 5)
def f5a72 : Ann := subAnn [1, 1, 1, 1, 1, 1, 1] ann5
noncomputable def f5L19 {R : Type} (call : CallF R) (N : Nat) : KF R → Env → St → Option R := fun K e σ => runK Try.prog call N f5c20 f5a20 K e σ
noncomputable def f5L40 {R : Type} (call : CallF R) (N : Nat) : KF R → Env → St → Option R := fun K e σ => runK Try.prog call N f5c41 f5a41 K e σ
def f5e0 (y0 : Int) (y1 : Int) (y2 : Option (Nat × Nat)) (y3 : Nat) (y4 : Option Nat) : Env := AV.int IntKind.i64 y0 :: AV.int IntKind.i64 y1 :: AV.slice y2 y3 y4 (6 : Nat) :: Env.sp 109 []
def f5e1 (y0 : Int) (y1 : Int) (y2 : Option (Nat × Nat)) (y3 : Nat) (y4 : Option Nat) (y5 : Bool) : Env := AV.int IntKind.i64 y0 :: AV.int IntKind.i64 y1 :: AV.slice y2 y3 y4 (6 : Nat) :: Env.sp 3 (AV.bool y5 :: Env.sp 105 [])
def f5e2 (y0 : Int) (y1 : Int) (y2 : Option (Nat × Nat)) (y3 : Nat) (y4 : Option Nat) (y5 : Option (Nat × Nat)) (y6 : Option (Nat × Nat)) : Env := AV.int IntKind.i64 y0 :: AV.int IntKind.i64 y1 :: AV.slice y2 y3 y4 (6 : Nat) :: Env.sp 4 (AV.ptr y5 :: Env.sp 8 (AV.ptr y6 :: Env.sp 95 []))
def f5e3 (y0 : Int) (y1 : Int) (y2 : Option (Nat × Nat)) (y3 : Nat) (y4 : Option Nat) (y5 : Option (Nat × Nat)) : Env := AV.int IntKind.i64 y0 :: AV.int IntKind.i64 y1 :: AV.slice y2 y3 y4 (6 : Nat) :: Env.sp 4 (AV.ptr y5 :: Env.sp 104 [])
def f5e4 (y0 : Int) (y1 : Int) (y2 : Option (Nat × Nat)) (y3 : Nat) (y4 : Option Nat) (y5 : Option (Nat × Nat)) (y6 : Option (Nat × Nat)) (y7 : Bool) (y8 : Bool) (y9 : Bool) : Env := AV.int IntKind.i64 y0 :: AV.int IntKind.i64 y1 :: AV.slice y2 y3 y4 (6 : Nat) :: Env.sp 4 (AV.ptr y5 :: Env.sp 9 (AV.ptr y6 :: AV.bool y7 :: AV.bool y8 :: AV.tuple [] :: AV.tuple [] :: AV.tuple [] :: AV.bool y9 :: Env.sp 88 []))
def f5e5 (y0 : Int) (y1 : Int) (y2 : Option (Nat × Nat)) (y3 : Nat) (y4 : Option Nat) (y5 : Option (Nat × Nat)) (y6 : Option (Nat × Nat)) (y7 : Bool) (y8 : Bool) (y9 : Option (Nat × Nat)) (y10 : Nat) (y11 : Option Nat) (y12 : Int) (y13 : Bool) (y14 : Bool) : Env := AV.int IntKind.i64 y0 :: AV.int IntKind.i64 y1 :: AV.slice y2 y3 y4 (6 : Nat) :: Env.sp 4 (AV.ptr y5 :: Env.sp 9 (AV.ptr y6 :: AV.bool y7 :: AV.bool y8 :: AV.slice y9 y10 y11 (6 : Nat) :: AV.int IntKind.i64 y12 :: AV.bool y13 :: AV.bool y14 :: Env.sp 88 []))
def f5e6 (y0 : Int) (y1 : Int) (y2 : Option (Nat × Nat)) (y3 : Nat) (y4 : Option Nat) (y5 : Option (Nat × Nat)) (y6 : Bool) : Env := AV.int IntKind.i64 y0 :: AV.int IntKind.i64 y1 :: AV.slice y2 y3 y4 (6 : Nat) :: Env.sp 4 (AV.ptr y5 :: Env.sp 15 (AV.bool y6 :: Env.sp 88 []))
def f5e7 (y0 : Int) (y1 : Int) (y2 : Option (Nat × Nat)) (y3 : Nat) (y4 : Option Nat) (y5 : Bool) (y6 : Option (Nat × Nat)) (y7 : Bool) (y8 : Option (Nat × Nat)) (y9 : Bool) (y10 : Bool) (y11 : Bool) (y12 : Bool) : Env := AV.int IntKind.i64 y0 :: AV.int IntKind.i64 y1 :: AV.slice y2 y3 y4 (6 : Nat) :: Env.sp 3 (AV.bool y5 :: AV.ptr y6 :: Env.sp 15 (AV.bool y7 :: AV.ptr y8 :: AV.bool y9 :: AV.bool y10 :: AV.bool y11 :: AV.bool y12 :: Env.sp 83 []))
def f5e8 (y0 : Int) (y1 : Int) (y2 : Option (Nat × Nat)) (y3 : Nat) (y4 : Option Nat) (y5 : Bool) (y6 : Option (Nat × Nat)) (y7 : Bool) (y8 : Option (Nat × Nat)) (y9 : Bool) (y10 : Bool) (y11 : Bool) : Env := AV.int IntKind.i64 y0 :: AV.int IntKind.i64 y1 :: AV.slice y2 y3 y4 (6 : Nat) :: Env.sp 3 (AV.bool y5 :: AV.ptr y6 :: Env.sp 15 (AV.bool y7 :: AV.ptr y8 :: AV.bool y9 :: AV.bool y10 :: AV.tuple [] :: AV.bool y11 :: Env.sp 83 []))
def f5e9 (y0 : Bool) : Env := Env.sp 6 (AV.bool y0 :: Env.sp 105 [])
def f5e10 (y0 : Int) (y1 : Int) (y2 : Option (Nat × Nat)) (y3 : Nat) (y4 : Option Nat) (y5 : Option (Nat × Nat)) (y6 : Option (Nat × Nat)) (y7 : Nat) (y8 : Option Nat) : Env := AV.int IntKind.i64 y0 :: AV.int IntKind.i64 y1 :: AV.slice y2 y3 y4 (6 : Nat) :: Env.sp 4 (AV.ptr y5 :: AV.slice y6 y7 y8 (1 : Nat) :: Env.sp 103 [])
def f5e11 (y0 : Int) (y1 : Int) (y2 : Option (Nat × Nat)) (y3 : Nat) (y4 : Option Nat) (y5 : Option (Nat × Nat)) (y6 : Option (Nat × Nat)) (y7 : Nat) (y8 : Option Nat) (y9 : Option (Nat × Nat)) (y10 : Nat) (y11 : Option Nat) (y12 : Int) (y13 : Int) : Env := AV.int IntKind.i64 y0 :: AV.int IntKind.i64 y1 :: AV.slice y2 y3 y4 (6 : Nat) :: Env.sp 4 (AV.ptr y5 :: AV.slice y6 y7 y8 (1 : Nat) :: Env.sp 20 (AV.slice y9 y10 y11 (6 : Nat) :: AV.int IntKind.i64 y12 :: AV.int IntKind.i64 y13 :: Env.sp 80 []))
def f5e12 (y0 : Int) (y1 : Int) (y2 : Option (Nat × Nat)) (y3 : Option (Nat × Nat)) (y4 : Nat) (y5 : Option Nat) (y6 : Option (Nat × Nat)) (y7 : Nat) (y8 : Option Nat) (y9 : Int) (y10 : Int) : Env := AV.int IntKind.i64 y0 :: AV.int IntKind.i64 y1 :: Env.sp 5 (AV.ptr y2 :: AV.slice y3 y4 y5 (1 : Nat) :: Env.sp 20 (AV.slice y6 y7 y8 (6 : Nat) :: AV.int IntKind.i64 y9 :: AV.int IntKind.i64 y10 :: Env.sp 80 []))
def f5e13 (y0 : Int) (y1 : Int) (y2 : Option (Nat × Nat)) (y3 : Option (Nat × Nat)) (y4 : Nat) (y5 : Option Nat) (y6 : Option (Nat × Nat)) (y7 : Nat) (y8 : Option Nat) (y9 : Int) (y10 : Int) (y11 : Bool) : Env := AV.int IntKind.i64 y0 :: AV.int IntKind.i64 y1 :: Env.sp 5 (AV.ptr y2 :: AV.slice y3 y4 y5 (1 : Nat) :: Env.sp 20 (AV.slice y6 y7 y8 (6 : Nat) :: AV.int IntKind.i64 y9 :: AV.int IntKind.i64 y10 :: AV.bool y11 :: Env.sp 79 []))
def f5e14 (y0 : Int) (y1 : Int) (y2 : Option (Nat × Nat)) (y3 : Option (Nat × Nat)) (y4 : Nat) (y5 : Option Nat) : Env := AV.int IntKind.i64 y0 :: AV.int IntKind.i64 y1 :: Env.sp 5 (AV.ptr y2 :: AV.slice y3 y4 y5 (1 : Nat) :: Env.sp 103 [])
def f5e15 (y0 : Int) (y1 : Int) (y2 : Option (Nat × Nat)) (y3 : Option (Nat × Nat)) (y4 : Nat) (y5 : Option Nat) (y6 : Nat) (y7 : Option (Nat × Nat)) (y8 : Nat) (y9 : Option Nat) (y10 : Int) (y11 : Int) (y12 : Option (Nat × Nat)) (y13 : Int) (y14 : Int) (y15 : Int) (y16 : Int) (y17 : Int) (y18 : ByteArray) : Env := AV.int IntKind.i64 y0 :: AV.int IntKind.i64 y1 :: Env.sp 5 (AV.ptr y2 :: AV.slice y3 y4 y5 (1 : Nat) :: Env.sp 1 (AV.ptr (some (y6, (0 : Nat))) :: Env.sp 18 (AV.slice y7 y8 y9 (6 : Nat) :: AV.int IntKind.i64 y10 :: AV.int IntKind.i64 y11 :: Env.sp 1 (AV.ptr y12 :: AV.agg [AV.int IntKind.i64 y13, AV.int IntKind.i64 y14, AV.int IntKind.i64 y15, AV.int IntKind.i64 y16, AV.int IntKind.i64 y17, AV.str y18] :: Env.sp 77 []))))
def f5e16 (y0 : Int) (y1 : Int) (y2 : Option (Nat × Nat)) (y3 : Option (Nat × Nat)) (y4 : Nat) (y5 : Option Nat) (y6 : Nat) (y7 : Option (Nat × Nat)) (y8 : Nat) (y9 : Option Nat) (y10 : Int) (y11 : Int) : Env := AV.int IntKind.i64 y0 :: AV.int IntKind.i64 y1 :: Env.sp 5 (AV.ptr y2 :: AV.slice y3 y4 y5 (1 : Nat) :: Env.sp 1 (AV.ptr (some (y6, (0 : Nat))) :: Env.sp 18 (AV.slice y7 y8 y9 (6 : Nat) :: AV.int IntKind.i64 y10 :: AV.int IntKind.i64 y11 :: Env.sp 80 [])))
def f5e17 (y0 : Int) (y1 : Int) (y2 : Option (Nat × Nat)) (y3 : Option (Nat × Nat)) (y4 : Nat) (y5 : Option Nat) (y6 : Nat) (y7 : Option (Nat × Nat)) (y8 : Nat) (y9 : Option Nat) (y10 : Int) (y11 : Int) (y12 : Option (Nat × Nat)) (y13 : Nat) (y14 : Int) (y15 : Int) (y16 : Int) (y17 : ByteArray) (y18 : Int) (y19 : Bool) (y20 : Bool) (y21 : Nat) (y22 : Nat) (y23 : Int) (y24 : Int) (y25 : Bool) (y26 : Bool) (y27 : Bool) (y28 : Nat) (y29 : Nat) (y30 : Int) (y31 : Int) (y32 : Bool) (y33 : Bool) : Env := AV.int IntKind.i64 y0 :: AV.int IntKind.i64 y1 :: Env.sp 5 (AV.ptr y2 :: AV.slice y3 y4 y5 (1 : Nat) :: Env.sp 1 (AV.ptr (some (y6, (0 : Nat))) :: Env.sp 18 (AV.slice y7 y8 y9 (6 : Nat) :: AV.int IntKind.i64 y10 :: AV.int IntKind.i64 y11 :: Env.sp 3 (AV.ptr y12 :: AV.ptr (some (y13, (2 : Nat))) :: AV.agg [AV.int IntKind.i64 y14, AV.int IntKind.i64 y15, AV.int IntKind.i64 y16, AV.str y17] :: AV.int IntKind.i64 y18 :: AV.bool y19 :: AV.bool y20 :: AV.ptr (some (y21, (2 : Nat))) :: AV.ptr (some (y22, (2 : Nat))) :: AV.int IntKind.i64 y23 :: AV.int IntKind.i64 y24 :: AV.bool y25 :: AV.bool y26 :: AV.bool y27 :: AV.ptr (some (y28, (2 : Nat))) :: AV.ptr (some (y29, (3 : Nat))) :: AV.int IntKind.i64 y30 :: AV.int IntKind.i64 y31 :: AV.bool y32 :: AV.bool y33 :: Env.sp 58 []))))
def f5e18 (y0 : Int) (y1 : Int) (y2 : Option (Nat × Nat)) (y3 : Option (Nat × Nat)) (y4 : Nat) (y5 : Option Nat) (y6 : Nat) (y7 : Option (Nat × Nat)) (y8 : Nat) (y9 : Option Nat) (y10 : Int) (y11 : Int) (y12 : Option (Nat × Nat)) (y13 : Nat) (y14 : Int) (y15 : Int) (y16 : Int) (y17 : ByteArray) (y18 : Int) (y19 : Bool) (y20 : Bool) (y21 : Nat) (y22 : Nat) (y23 : Int) (y24 : Int) (y25 : Bool) (y26 : Bool) (y27 : Bool) (y28 : Bool) : Env := AV.int IntKind.i64 y0 :: AV.int IntKind.i64 y1 :: Env.sp 5 (AV.ptr y2 :: AV.slice y3 y4 y5 (1 : Nat) :: Env.sp 1 (AV.ptr (some (y6, (0 : Nat))) :: Env.sp 18 (AV.slice y7 y8 y9 (6 : Nat) :: AV.int IntKind.i64 y10 :: AV.int IntKind.i64 y11 :: Env.sp 3 (AV.ptr y12 :: AV.ptr (some (y13, (2 : Nat))) :: AV.agg [AV.int IntKind.i64 y14, AV.int IntKind.i64 y15, AV.int IntKind.i64 y16, AV.str y17] :: AV.int IntKind.i64 y18 :: AV.bool y19 :: AV.bool y20 :: AV.ptr (some (y21, (2 : Nat))) :: AV.ptr (some (y22, (2 : Nat))) :: AV.int IntKind.i64 y23 :: AV.int IntKind.i64 y24 :: AV.bool y25 :: AV.bool y26 :: AV.bool y27 :: AV.tuple [] :: AV.tuple [] :: AV.tuple [] :: AV.tuple [] :: AV.tuple [] :: AV.bool y28 :: Env.sp 58 []))))
def f5e19 (y0 : Int) (y1 : Int) (y2 : Option (Nat × Nat)) (y3 : Option (Nat × Nat)) (y4 : Nat) (y5 : Option Nat) (y6 : Nat) (y7 : Option (Nat × Nat)) (y8 : Nat) (y9 : Option Nat) (y10 : Int) (y11 : Int) (y12 : Option (Nat × Nat)) (y13 : Nat) (y14 : Int) (y15 : Int) (y16 : Int) (y17 : ByteArray) (y18 : Int) (y19 : Bool) (y20 : Bool) (y21 : Bool) (y22 : Bool) (y23 : Bool) : Env := AV.int IntKind.i64 y0 :: AV.int IntKind.i64 y1 :: Env.sp 5 (AV.ptr y2 :: AV.slice y3 y4 y5 (1 : Nat) :: Env.sp 1 (AV.ptr (some (y6, (0 : Nat))) :: Env.sp 18 (AV.slice y7 y8 y9 (6 : Nat) :: AV.int IntKind.i64 y10 :: AV.int IntKind.i64 y11 :: Env.sp 3 (AV.ptr y12 :: AV.ptr (some (y13, (2 : Nat))) :: AV.agg [AV.int IntKind.i64 y14, AV.int IntKind.i64 y15, AV.int IntKind.i64 y16, AV.str y17] :: AV.int IntKind.i64 y18 :: AV.bool y19 :: AV.bool y20 :: AV.tuple [] :: AV.tuple [] :: AV.tuple [] :: AV.tuple [] :: AV.tuple [] :: AV.bool y21 :: AV.bool y22 :: AV.tuple [] :: AV.tuple [] :: AV.tuple [] :: AV.tuple [] :: AV.tuple [] :: AV.bool y23 :: Env.sp 58 []))))
def f5e20 (y0 : Int) (y1 : Int) (y2 : Option (Nat × Nat)) (y3 : Option (Nat × Nat)) (y4 : Nat) (y5 : Option Nat) (y6 : Nat) (y7 : Option (Nat × Nat)) (y8 : Nat) (y9 : Option Nat) (y10 : Int) (y11 : Int) (y12 : Bool) : Env := AV.int IntKind.i64 y0 :: AV.int IntKind.i64 y1 :: Env.sp 5 (AV.ptr y2 :: AV.slice y3 y4 y5 (1 : Nat) :: Env.sp 1 (AV.ptr (some (y6, (0 : Nat))) :: Env.sp 18 (AV.slice y7 y8 y9 (6 : Nat) :: AV.int IntKind.i64 y10 :: AV.int IntKind.i64 y11 :: Env.sp 21 (AV.bool y12 :: Env.sp 58 []))))
def f5e21 (y0 : Int) (y1 : Int) (y2 : Option (Nat × Nat)) (y3 : Option (Nat × Nat)) (y4 : Nat) (y5 : Option Nat) (y6 : Nat) (y7 : Option (Nat × Nat)) (y8 : Nat) (y9 : Option Nat) (y10 : Int) (y11 : Int) (y12 : Bool) (y13 : Option (Nat × Nat)) (y14 : Nat) (y15 : Option Nat) (y16 : Nat) (y17 : Nat) (y18 : ByteArray) (y19 : Option (Nat × Nat)) (y20 : Nat) (y21 : Option Nat) (y22 : Option (Nat × Nat)) (y23 : Nat) (y24 : Option Nat) : Env := AV.int IntKind.i64 y0 :: AV.int IntKind.i64 y1 :: Env.sp 5 (AV.ptr y2 :: AV.slice y3 y4 y5 (1 : Nat) :: Env.sp 1 (AV.ptr (some (y6, (0 : Nat))) :: Env.sp 18 (AV.slice y7 y8 y9 (6 : Nat) :: AV.int IntKind.i64 y10 :: AV.int IntKind.i64 y11 :: Env.sp 21 (AV.bool y12 :: AV.slice y13 y14 y15 (1 : Nat) :: AV.ptr (some (y16, (2 : Nat))) :: AV.ptr (some (y17, (5 : Nat))) :: AV.str y18 :: AV.slice y19 y20 y21 (1 : Nat) :: AV.slice y22 y23 y24 (1 : Nat) :: Env.sp 52 []))))
def f5e22 (y0 : Int) (y1 : Int) (y2 : Option (Nat × Nat)) (y3 : Option (Nat × Nat)) (y4 : Nat) (y5 : Option Nat) (y6 : Option (Nat × Nat)) (y7 : Nat) (y8 : Option Nat) (y9 : Int) (y10 : Int) (y11 : Int) : Env := AV.int IntKind.i64 y0 :: AV.int IntKind.i64 y1 :: Env.sp 5 (AV.ptr y2 :: AV.slice y3 y4 y5 (1 : Nat) :: Env.sp 20 (AV.slice y6 y7 y8 (6 : Nat) :: AV.int IntKind.i64 y9 :: AV.int IntKind.i64 y10 :: Env.sp 28 (AV.int IntKind.i64 y11 :: Env.sp 51 [])))
def f5e23 (y0 : Int) (y1 : Int) (y2 : Option (Nat × Nat)) (y3 : Option (Nat × Nat)) (y4 : Nat) (y5 : Option Nat) (y6 : Option (Nat × Nat)) (y7 : Nat) (y8 : Option Nat) (y9 : Int) (y10 : Int) : Env := AV.int IntKind.i64 y0 :: AV.int IntKind.i64 y1 :: Env.sp 5 (AV.ptr y2 :: AV.slice y3 y4 y5 (1 : Nat) :: Env.sp 52 (AV.slice y6 y7 y8 (1 : Nat) :: AV.int IntKind.i64 y9 :: AV.int IntKind.i64 y10 :: Env.sp 48 []))
def f5e24 (y0 : Int) (y1 : Int) (y2 : Option (Nat × Nat)) (y3 : Option (Nat × Nat)) (y4 : Nat) (y5 : Option Nat) (y6 : Int) (y7 : Int) : Env := AV.int IntKind.i64 y0 :: AV.int IntKind.i64 y1 :: Env.sp 5 (AV.ptr y2 :: Env.sp 53 (AV.slice y3 y4 y5 (1 : Nat) :: AV.int IntKind.i64 y6 :: AV.int IntKind.i64 y7 :: Env.sp 48 []))
def f5e25 (y0 : Int) (y1 : Int) (y2 : Option (Nat × Nat)) (y3 : Option (Nat × Nat)) (y4 : Nat) (y5 : Option Nat) (y6 : Int) (y7 : Int) (y8 : Bool) : Env := AV.int IntKind.i64 y0 :: AV.int IntKind.i64 y1 :: Env.sp 5 (AV.ptr y2 :: Env.sp 53 (AV.slice y3 y4 y5 (1 : Nat) :: AV.int IntKind.i64 y6 :: AV.int IntKind.i64 y7 :: AV.bool y8 :: Env.sp 47 []))
def f5e26 (y0 : Int) (y1 : Int) (y2 : Option (Nat × Nat)) : Env := AV.int IntKind.i64 y0 :: AV.int IntKind.i64 y1 :: Env.sp 5 (AV.ptr y2 :: Env.sp 104 [])
def f5e27 (y0 : Int) (y1 : Int) (y2 : Option (Nat × Nat)) (y3 : ByteArray) (y4 : Option (Nat × Nat)) (y5 : Nat) (y6 : Option Nat) (y7 : Int) (y8 : Int) (y9 : Option (Nat × Nat)) (y10 : ByteArray) : Env := AV.int IntKind.i64 y0 :: AV.int IntKind.i64 y1 :: Env.sp 5 (AV.ptr y2 :: Env.sp 4 (AV.str y3 :: Env.sp 48 (AV.slice y4 y5 y6 (1 : Nat) :: AV.int IntKind.i64 y7 :: AV.int IntKind.i64 y8 :: Env.sp 1 (AV.ptr y9 :: AV.str y10 :: Env.sp 45 []))))
def f5e28 (y0 : Int) (y1 : Int) (y2 : Option (Nat × Nat)) (y3 : ByteArray) (y4 : Option (Nat × Nat)) (y5 : Nat) (y6 : Option Nat) (y7 : Int) (y8 : Int) : Env := AV.int IntKind.i64 y0 :: AV.int IntKind.i64 y1 :: Env.sp 5 (AV.ptr y2 :: Env.sp 4 (AV.str y3 :: Env.sp 48 (AV.slice y4 y5 y6 (1 : Nat) :: AV.int IntKind.i64 y7 :: AV.int IntKind.i64 y8 :: Env.sp 48 [])))
def f5e29 (y0 : Int) (y1 : Int) (y2 : Option (Nat × Nat)) (y3 : ByteArray) (y4 : Option (Nat × Nat)) (y5 : Nat) (y6 : Option Nat) (y7 : Option (Nat × Nat)) (y8 : Nat) (y9 : Option Nat) (y10 : Int) (y11 : Int) (y12 : Option (Nat × Nat)) (y13 : Int) (y14 : Int) (y15 : Option (Nat × Nat)) (y16 : Nat) (y17 : Option Nat) : Env := AV.int IntKind.i64 y0 :: AV.int IntKind.i64 y1 :: Env.sp 5 (AV.ptr y2 :: Env.sp 4 (AV.str y3 :: AV.slice y4 y5 y6 (1 : Nat) :: Env.sp 47 (AV.slice y7 y8 y9 (1 : Nat) :: AV.int IntKind.i64 y10 :: AV.int IntKind.i64 y11 :: Env.sp 3 (AV.ptr y12 :: AV.int IntKind.i64 y13 :: AV.int IntKind.i64 y14 :: AV.slice y15 y16 y17 (1 : Nat) :: Env.sp 41 []))))
def f5e30 (y0 : Int) (y1 : Int) (y2 : Option (Nat × Nat)) (y3 : ByteArray) (y4 : Option (Nat × Nat)) (y5 : Nat) (y6 : Option Nat) (y7 : Option (Nat × Nat)) (y8 : Nat) (y9 : Option Nat) (y10 : Int) (y11 : Int) : Env := AV.int IntKind.i64 y0 :: AV.int IntKind.i64 y1 :: Env.sp 5 (AV.ptr y2 :: Env.sp 4 (AV.str y3 :: AV.slice y4 y5 y6 (1 : Nat) :: Env.sp 47 (AV.slice y7 y8 y9 (1 : Nat) :: AV.int IntKind.i64 y10 :: AV.int IntKind.i64 y11 :: Env.sp 48 [])))
def f5e31 (y0 : Int) (y1 : Int) (y2 : Option (Nat × Nat)) (y3 : ByteArray) (y4 : Option (Nat × Nat)) (y5 : Nat) (y6 : Option Nat) (y7 : Option (Nat × Nat)) (y8 : Nat) (y9 : Option Nat) (y10 : Int) (y11 : Int) (y12 : Option (Nat × Nat)) (y13 : Nat) (y14 : Option Nat) (y15 : Int) (y16 : Bool) : Env := AV.int IntKind.i64 y0 :: AV.int IntKind.i64 y1 :: Env.sp 5 (AV.ptr y2 :: Env.sp 4 (AV.str y3 :: AV.slice y4 y5 y6 (1 : Nat) :: Env.sp 47 (AV.slice y7 y8 y9 (1 : Nat) :: AV.int IntKind.i64 y10 :: AV.int IntKind.i64 y11 :: Env.sp 7 (AV.slice y12 y13 y14 (1 : Nat) :: AV.int IntKind.i64 y15 :: AV.bool y16 :: Env.sp 38 []))))
def f5e32 (y0 : Int) (y1 : Int) (y2 : Option (Nat × Nat)) (y3 : ByteArray) (y4 : Option (Nat × Nat)) (y5 : Nat) (y6 : Option Nat) (y7 : Option (Nat × Nat)) (y8 : Nat) (y9 : Option Nat) (y10 : Int) (y11 : Int) (y12 : Bool) : Env := AV.int IntKind.i64 y0 :: AV.int IntKind.i64 y1 :: Env.sp 5 (AV.ptr y2 :: Env.sp 4 (AV.str y3 :: AV.slice y4 y5 y6 (1 : Nat) :: Env.sp 47 (AV.slice y7 y8 y9 (1 : Nat) :: AV.int IntKind.i64 y10 :: AV.int IntKind.i64 y11 :: Env.sp 9 (AV.bool y12 :: Env.sp 38 []))))
def f5e33 (y0 : Int) (y1 : Int) (y2 : Bool) (y3 : Option (Nat × Nat)) (y4 : ByteArray) (y5 : Option (Nat × Nat)) (y6 : Nat) (y7 : Option Nat) (y8 : Option (Nat × Nat)) (y9 : Nat) (y10 : Option Nat) (y11 : Int) (y12 : Int) (y13 : Bool) : Env := AV.int IntKind.i64 y0 :: AV.int IntKind.i64 y1 :: Env.sp 4 (AV.bool y2 :: AV.ptr y3 :: Env.sp 4 (AV.str y4 :: AV.slice y5 y6 y7 (1 : Nat) :: Env.sp 47 (AV.slice y8 y9 y10 (1 : Nat) :: AV.int IntKind.i64 y11 :: AV.int IntKind.i64 y12 :: Env.sp 9 (AV.bool y13 :: Env.sp 38 []))))
def f5e34 (y0 : Int) (y1 : Int) (y2 : Option (Nat × Nat)) (y3 : ByteArray) (y4 : Option (Nat × Nat)) (y5 : Nat) (y6 : Option Nat) (y7 : Nat) (y8 : Int) (y9 : Option (Nat × Nat)) (y10 : Nat) (y11 : Option Nat) (y12 : Int) (y13 : Int) (y14 : Int) (y15 : Int) (y16 : Int) (y17 : ByteArray) (y18 : Int) (y19 : Option (Nat × Nat)) (y20 : Option (Nat × Nat)) (y21 : Nat) (y22 : Option Nat) (y23 : Option (Nat × Nat)) (y24 : Int) (y25 : Int) (y26 : Int) (y27 : Int) (y28 : ByteArray) (y29 : Int) (y30 : Int) (y31 : Int) (y32 : Int) (y33 : ByteArray) (y34 : Int) : Env := AV.int IntKind.i64 y0 :: AV.int IntKind.i64 y1 :: Env.sp 5 (AV.ptr y2 :: Env.sp 4 (AV.str y3 :: AV.slice y4 y5 y6 (1 : Nat) :: AV.ptr (some (y7, (0 : Nat))) :: AV.int IntKind.i64 y8 :: Env.sp 45 (AV.slice y9 y10 y11 (1 : Nat) :: AV.int IntKind.i64 y12 :: AV.int IntKind.i64 y13 :: Env.sp 10 (AV.tuple [AV.agg [AV.int IntKind.i64 y14, AV.int IntKind.i64 y15, AV.int IntKind.i64 y16, AV.str y17], AV.int IntKind.i64 y18] :: AV.ptr y19 :: AV.slice y20 y21 y22 (1 : Nat) :: AV.ptr y23 :: AV.int IntKind.i64 y24 :: AV.tuple [AV.agg [AV.int IntKind.i64 y25, AV.int IntKind.i64 y26, AV.int IntKind.i64 y27, AV.str y28], AV.int IntKind.i64 y29] :: AV.agg [AV.int IntKind.i64 y30, AV.int IntKind.i64 y31, AV.int IntKind.i64 y32, AV.str y33] :: AV.int IntKind.i64 y34 :: Env.sp 30 []))))
def f5e35 (y0 : Int) (y1 : Int) (y2 : Option (Nat × Nat)) (y3 : ByteArray) (y4 : Nat) (y5 : Int) (y6 : Option (Nat × Nat)) (y7 : Nat) (y8 : Option Nat) (y9 : Int) (y10 : Int) : Env := AV.int IntKind.i64 y0 :: AV.int IntKind.i64 y1 :: Env.sp 5 (AV.ptr y2 :: Env.sp 4 (AV.str y3 :: Env.sp 1 (AV.ptr (some (y4, (0 : Nat))) :: AV.int IntKind.i64 y5 :: Env.sp 45 (AV.slice y6 y7 y8 (1 : Nat) :: AV.int IntKind.i64 y9 :: AV.int IntKind.i64 y10 :: Env.sp 48 []))))
def f5e36 (y0 : Int) (y1 : Int) (y2 : Option (Nat × Nat)) (y3 : ByteArray) (y4 : Nat) (y5 : Int) (y6 : Option (Nat × Nat)) (y7 : Nat) (y8 : Option Nat) (y9 : Int) (y10 : Int) (y11 : Int) (y12 : Bool) (y13 : Bool) (y14 : Bool) (y15 : Bool) (y16 : Bool) (y17 : Bool) (y18 : Bool) : Env := AV.int IntKind.i64 y0 :: AV.int IntKind.i64 y1 :: Env.sp 5 (AV.ptr y2 :: Env.sp 4 (AV.str y3 :: Env.sp 1 (AV.ptr (some (y4, (0 : Nat))) :: AV.int IntKind.i64 y5 :: Env.sp 45 (AV.slice y6 y7 y8 (1 : Nat) :: AV.int IntKind.i64 y9 :: AV.int IntKind.i64 y10 :: Env.sp 18 (AV.int IntKind.i64 y11 :: AV.bool y12 :: AV.bool y13 :: AV.tuple [] :: AV.tuple [] :: AV.tuple [] :: AV.tuple [] :: AV.bool y14 :: AV.bool y15 :: AV.tuple [] :: AV.tuple [] :: AV.tuple [] :: AV.tuple [] :: AV.bool y16 :: AV.bool y17 :: AV.tuple [] :: AV.tuple [] :: AV.tuple [] :: AV.tuple [] :: AV.bool y18 :: Env.sp 10 [])))))
def f5e37 (y0 : Int) (y1 : Int) (y2 : Option (Nat × Nat)) (y3 : ByteArray) (y4 : Nat) (y5 : Int) (y6 : Option (Nat × Nat)) (y7 : Nat) (y8 : Option Nat) (y9 : Int) (y10 : Int) (y11 : Int) (y12 : Bool) (y13 : Bool) (y14 : Nat) (y15 : ByteArray) (y16 : ByteArray) (y17 : Bool) (y18 : Bool) (y19 : Bool) (y20 : Bool) (y21 : Bool) (y22 : Bool) : Env := AV.int IntKind.i64 y0 :: AV.int IntKind.i64 y1 :: Env.sp 5 (AV.ptr y2 :: Env.sp 4 (AV.str y3 :: Env.sp 1 (AV.ptr (some (y4, (0 : Nat))) :: AV.int IntKind.i64 y5 :: Env.sp 45 (AV.slice y6 y7 y8 (1 : Nat) :: AV.int IntKind.i64 y9 :: AV.int IntKind.i64 y10 :: Env.sp 18 (AV.int IntKind.i64 y11 :: AV.bool y12 :: AV.bool y13 :: AV.ptr (some (y14, (3 : Nat))) :: AV.str y15 :: AV.str y16 :: AV.bool y17 :: AV.bool y18 :: AV.bool y19 :: AV.tuple [] :: AV.tuple [] :: AV.tuple [] :: AV.tuple [] :: AV.bool y20 :: AV.bool y21 :: AV.tuple [] :: AV.tuple [] :: AV.tuple [] :: AV.tuple [] :: AV.bool y22 :: Env.sp 10 [])))))
def f5e38 (y0 : Int) (y1 : Int) (y2 : Option (Nat × Nat)) (y3 : ByteArray) (y4 : Nat) (y5 : Int) (y6 : Option (Nat × Nat)) (y7 : Nat) (y8 : Option Nat) (y9 : Int) (y10 : Int) (y11 : Int) (y12 : Bool) (y13 : Bool) (y14 : Nat) (y15 : ByteArray) (y16 : ByteArray) (y17 : Bool) (y18 : Bool) (y19 : Bool) (y20 : Nat) (y21 : Int) (y22 : Int) (y23 : Bool) (y24 : Bool) (y25 : Bool) (y26 : Bool) : Env := AV.int IntKind.i64 y0 :: AV.int IntKind.i64 y1 :: Env.sp 5 (AV.ptr y2 :: Env.sp 4 (AV.str y3 :: Env.sp 1 (AV.ptr (some (y4, (0 : Nat))) :: AV.int IntKind.i64 y5 :: Env.sp 45 (AV.slice y6 y7 y8 (1 : Nat) :: AV.int IntKind.i64 y9 :: AV.int IntKind.i64 y10 :: Env.sp 18 (AV.int IntKind.i64 y11 :: AV.bool y12 :: AV.bool y13 :: AV.ptr (some (y14, (3 : Nat))) :: AV.str y15 :: AV.str y16 :: AV.bool y17 :: AV.bool y18 :: AV.bool y19 :: AV.ptr (some (y20, (0 : Nat))) :: AV.int IntKind.i64 y21 :: AV.int IntKind.i64 y22 :: AV.bool y23 :: AV.bool y24 :: AV.bool y25 :: AV.tuple [] :: AV.tuple [] :: AV.tuple [] :: AV.tuple [] :: AV.bool y26 :: Env.sp 10 [])))))
def f5e39 (y0 : Int) (y1 : Int) (y2 : Option (Nat × Nat)) (y3 : ByteArray) (y4 : Nat) (y5 : Int) (y6 : Option (Nat × Nat)) (y7 : Nat) (y8 : Option Nat) (y9 : Int) (y10 : Int) (y11 : Int) (y12 : Bool) (y13 : Bool) (y14 : Nat) (y15 : ByteArray) (y16 : ByteArray) (y17 : Bool) (y18 : Bool) (y19 : Bool) (y20 : Nat) (y21 : Int) (y22 : Int) (y23 : Bool) (y24 : Bool) (y25 : Bool) (y26 : Nat) (y27 : Int) (y28 : Int) (y29 : Bool) (y30 : Bool) : Env := AV.int IntKind.i64 y0 :: AV.int IntKind.i64 y1 :: Env.sp 5 (AV.ptr y2 :: Env.sp 4 (AV.str y3 :: Env.sp 1 (AV.ptr (some (y4, (0 : Nat))) :: AV.int IntKind.i64 y5 :: Env.sp 45 (AV.slice y6 y7 y8 (1 : Nat) :: AV.int IntKind.i64 y9 :: AV.int IntKind.i64 y10 :: Env.sp 18 (AV.int IntKind.i64 y11 :: AV.bool y12 :: AV.bool y13 :: AV.ptr (some (y14, (3 : Nat))) :: AV.str y15 :: AV.str y16 :: AV.bool y17 :: AV.bool y18 :: AV.bool y19 :: AV.ptr (some (y20, (0 : Nat))) :: AV.int IntKind.i64 y21 :: AV.int IntKind.i64 y22 :: AV.bool y23 :: AV.bool y24 :: AV.bool y25 :: AV.ptr (some (y26, (1 : Nat))) :: AV.int IntKind.i64 y27 :: AV.int IntKind.i64 y28 :: AV.bool y29 :: AV.bool y30 :: Env.sp 10 [])))))
def f5e40 (y0 : Int) (y1 : Int) (y2 : Option (Nat × Nat)) (y3 : Option (Nat × Nat)) (y4 : Nat) (y5 : Option Nat) (y6 : Int) (y7 : Int) (y8 : Bool) : Env := AV.int IntKind.i64 y0 :: AV.int IntKind.i64 y1 :: Env.sp 5 (AV.ptr y2 :: Env.sp 53 (AV.slice y3 y4 y5 (1 : Nat) :: AV.int IntKind.i64 y6 :: AV.int IntKind.i64 y7 :: Env.sp 37 (AV.bool y8 :: Env.sp 10 [])))
def f5e41 (y0 : Int) (y1 : Int) (y2 : Bool) (y3 : Option (Nat × Nat)) (y4 : Option (Nat × Nat)) (y5 : Nat) (y6 : Option Nat) (y7 : Int) (y8 : Int) (y9 : Bool) : Env := AV.int IntKind.i64 y0 :: AV.int IntKind.i64 y1 :: Env.sp 4 (AV.bool y2 :: AV.ptr y3 :: Env.sp 53 (AV.slice y4 y5 y6 (1 : Nat) :: AV.int IntKind.i64 y7 :: AV.int IntKind.i64 y8 :: Env.sp 37 (AV.bool y9 :: Env.sp 10 [])))
def f5e42 (y0 : Int) (y1 : Int) (y2 : Option (Nat × Nat)) (y3 : Option (Nat × Nat)) (y4 : Nat) (y5 : Option Nat) (y6 : Int) (y7 : Int) (y8 : Int) : Env := AV.int IntKind.i64 y0 :: AV.int IntKind.i64 y1 :: Env.sp 5 (AV.ptr y2 :: Env.sp 53 (AV.slice y3 y4 y5 (1 : Nat) :: AV.int IntKind.i64 y6 :: AV.int IntKind.i64 y7 :: Env.sp 38 (AV.int IntKind.i64 y8 :: Env.sp 9 [])))
def f5e43 (y0 : Int) (y1 : Int) (y2 : Bool) (y3 : Option (Nat × Nat)) (y4 : Option (Nat × Nat)) (y5 : Int) (y6 : Int) (y7 : Option (Nat × Nat)) (y8 : Nat) (y9 : Option Nat) (y10 : Int) (y11 : Bool) (y12 : Bool) (y13 : Bool) (y14 : Bool) : Env := AV.int IntKind.i64 y0 :: AV.int IntKind.i64 y1 :: Env.sp 4 (AV.bool y2 :: AV.ptr y3 :: Env.sp 95 (AV.ptr y4 :: AV.int IntKind.i64 y5 :: AV.int IntKind.i64 y6 :: AV.slice y7 y8 y9 (1 : Nat) :: AV.int IntKind.i64 y10 :: AV.bool y11 :: AV.bool y12 :: AV.bool y13 :: AV.bool y14 :: []))
def f5e44 (y0 : Int) (y1 : Int) (y2 : Bool) (y3 : Option (Nat × Nat)) (y4 : Option (Nat × Nat)) (y5 : Int) (y6 : Int) (y7 : Option (Nat × Nat)) (y8 : Nat) (y9 : Option Nat) (y10 : Int) (y11 : Bool) (y12 : Bool) (y13 : Bool) : Env := AV.int IntKind.i64 y0 :: AV.int IntKind.i64 y1 :: Env.sp 4 (AV.bool y2 :: AV.ptr y3 :: Env.sp 95 (AV.ptr y4 :: AV.int IntKind.i64 y5 :: AV.int IntKind.i64 y6 :: AV.slice y7 y8 y9 (1 : Nat) :: AV.int IntKind.i64 y10 :: AV.bool y11 :: AV.bool y12 :: AV.tuple [] :: AV.bool y13 :: []))

/- function 5 -/
theorem f5_eq {R : Type} (call : CallF R) (N : Nat) (y0 : Int) (y1 : Int) (y2 : Option (Nat × Nat)) (y3 : Nat) (y4 : Option Nat) (σ : St) (K : AV → St → Option R) :
    bodyK Try.prog call N ann 5 [AV.int IntKind.i64 y0, AV.int IntKind.i64 y1, AV.slice y2 y3 y4 (6 : Nat)] σ K = runK Try.prog call N f5c0 f5a0 (bodyC Try.prog f5rs K) (f5e0 y0 y1 y2 y3 y4) σ := bodyK_of (fn := ((Try.prog.funcs[5]?).get rfl)) (by kernel_rfl) (by kernel_rfl) (by kernel_rfl) (by kernel_rfl) (by kernel_rfl) (by kernel_rfl)
theorem f5n0 {R : Type} (call : CallF R) (N : Nat) (J : KF R) (e : Env) (σ : St) : runK Try.prog call N f5c0 f5a0 J e σ = runK Try.prog call N f5c1 f5a1 (seqC (fun K e σ => runK Try.prog call N f5c2 f5a2 K e σ) f5a0 J) e σ := runK_seq' (by kernel_rfl) (by kernel_rfl) (by kernel_rfl)
theorem f5r1_f5e0 {R : Type} (call : CallF R) (N : Nat) (y0 : Int) (y1 : Int) (y2 : Option (Nat × Nat)) (y3 : Nat) (y4 : Option Nat) (J : KF R) (σ : St) :
    runK Try.prog call N f5c1 f5a1 J (f5e0 y0 y1 y2 y3 y4) σ =
J Ex.normal (f5e1 y0 y1 y2 y3 y4 false) σ := hide (by kernel_rfl)
theorem f5z0_f5e1 (y0 : Int) (y1 : Int) (y2 : Option (Nat × Nat)) (y3 : Nat) (y4 : Option Nat) (y5 : Bool) : Ann.clr f5a0 (f5e1 y0 y1 y2 y3 y4 y5) = f5e0 y0 y1 y2 y3 y4 := hide (by kernel_rfl)
theorem f5n2 {R : Type} (call : CallF R) (N : Nat) (J : KF R) (e : Env) (σ : St) : runK Try.prog call N f5c2 f5a2 J e σ = runK Try.prog call N f5c3 f5a3 (seqC (fun K e σ => runK Try.prog call N f5c4 f5a4 K e σ) f5a2 J) e σ := runK_seq' (by kernel_rfl) (by kernel_rfl) (by kernel_rfl)
theorem f5r3_f5e0 {R : Type} (call : CallF R) (N : Nat) (y0 : Int) (y1 : Int) (y2 : Option (Nat × Nat)) (y3 : Nat) (y4 : Option Nat) (J : KF R) (σ : St) :
    runK Try.prog call N f5c3 f5a3 J (f5e0 y0 y1 y2 y3 y4) σ =
call (8 : Nat) [] σ fun v0 v1 => Option.bind (AV.toPtr v0) fun v2 => J Ex.normal (f5e2 y0 y1 y2 y3 y4 v2 v2) v1 := hide (by kernel_rfl)
theorem f5z2_f5e2 (y0 : Int) (y1 : Int) (y2 : Option (Nat × Nat)) (y3 : Nat) (y4 : Option Nat) (y5 : Option (Nat × Nat)) (y6 : Option (Nat × Nat)) : Ann.clr f5a2 (f5e2 y0 y1 y2 y3 y4 y5 y6) = f5e3 y0 y1 y2 y3 y4 y5 := hide (by kernel_rfl)
theorem f5n4 {R : Type} (call : CallF R) (N : Nat) (J : KF R) (e : Env) (σ : St) : runK Try.prog call N f5c4 f5a4 J e σ = runK Try.prog call N f5c5 f5a5 (seqC (fun K e σ => runK Try.prog call N f5c6 f5a6 K e σ) f5a4 J) e σ := runK_seq' (by kernel_rfl) (by kernel_rfl) (by kernel_rfl)
theorem f5n5 {R : Type} (call : CallF R) (N : Nat) (J : KF R) (e : Env) (σ : St) : runK Try.prog call N f5c5 f5a5 J e σ = runK Try.prog call N f5c7 f5a7 (seqC (fun K e σ => runK Try.prog call N f5c8 f5a8 K e σ) f5a5 J) e σ := runK_seq' (by kernel_rfl) (by kernel_rfl) (by kernel_rfl)
theorem f5r7_f5e3 {R : Type} (call : CallF R) (N : Nat) (y0 : Int) (y1 : Int) (y2 : Option (Nat × Nat)) (y3 : Nat) (y4 : Option Nat) (y5 : Option (Nat × Nat)) (J : KF R) (σ : St) :
    runK Try.prog call N f5c7 f5a7 J (f5e3 y0 y1 y2 y3 y4 y5) σ =
if Option.isNone y5 = true then J Ex.normal (f5e4 y0 y1 y2 y3 y4 y5 y5 (Option.isNone y5) true true) σ
else
  J Ex.normal
    (f5e5 y0 y1 y2 y3 y4 y5 y5 (Option.isNone y5) false y2 y3 y4 (↑y3 : Int) (decide ((↑y3 : Int) > (200 : Int)))
      (decide ((↑y3 : Int) > (200 : Int))))
    σ := hide (by kernel_rfl)
theorem f5z5_f5e4 (y0 : Int) (y1 : Int) (y2 : Option (Nat × Nat)) (y3 : Nat) (y4 : Option Nat) (y5 : Option (Nat × Nat)) (y6 : Option (Nat × Nat)) (y7 : Bool) (y8 : Bool) (y9 : Bool) : Ann.clr f5a5 (f5e4 y0 y1 y2 y3 y4 y5 y6 y7 y8 y9) = f5e6 y0 y1 y2 y3 y4 y5 y9 := hide (by kernel_rfl)
theorem f5x8_f5e6 {R : Type} (call : CallF R) (N : Nat) (y0 : Int) (y1 : Int) (y2 : Option (Nat × Nat)) (y3 : Nat) (y4 : Option Nat) (y5 : Option (Nat × Nat)) (y6 : Bool) (J : KF R) (σ : St) : runK Try.prog call N f5c8 f5a8 J (f5e6 y0 y1 y2 y3 y4 y5 y6) σ = if y6 = true then runK Try.prog call N f5c9 f5a9 (condC f5a8 J) (f5e6 y0 y1 y2 y3 y4 y5 y6) σ else runK Try.prog call N f5c10 f5a10 (condC f5a8 J) (f5e6 y0 y1 y2 y3 y4 y5 y6) σ := runK_cond' (o := Operand.tmp (23 : Nat)) (by kernel_rfl) (by kernel_rfl) (by kernel_rfl) (by kernel_rfl)
theorem f5n9 {R : Type} (call : CallF R) (N : Nat) (J : KF R) (e : Env) (σ : St) : runK Try.prog call N f5c9 f5a9 J e σ = runK Try.prog call N f5c11 f5a11 (seqC (fun K e σ => runK Try.prog call N f5c12 f5a12 K e σ) f5a9 J) e σ := runK_seq' (by kernel_rfl) (by kernel_rfl) (by kernel_rfl)
theorem f5r11_f5e6 {R : Type} (call : CallF R) (N : Nat) (y0 : Int) (y1 : Int) (y2 : Option (Nat × Nat)) (y3 : Nat) (y4 : Option Nat) (y5 : Option (Nat × Nat)) (y6 : Bool) (J : KF R) (σ : St) :
    runK Try.prog call N f5c11 f5a11 J (f5e6 y0 y1 y2 y3 y4 y5 y6) σ =
if (!Option.isNone y5) = true then
  call (9 : Nat) [] σ fun v0 v1 =>
    Option.bind (AV.toBool v0) fun v2 => J Ex.normal (f5e7 y0 y1 y2 y3 y4 v2 y5 y6 y5 (!Option.isNone y5) true v2 v2) v1
else J Ex.normal (f5e8 y0 y1 y2 y3 y4 false y5 y6 y5 (!Option.isNone y5) false false) σ := hide (by kernel_rfl)
theorem f5z9_f5e7 (y0 : Int) (y1 : Int) (y2 : Option (Nat × Nat)) (y3 : Nat) (y4 : Option Nat) (y5 : Bool) (y6 : Option (Nat × Nat)) (y7 : Bool) (y8 : Option (Nat × Nat)) (y9 : Bool) (y10 : Bool) (y11 : Bool) (y12 : Bool) : Ann.clr f5a9 (f5e7 y0 y1 y2 y3 y4 y5 y6 y7 y8 y9 y10 y11 y12) = f5e9 y5 := hide (by kernel_rfl)
theorem f5y12_f5e9 {R : Type} (call : CallF R) (N : Nat) (y0 : Bool) (J : KF R) (σ : St) : runK Try.prog call N f5c12 f5a12 J (f5e9 y0) σ = J .ret (f5e9 y0) σ := runK_ret' (by kernel_rfl) (by kernel_rfl)
theorem f5z9_f5e8 (y0 : Int) (y1 : Int) (y2 : Option (Nat × Nat)) (y3 : Nat) (y4 : Option Nat) (y5 : Bool) (y6 : Option (Nat × Nat)) (y7 : Bool) (y8 : Option (Nat × Nat)) (y9 : Bool) (y10 : Bool) (y11 : Bool) : Ann.clr f5a9 (f5e8 y0 y1 y2 y3 y4 y5 y6 y7 y8 y9 y10 y11) = f5e9 y5 := hide (by kernel_rfl)
theorem f5n10 {R : Type} (call : CallF R) (N : Nat) (J : KF R) (e : Env) (σ : St) : runK Try.prog call N f5c10 f5a10 J e σ = J .normal e σ := runK_skip' (by kernel_rfl)
theorem f5z8_f5e6 (y0 : Int) (y1 : Int) (y2 : Option (Nat × Nat)) (y3 : Nat) (y4 : Option Nat) (y5 : Option (Nat × Nat)) (y6 : Bool) : Ann.clr f5a8 (f5e6 y0 y1 y2 y3 y4 y5 y6) = f5e3 y0 y1 y2 y3 y4 y5 := hide (by kernel_rfl)
theorem f5z5_f5e5 (y0 : Int) (y1 : Int) (y2 : Option (Nat × Nat)) (y3 : Nat) (y4 : Option Nat) (y5 : Option (Nat × Nat)) (y6 : Option (Nat × Nat)) (y7 : Bool) (y8 : Bool) (y9 : Option (Nat × Nat)) (y10 : Nat) (y11 : Option Nat) (y12 : Int) (y13 : Bool) (y14 : Bool) : Ann.clr f5a5 (f5e5 y0 y1 y2 y3 y4 y5 y6 y7 y8 y9 y10 y11 y12 y13 y14) = f5e6 y0 y1 y2 y3 y4 y5 y14 := hide (by kernel_rfl)
theorem f5z4_f5e3 (y0 : Int) (y1 : Int) (y2 : Option (Nat × Nat)) (y3 : Nat) (y4 : Option Nat) (y5 : Option (Nat × Nat)) : Ann.clr f5a4 (f5e3 y0 y1 y2 y3 y4 y5) = f5e3 y0 y1 y2 y3 y4 y5 := hide (by kernel_rfl)
theorem f5n6 {R : Type} (call : CallF R) (N : Nat) (J : KF R) (e : Env) (σ : St) : runK Try.prog call N f5c6 f5a6 J e σ = runK Try.prog call N f5c13 f5a13 (seqC (fun K e σ => runK Try.prog call N f5c14 f5a14 K e σ) f5a6 J) e σ := runK_seq' (by kernel_rfl) (by kernel_rfl) (by kernel_rfl)
theorem f5r13_f5e3 {R : Type} (call : CallF R) (N : Nat) (y0 : Int) (y1 : Int) (y2 : Option (Nat × Nat)) (y3 : Nat) (y4 : Option Nat) (y5 : Option (Nat × Nat)) (J : KF R) (σ : St) :
    runK Try.prog call N f5c13 f5a13 J (f5e3 y0 y1 y2 y3 y4 y5) σ =
J Ex.normal (f5e10 y0 y1 y2 y3 y4 y5 none (0 : Nat) (some (0 : Nat))) σ := hide (by kernel_rfl)
theorem f5z6_f5e10 (y0 : Int) (y1 : Int) (y2 : Option (Nat × Nat)) (y3 : Nat) (y4 : Option Nat) (y5 : Option (Nat × Nat)) (y6 : Option (Nat × Nat)) (y7 : Nat) (y8 : Option Nat) : Ann.clr f5a6 (f5e10 y0 y1 y2 y3 y4 y5 y6 y7 y8) = f5e10 y0 y1 y2 y3 y4 y5 y6 y7 y8 := hide (by kernel_rfl)
theorem f5n14 {R : Type} (call : CallF R) (N : Nat) (J : KF R) (e : Env) (σ : St) : runK Try.prog call N f5c14 f5a14 J e σ = runK Try.prog call N f5c15 f5a15 (seqC (fun K e σ => runK Try.prog call N f5c16 f5a16 K e σ) f5a14 J) e σ := runK_seq' (by kernel_rfl) (by kernel_rfl) (by kernel_rfl)
theorem f5n15 {R : Type} (call : CallF R) (N : Nat) (J : KF R) (e : Env) (σ : St) : runK Try.prog call N f5c15 f5a15 J e σ = runK Try.prog call N f5c17 f5a17 (seqC (fun K e σ => runK Try.prog call N f5c18 f5a18 K e σ) f5a15 J) e σ := runK_seq' (by kernel_rfl) (by kernel_rfl) (by kernel_rfl)
theorem f5r17_f5e10 {R : Type} (call : CallF R) (N : Nat) (y0 : Int) (y1 : Int) (y2 : Option (Nat × Nat)) (y3 : Nat) (y4 : Option Nat) (y5 : Option (Nat × Nat)) (y6 : Option (Nat × Nat)) (y7 : Nat) (y8 : Option Nat) (J : KF R) (σ : St) :
    runK Try.prog call N f5c17 f5a17 J (f5e10 y0 y1 y2 y3 y4 y5 y6 y7 y8) σ =
J Ex.normal (f5e11 y0 y1 y2 y3 y4 y5 y6 y7 y8 y2 y3 y4 (↑y3 : Int) (0 : Int)) σ := hide (by kernel_rfl)
theorem f5z15_f5e11 (y0 : Int) (y1 : Int) (y2 : Option (Nat × Nat)) (y3 : Nat) (y4 : Option Nat) (y5 : Option (Nat × Nat)) (y6 : Option (Nat × Nat)) (y7 : Nat) (y8 : Option Nat) (y9 : Option (Nat × Nat)) (y10 : Nat) (y11 : Option Nat) (y12 : Int) (y13 : Int) : Ann.clr f5a15 (f5e11 y0 y1 y2 y3 y4 y5 y6 y7 y8 y9 y10 y11 y12 y13) = f5e12 y0 y1 y5 y6 y7 y8 y9 y10 y11 y12 y13 := hide (by kernel_rfl)
theorem f5n18 {R : Type} (call : CallF R) (N : Nat) (J : KF R) (e : Env) (σ : St) : runK Try.prog call N f5c18 f5a18 J e σ = runK Try.prog call N f5c19 f5a19 (blockC 0 f5a18 J) e σ := runK_block' (by kernel_rfl) (by kernel_rfl)
theorem f5L19_eq {R : Type} (call : CallF R) (N : Nat) (J : KF R) (e : Env) (σ : St) : f5L19 call N J e σ = runK Try.prog call N f5c20 f5a20 J e σ := hide rfl
theorem f5z19_f5e12 (y0 : Int) (y1 : Int) (y2 : Option (Nat × Nat)) (y3 : Option (Nat × Nat)) (y4 : Nat) (y5 : Option Nat) (y6 : Option (Nat × Nat)) (y7 : Nat) (y8 : Option Nat) (y9 : Int) (y10 : Int) : Ann.clr f5a19 (f5e12 y0 y1 y2 y3 y4 y5 y6 y7 y8 y9 y10) = f5e12 y0 y1 y2 y3 y4 y5 y6 y7 y8 y9 y10 := hide (by kernel_rfl)
theorem f5l19_f5e12 {R : Type} (call : CallF R) (N : Nat) (y0 : Int) (y1 : Int) (y2 : Option (Nat × Nat)) (y3 : Option (Nat × Nat)) (y4 : Nat) (y5 : Option Nat) (y6 : Option (Nat × Nat)) (y7 : Nat) (y8 : Option Nat) (y9 : Int) (y10 : Int) (J : KF R) (σ : St) : runK Try.prog call N f5c19 f5a19 J (f5e12 y0 y1 y2 y3 y4 y5 y6 y7 y8 y9 y10) σ = loopK (f5L19 call N) f5a19 N J (f5e12 y0 y1 y2 y3 y4 y5 y6 y7 y8 y9 y10) σ := runK_loop' (by kernel_rfl) (by kernel_rfl) (by kernel_rfl)
theorem f5n20 {R : Type} (call : CallF R) (N : Nat) (J : KF R) (e : Env) (σ : St) : runK Try.prog call N f5c20 f5a20 J e σ = runK Try.prog call N f5c21 f5a21 (seqC (fun K e σ => runK Try.prog call N f5c22 f5a22 K e σ) f5a20 J) e σ := runK_seq' (by kernel_rfl) (by kernel_rfl) (by kernel_rfl)
theorem f5r21_f5e12 {R : Type} (call : CallF R) (N : Nat) (y0 : Int) (y1 : Int) (y2 : Option (Nat × Nat)) (y3 : Option (Nat × Nat)) (y4 : Nat) (y5 : Option Nat) (y6 : Option (Nat × Nat)) (y7 : Nat) (y8 : Option Nat) (y9 : Int) (y10 : Int) (J : KF R) (σ : St) :
    runK Try.prog call N f5c21 f5a21 J (f5e12 y0 y1 y2 y3 y4 y5 y6 y7 y8 y9 y10) σ =
J Ex.normal (f5e13 y0 y1 y2 y3 y4 y5 y6 y7 y8 y9 y10 (decide (y10 < y9))) σ := hide (by kernel_rfl)
theorem f5z20_f5e13 (y0 : Int) (y1 : Int) (y2 : Option (Nat × Nat)) (y3 : Option (Nat × Nat)) (y4 : Nat) (y5 : Option Nat) (y6 : Option (Nat × Nat)) (y7 : Nat) (y8 : Option Nat) (y9 : Int) (y10 : Int) (y11 : Bool) : Ann.clr f5a20 (f5e13 y0 y1 y2 y3 y4 y5 y6 y7 y8 y9 y10 y11) = f5e13 y0 y1 y2 y3 y4 y5 y6 y7 y8 y9 y10 y11 := hide (by kernel_rfl)
theorem f5n22 {R : Type} (call : CallF R) (N : Nat) (J : KF R) (e : Env) (σ : St) : runK Try.prog call N f5c22 f5a22 J e σ = runK Try.prog call N f5c23 f5a23 (seqC (fun K e σ => runK Try.prog call N f5c24 f5a24 K e σ) f5a22 J) e σ := runK_seq' (by kernel_rfl) (by kernel_rfl) (by kernel_rfl)
theorem f5x23_f5e13 {R : Type} (call : CallF R) (N : Nat) (y0 : Int) (y1 : Int) (y2 : Option (Nat × Nat)) (y3 : Option (Nat × Nat)) (y4 : Nat) (y5 : Option Nat) (y6 : Option (Nat × Nat)) (y7 : Nat) (y8 : Option Nat) (y9 : Int) (y10 : Int) (y11 : Bool) (J : KF R) (σ : St) : runK Try.prog call N f5c23 f5a23 J (f5e13 y0 y1 y2 y3 y4 y5 y6 y7 y8 y9 y10 y11) σ = if y11 = true then runK Try.prog call N f5c25 f5a25 (condC f5a23 J) (f5e13 y0 y1 y2 y3 y4 y5 y6 y7 y8 y9 y10 y11) σ else runK Try.prog call N f5c26 f5a26 (condC f5a23 J) (f5e13 y0 y1 y2 y3 y4 y5 y6 y7 y8 y9 y10 y11) σ := runK_cond' (o := Operand.tmp (32 : Nat)) (by kernel_rfl) (by kernel_rfl) (by kernel_rfl) (by kernel_rfl)
theorem f5n25 {R : Type} (call : CallF R) (N : Nat) (J : KF R) (e : Env) (σ : St) : runK Try.prog call N f5c25 f5a25 J e σ = J .normal e σ := runK_skip' (by kernel_rfl)
theorem f5z23_f5e13 (y0 : Int) (y1 : Int) (y2 : Option (Nat × Nat)) (y3 : Option (Nat × Nat)) (y4 : Nat) (y5 : Option Nat) (y6 : Option (Nat × Nat)) (y7 : Nat) (y8 : Option Nat) (y9 : Int) (y10 : Int) (y11 : Bool) : Ann.clr f5a23 (f5e13 y0 y1 y2 y3 y4 y5 y6 y7 y8 y9 y10 y11) = f5e12 y0 y1 y2 y3 y4 y5 y6 y7 y8 y9 y10 := hide (by kernel_rfl)
theorem f5y26_f5e13 {R : Type} (call : CallF R) (N : Nat) (y0 : Int) (y1 : Int) (y2 : Option (Nat × Nat)) (y3 : Option (Nat × Nat)) (y4 : Nat) (y5 : Option Nat) (y6 : Option (Nat × Nat)) (y7 : Nat) (y8 : Option Nat) (y9 : Int) (y10 : Int) (y11 : Bool) (J : KF R) (σ : St) : runK Try.prog call N f5c26 f5a26 J (f5e13 y0 y1 y2 y3 y4 y5 y6 y7 y8 y9 y10 y11) σ = J (.exit 0) (f5e14 y0 y1 y2 y3 y4 y5) σ := runK_exit' (by kernel_rfl) (by kernel_rfl)
theorem f5z22_f5e12 (y0 : Int) (y1 : Int) (y2 : Option (Nat × Nat)) (y3 : Option (Nat × Nat)) (y4 : Nat) (y5 : Option Nat) (y6 : Option (Nat × Nat)) (y7 : Nat) (y8 : Option Nat) (y9 : Int) (y10 : Int) : Ann.clr f5a22 (f5e12 y0 y1 y2 y3 y4 y5 y6 y7 y8 y9 y10) = f5e12 y0 y1 y2 y3 y4 y5 y6 y7 y8 y9 y10 := hide (by kernel_rfl)
theorem f5n24 {R : Type} (call : CallF R) (N : Nat) (J : KF R) (e : Env) (σ : St) : runK Try.prog call N f5c24 f5a24 J e σ = runK Try.prog call N f5c27 f5a27 (seqC (fun K e σ => runK Try.prog call N f5c28 f5a28 K e σ) f5a24 J) e σ := runK_seq' (by kernel_rfl) (by kernel_rfl) (by kernel_rfl)
theorem f5n27 {R : Type} (call : CallF R) (N : Nat) (J : KF R) (e : Env) (σ : St) : runK Try.prog call N f5c27 f5a27 J e σ = runK Try.prog call N f5c29 f5a29 (blockC 1 f5a27 J) e σ := runK_block' (by kernel_rfl) (by kernel_rfl)
theorem f5n29 {R : Type} (call : CallF R) (N : Nat) (J : KF R) (e : Env) (σ : St) : runK Try.prog call N f5c29 f5a29 J e σ = runK Try.prog call N f5c30 f5a30 (seqC (fun K e σ => runK Try.prog call N f5c31 f5a31 K e σ) f5a29 J) e σ := runK_seq' (by kernel_rfl) (by kernel_rfl) (by kernel_rfl)
theorem f5r30_f5e12 {R : Type} (call : CallF R) (N : Nat) (y0 : Int) (y1 : Int) (y2 : Option (Nat × Nat)) (y3 : Option (Nat × Nat)) (y4 : Nat) (y5 : Option Nat) (y6 : Option (Nat × Nat)) (y7 : Nat) (y8 : Option Nat) (y9 : Int) (y10 : Int) (J : KF R) (σ : St) :
    runK Try.prog call N f5c30 f5a30 J (f5e12 y0 y1 y2 y3 y4 y5 y6 y7 y8 y9 y10) σ =
if (0 : Int) ≤ y10 ∧ y10 < (↑y7 : Int) then
  Option.bind y6 fun v0 =>
    Option.bind (St.ld σ (Prod.fst v0) (Prod.snd v0 + Int.toNat y10 * (6 : Nat))) fun v1 =>
      Option.bind (AV.toInt IntKind.i64 v1) fun v2 =>
        Option.bind (St.ld σ (Prod.fst v0) (Prod.snd v0 + Int.toNat y10 * (6 : Nat) + (1 : Nat))) fun v3 =>
          Option.bind (AV.toInt IntKind.i64 v3) fun v4 =>
            Option.bind (St.ld σ (Prod.fst v0) (Prod.snd v0 + Int.toNat y10 * (6 : Nat) + (2 : Nat))) fun v5 =>
              Option.bind (AV.toInt IntKind.i64 v5) fun v6 =>
                Option.bind (St.ld σ (Prod.fst v0) (Prod.snd v0 + Int.toNat y10 * (6 : Nat) + (3 : Nat))) fun v7 =>
                  Option.bind (AV.toInt IntKind.i64 v7) fun v8 =>
                    Option.bind (St.ld σ (Prod.fst v0) (Prod.snd v0 + Int.toNat y10 * (6 : Nat) + (4 : Nat))) fun v9 =>
                      Option.bind (AV.toInt IntKind.i64 v9) fun v10 =>
                        Option.bind (St.ld σ (Prod.fst v0) (Prod.snd v0 + Int.toNat y10 * (6 : Nat) + (5 : Nat))) fun v11 =>
                          Option.bind (AV.toStr v11) fun v12 =>
                            Option.bind
                              (St.st
                                (St.new σ
                                  (Blk.cells
                                    [AV.int IntKind.i64 (0 : Int), AV.int IntKind.i64 (0 : Int), AV.int IntKind.i64 (0 : Int),
                                      AV.int IntKind.i64 (0 : Int), AV.int IntKind.i64 (0 : Int), AV.str (ByteArray.mk #[])]
                                    true))
                                (St.next σ) (0 : Nat)
                                [AV.int IntKind.i64 v2, AV.int IntKind.i64 v4, AV.int IntKind.i64 v6, AV.int IntKind.i64 v8, AV.int IntKind.i64 v10,
                                  AV.str v12])
                              fun v13 =>
                              J Ex.normal
                                (f5e15 y0 y1 y2 y3 y4 y5 (St.next σ) y6 y7 y8 y9 y10 (some (Prod.fst v0, Prod.snd v0 + Int.toNat y10 * (6 : Nat))) v2
                                  v4 v6 v8 v10 v12)
                                v13
else none := hide (by kernel_rfl)
theorem f5z29_f5e15 (y0 : Int) (y1 : Int) (y2 : Option (Nat × Nat)) (y3 : Option (Nat × Nat)) (y4 : Nat) (y5 : Option Nat) (y6 : Nat) (y7 : Option (Nat × Nat)) (y8 : Nat) (y9 : Option Nat) (y10 : Int) (y11 : Int) (y12 : Option (Nat × Nat)) (y13 : Int) (y14 : Int) (y15 : Int) (y16 : Int) (y17 : Int) (y18 : ByteArray) : Ann.clr f5a29 (f5e15 y0 y1 y2 y3 y4 y5 y6 y7 y8 y9 y10 y11 y12 y13 y14 y15 y16 y17 y18) = f5e16 y0 y1 y2 y3 y4 y5 y6 y7 y8 y9 y10 y11 := hide (by kernel_rfl)
theorem f5n31 {R : Type} (call : CallF R) (N : Nat) (J : KF R) (e : Env) (σ : St) : runK Try.prog call N f5c31 f5a31 J e σ = runK Try.prog call N f5c32 f5a32 (seqC (fun K e σ => runK Try.prog call N f5c33 f5a33 K e σ) f5a31 J) e σ := runK_seq' (by kernel_rfl) (by kernel_rfl) (by kernel_rfl)
theorem f5r32_f5e16 {R : Type} (call : CallF R) (N : Nat) (y0 : Int) (y1 : Int) (y2 : Option (Nat × Nat)) (y3 : Option (Nat × Nat)) (y4 : Nat) (y5 : Option Nat) (y6 : Nat) (y7 : Option (Nat × Nat)) (y8 : Nat) (y9 : Option Nat) (y10 : Int) (y11 : Int) (J : KF R) (σ : St) :
    runK Try.prog call N f5c32 f5a32 J (f5e16 y0 y1 y2 y3 y4 y5 y6 y7 y8 y9 y10 y11) σ =
Option.bind (St.ld σ y6 (2 : Nat)) fun v0 =>
  Option.bind (AV.toInt IntKind.i64 v0) fun v1 =>
    Option.bind (St.ld σ y6 (3 : Nat)) fun v2 =>
      Option.bind (AV.toInt IntKind.i64 v2) fun v3 =>
        Option.bind (St.ld σ y6 (4 : Nat)) fun v4 =>
          Option.bind (AV.toInt IntKind.i64 v4) fun v5 =>
            Option.bind (St.ld σ y6 (5 : Nat)) fun v6 =>
              Option.bind (AV.toStr v6) fun v7 =>
                call (10 : Nat) [AV.ptr y2, AV.agg [AV.int IntKind.i64 v1, AV.int IntKind.i64 v3, AV.int IntKind.i64 v5, AV.str v7]] σ fun v8 v9 =>
                  Option.bind (AV.toInt IntKind.i64 v8) fun v10 =>
                    if (v10 == (0 : Int)) = true then
                      Option.bind (St.ld v9 y6 (2 : Nat)) fun v11 =>
                        Option.bind (AV.toInt IntKind.i64 v11) fun v12 =>
                          if (v12 == y0) = true then
                            Option.bind (St.ld v9 y6 (3 : Nat)) fun v13 =>
                              Option.bind (AV.toInt IntKind.i64 v13) fun v14 =>
                                J Ex.normal
                                  (f5e17 y0 y1 y2 y3 y4 y5 y6 y7 y8 y9 y10 y11 y2 y6 v1 v3 v5 v7 v10 (v10 == (0 : Int)) true y6 y6 v12 y0 (v12 == y0)
                                    (v12 == y0) true y6 y6 v14 y1 (v14 == y1) (v14 == y1))
                                  v9
                          else
                            J Ex.normal
                              (f5e18 y0 y1 y2 y3 y4 y5 y6 y7 y8 y9 y10 y11 y2 y6 v1 v3 v5 v7 v10 (v10 == (0 : Int)) true y6 y6 v12 y0 (v12 == y0)
                                (v12 == y0) false false)
                              v9
                    else J Ex.normal (f5e19 y0 y1 y2 y3 y4 y5 y6 y7 y8 y9 y10 y11 y2 y6 v1 v3 v5 v7 v10 (v10 == (0 : Int)) false false false false) v9 := hide (by kernel_rfl)
theorem f5z31_f5e17 (y0 : Int) (y1 : Int) (y2 : Option (Nat × Nat)) (y3 : Option (Nat × Nat)) (y4 : Nat) (y5 : Option Nat) (y6 : Nat) (y7 : Option (Nat × Nat)) (y8 : Nat) (y9 : Option Nat) (y10 : Int) (y11 : Int) (y12 : Option (Nat × Nat)) (y13 : Nat) (y14 : Int) (y15 : Int) (y16 : Int) (y17 : ByteArray) (y18 : Int) (y19 : Bool) (y20 : Bool) (y21 : Nat) (y22 : Nat) (y23 : Int) (y24 : Int) (y25 : Bool) (y26 : Bool) (y27 : Bool) (y28 : Nat) (y29 : Nat) (y30 : Int) (y31 : Int) (y32 : Bool) (y33 : Bool) : Ann.clr f5a31 (f5e17 y0 y1 y2 y3 y4 y5 y6 y7 y8 y9 y10 y11 y12 y13 y14 y15 y16 y17 y18 y19 y20 y21 y22 y23 y24 y25 y26 y27 y28 y29 y30 y31 y32 y33) = f5e20 y0 y1 y2 y3 y4 y5 y6 y7 y8 y9 y10 y11 y33 := hide (by kernel_rfl)
theorem f5x33_f5e20 {R : Type} (call : CallF R) (N : Nat) (y0 : Int) (y1 : Int) (y2 : Option (Nat × Nat)) (y3 : Option (Nat × Nat)) (y4 : Nat) (y5 : Option Nat) (y6 : Nat) (y7 : Option (Nat × Nat)) (y8 : Nat) (y9 : Option Nat) (y10 : Int) (y11 : Int) (y12 : Bool) (J : KF R) (σ : St) : runK Try.prog call N f5c33 f5a33 J (f5e20 y0 y1 y2 y3 y4 y5 y6 y7 y8 y9 y10 y11 y12) σ = if y12 = true then runK Try.prog call N f5c34 f5a34 (condC f5a33 J) (f5e20 y0 y1 y2 y3 y4 y5 y6 y7 y8 y9 y10 y11 y12) σ else runK Try.prog call N f5c35 f5a35 (condC f5a33 J) (f5e20 y0 y1 y2 y3 y4 y5 y6 y7 y8 y9 y10 y11 y12) σ := runK_cond' (o := Operand.tmp (53 : Nat)) (by kernel_rfl) (by kernel_rfl) (by kernel_rfl) (by kernel_rfl)
theorem f5r34_f5e20 {R : Type} (call : CallF R) (N : Nat) (y0 : Int) (y1 : Int) (y2 : Option (Nat × Nat)) (y3 : Option (Nat × Nat)) (y4 : Nat) (y5 : Option Nat) (y6 : Nat) (y7 : Option (Nat × Nat)) (y8 : Nat) (y9 : Option Nat) (y10 : Int) (y11 : Int) (y12 : Bool) (J : KF R) (σ : St) :
    runK Try.prog call N f5c34 f5a34 J (f5e20 y0 y1 y2 y3 y4 y5 y6 y7 y8 y9 y10 y11 y12) σ =
Option.bind (St.ld σ y6 (5 : Nat)) fun v0 =>
  Option.bind (AV.toStr v0) fun v1 =>
    Option.bind
      (St.elems (St.new σ (Blk.cells [AV.str v1] true)) (1 : Nat) (Sl.mk (some (St.next σ, (0 : Nat))) (1 : Nat) (some (1 : Nat))) (1 : Nat))
      fun v2 =>
      Option.bind (St.app (St.new σ (Blk.cells [AV.str v1] true)) (1 : Nat) (16 : Nat) (Sl.mk y3 y4 y5) (1 : Nat) v2) fun v3 =>
        J Ex.normal
          (f5e21 y0 y1 y2 (Sl.o (Prod.fst v3)) (Sl.len (Prod.fst v3)) (Sl.cap (Prod.fst v3)) y6 y7 y8 y9 y10 y11 y12 y3 y4 y5 y6 y6 v1
            (some (St.next σ, (0 : Nat))) (1 : Nat) (some (1 : Nat)) (Sl.o (Prod.fst v3)) (Sl.len (Prod.fst v3)) (Sl.cap (Prod.fst v3)))
          (Prod.snd v3) := hide (by kernel_rfl)
theorem f5z33_f5e21 (y0 : Int) (y1 : Int) (y2 : Option (Nat × Nat)) (y3 : Option (Nat × Nat)) (y4 : Nat) (y5 : Option Nat) (y6 : Nat) (y7 : Option (Nat × Nat)) (y8 : Nat) (y9 : Option Nat) (y10 : Int) (y11 : Int) (y12 : Bool) (y13 : Option (Nat × Nat)) (y14 : Nat) (y15 : Option Nat) (y16 : Nat) (y17 : Nat) (y18 : ByteArray) (y19 : Option (Nat × Nat)) (y20 : Nat) (y21 : Option Nat) (y22 : Option (Nat × Nat)) (y23 : Nat) (y24 : Option Nat) : Ann.clr f5a33 (f5e21 y0 y1 y2 y3 y4 y5 y6 y7 y8 y9 y10 y11 y12 y13 y14 y15 y16 y17 y18 y19 y20 y21 y22 y23 y24) = f5e12 y0 y1 y2 y3 y4 y5 y7 y8 y9 y10 y11 := hide (by kernel_rfl)
theorem f5n35 {R : Type} (call : CallF R) (N : Nat) (J : KF R) (e : Env) (σ : St) : runK Try.prog call N f5c35 f5a35 J e σ = J .normal e σ := runK_skip' (by kernel_rfl)
theorem f5z33_f5e20 (y0 : Int) (y1 : Int) (y2 : Option (Nat × Nat)) (y3 : Option (Nat × Nat)) (y4 : Nat) (y5 : Option Nat) (y6 : Nat) (y7 : Option (Nat × Nat)) (y8 : Nat) (y9 : Option Nat) (y10 : Int) (y11 : Int) (y12 : Bool) : Ann.clr f5a33 (f5e20 y0 y1 y2 y3 y4 y5 y6 y7 y8 y9 y10 y11 y12) = f5e12 y0 y1 y2 y3 y4 y5 y7 y8 y9 y10 y11 := hide (by kernel_rfl)
theorem f5z31_f5e18 (y0 : Int) (y1 : Int) (y2 : Option (Nat × Nat)) (y3 : Option (Nat × Nat)) (y4 : Nat) (y5 : Option Nat) (y6 : Nat) (y7 : Option (Nat × Nat)) (y8 : Nat) (y9 : Option Nat) (y10 : Int) (y11 : Int) (y12 : Option (Nat × Nat)) (y13 : Nat) (y14 : Int) (y15 : Int) (y16 : Int) (y17 : ByteArray) (y18 : Int) (y19 : Bool) (y20 : Bool) (y21 : Nat) (y22 : Nat) (y23 : Int) (y24 : Int) (y25 : Bool) (y26 : Bool) (y27 : Bool) (y28 : Bool) : Ann.clr f5a31 (f5e18 y0 y1 y2 y3 y4 y5 y6 y7 y8 y9 y10 y11 y12 y13 y14 y15 y16 y17 y18 y19 y20 y21 y22 y23 y24 y25 y26 y27 y28) = f5e20 y0 y1 y2 y3 y4 y5 y6 y7 y8 y9 y10 y11 y28 := hide (by kernel_rfl)
theorem f5z31_f5e19 (y0 : Int) (y1 : Int) (y2 : Option (Nat × Nat)) (y3 : Option (Nat × Nat)) (y4 : Nat) (y5 : Option Nat) (y6 : Nat) (y7 : Option (Nat × Nat)) (y8 : Nat) (y9 : Option Nat) (y10 : Int) (y11 : Int) (y12 : Option (Nat × Nat)) (y13 : Nat) (y14 : Int) (y15 : Int) (y16 : Int) (y17 : ByteArray) (y18 : Int) (y19 : Bool) (y20 : Bool) (y21 : Bool) (y22 : Bool) (y23 : Bool) : Ann.clr f5a31 (f5e19 y0 y1 y2 y3 y4 y5 y6 y7 y8 y9 y10 y11 y12 y13 y14 y15 y16 y17 y18 y19 y20 y21 y22 y23) = f5e20 y0 y1 y2 y3 y4 y5 y6 y7 y8 y9 y10 y11 y23 := hide (by kernel_rfl)
theorem f5z27_f5e12 (y0 : Int) (y1 : Int) (y2 : Option (Nat × Nat)) (y3 : Option (Nat × Nat)) (y4 : Nat) (y5 : Option Nat) (y6 : Option (Nat × Nat)) (y7 : Nat) (y8 : Option Nat) (y9 : Int) (y10 : Int) : Ann.clr f5a27 (f5e12 y0 y1 y2 y3 y4 y5 y6 y7 y8 y9 y10) = f5e12 y0 y1 y2 y3 y4 y5 y6 y7 y8 y9 y10 := hide (by kernel_rfl)
theorem f5z24_f5e12 (y0 : Int) (y1 : Int) (y2 : Option (Nat × Nat)) (y3 : Option (Nat × Nat)) (y4 : Nat) (y5 : Option Nat) (y6 : Option (Nat × Nat)) (y7 : Nat) (y8 : Option Nat) (y9 : Int) (y10 : Int) : Ann.clr f5a24 (f5e12 y0 y1 y2 y3 y4 y5 y6 y7 y8 y9 y10) = f5e12 y0 y1 y2 y3 y4 y5 y6 y7 y8 y9 y10 := hide (by kernel_rfl)
theorem f5r28_f5e12 {R : Type} (call : CallF R) (N : Nat) (y0 : Int) (y1 : Int) (y2 : Option (Nat × Nat)) (y3 : Option (Nat × Nat)) (y4 : Nat) (y5 : Option Nat) (y6 : Option (Nat × Nat)) (y7 : Nat) (y8 : Option Nat) (y9 : Int) (y10 : Int) (J : KF R) (σ : St) :
    runK Try.prog call N f5c28 f5a28 J (f5e12 y0 y1 y2 y3 y4 y5 y6 y7 y8 y9 y10) σ =
J Ex.normal (f5e22 y0 y1 y2 y3 y4 y5 y6 y7 y8 y9 (IntKind.wrap IntKind.i64 (y10 + (1 : Int))) (IntKind.wrap IntKind.i64 (y10 + (1 : Int)))) σ := hide (by kernel_rfl)
theorem f5z19_f5e22 (y0 : Int) (y1 : Int) (y2 : Option (Nat × Nat)) (y3 : Option (Nat × Nat)) (y4 : Nat) (y5 : Option Nat) (y6 : Option (Nat × Nat)) (y7 : Nat) (y8 : Option Nat) (y9 : Int) (y10 : Int) (y11 : Int) : Ann.clr f5a19 (f5e22 y0 y1 y2 y3 y4 y5 y6 y7 y8 y9 y10 y11) = f5e12 y0 y1 y2 y3 y4 y5 y6 y7 y8 y9 y10 := hide (by kernel_rfl)
theorem f5z18_f5e14 (y0 : Int) (y1 : Int) (y2 : Option (Nat × Nat)) (y3 : Option (Nat × Nat)) (y4 : Nat) (y5 : Option Nat) : Ann.clr f5a18 (f5e14 y0 y1 y2 y3 y4 y5) = f5e14 y0 y1 y2 y3 y4 y5 := hide (by kernel_rfl)
theorem f5z14_f5e14 (y0 : Int) (y1 : Int) (y2 : Option (Nat × Nat)) (y3 : Option (Nat × Nat)) (y4 : Nat) (y5 : Option Nat) : Ann.clr f5a14 (f5e14 y0 y1 y2 y3 y4 y5) = f5e14 y0 y1 y2 y3 y4 y5 := hide (by kernel_rfl)
theorem f5n16 {R : Type} (call : CallF R) (N : Nat) (J : KF R) (e : Env) (σ : St) : runK Try.prog call N f5c16 f5a16 J e σ = runK Try.prog call N f5c36 f5a36 (seqC (fun K e σ => runK Try.prog call N f5c37 f5a37 K e σ) f5a16 J) e σ := runK_seq' (by kernel_rfl) (by kernel_rfl) (by kernel_rfl)
theorem f5n36 {R : Type} (call : CallF R) (N : Nat) (J : KF R) (e : Env) (σ : St) : runK Try.prog call N f5c36 f5a36 J e σ = runK Try.prog call N f5c38 f5a38 (seqC (fun K e σ => runK Try.prog call N f5c39 f5a39 K e σ) f5a36 J) e σ := runK_seq' (by kernel_rfl) (by kernel_rfl) (by kernel_rfl)
theorem f5r38_f5e14 {R : Type} (call : CallF R) (N : Nat) (y0 : Int) (y1 : Int) (y2 : Option (Nat × Nat)) (y3 : Option (Nat × Nat)) (y4 : Nat) (y5 : Option Nat) (J : KF R) (σ : St) :
    runK Try.prog call N f5c38 f5a38 J (f5e14 y0 y1 y2 y3 y4 y5) σ =
J Ex.normal (f5e23 y0 y1 y2 y3 y4 y5 y3 y4 y5 (↑y4 : Int) (0 : Int)) σ := hide (by kernel_rfl)
theorem f5z36_f5e23 (y0 : Int) (y1 : Int) (y2 : Option (Nat × Nat)) (y3 : Option (Nat × Nat)) (y4 : Nat) (y5 : Option Nat) (y6 : Option (Nat × Nat)) (y7 : Nat) (y8 : Option Nat) (y9 : Int) (y10 : Int) : Ann.clr f5a36 (f5e23 y0 y1 y2 y3 y4 y5 y6 y7 y8 y9 y10) = f5e24 y0 y1 y2 y6 y7 y8 y9 y10 := hide (by kernel_rfl)
theorem f5n39 {R : Type} (call : CallF R) (N : Nat) (J : KF R) (e : Env) (σ : St) : runK Try.prog call N f5c39 f5a39 J e σ = runK Try.prog call N f5c40 f5a40 (blockC 2 f5a39 J) e σ := runK_block' (by kernel_rfl) (by kernel_rfl)
theorem f5L40_eq {R : Type} (call : CallF R) (N : Nat) (J : KF R) (e : Env) (σ : St) : f5L40 call N J e σ = runK Try.prog call N f5c41 f5a41 J e σ := hide rfl
theorem f5z40_f5e24 (y0 : Int) (y1 : Int) (y2 : Option (Nat × Nat)) (y3 : Option (Nat × Nat)) (y4 : Nat) (y5 : Option Nat) (y6 : Int) (y7 : Int) : Ann.clr f5a40 (f5e24 y0 y1 y2 y3 y4 y5 y6 y7) = f5e24 y0 y1 y2 y3 y4 y5 y6 y7 := hide (by kernel_rfl)
theorem f5l40_f5e24 {R : Type} (call : CallF R) (N : Nat) (y0 : Int) (y1 : Int) (y2 : Option (Nat × Nat)) (y3 : Option (Nat × Nat)) (y4 : Nat) (y5 : Option Nat) (y6 : Int) (y7 : Int) (J : KF R) (σ : St) : runK Try.prog call N f5c40 f5a40 J (f5e24 y0 y1 y2 y3 y4 y5 y6 y7) σ = loopK (f5L40 call N) f5a40 N J (f5e24 y0 y1 y2 y3 y4 y5 y6 y7) σ := runK_loop' (by kernel_rfl) (by kernel_rfl) (by kernel_rfl)
theorem f5n41 {R : Type} (call : CallF R) (N : Nat) (J : KF R) (e : Env) (σ : St) : runK Try.prog call N f5c41 f5a41 J e σ = runK Try.prog call N f5c42 f5a42 (seqC (fun K e σ => runK Try.prog call N f5c43 f5a43 K e σ) f5a41 J) e σ := runK_seq' (by kernel_rfl) (by kernel_rfl) (by kernel_rfl)
theorem f5r42_f5e24 {R : Type} (call : CallF R) (N : Nat) (y0 : Int) (y1 : Int) (y2 : Option (Nat × Nat)) (y3 : Option (Nat × Nat)) (y4 : Nat) (y5 : Option Nat) (y6 : Int) (y7 : Int) (J : KF R) (σ : St) :
    runK Try.prog call N f5c42 f5a42 J (f5e24 y0 y1 y2 y3 y4 y5 y6 y7) σ =
J Ex.normal (f5e25 y0 y1 y2 y3 y4 y5 y6 y7 (decide (y7 < y6))) σ := hide (by kernel_rfl)
theorem f5z41_f5e25 (y0 : Int) (y1 : Int) (y2 : Option (Nat × Nat)) (y3 : Option (Nat × Nat)) (y4 : Nat) (y5 : Option Nat) (y6 : Int) (y7 : Int) (y8 : Bool) : Ann.clr f5a41 (f5e25 y0 y1 y2 y3 y4 y5 y6 y7 y8) = f5e25 y0 y1 y2 y3 y4 y5 y6 y7 y8 := hide (by kernel_rfl)
theorem f5n43 {R : Type} (call : CallF R) (N : Nat) (J : KF R) (e : Env) (σ : St) : runK Try.prog call N f5c43 f5a43 J e σ = runK Try.prog call N f5c44 f5a44 (seqC (fun K e σ => runK Try.prog call N f5c45 f5a45 K e σ) f5a43 J) e σ := runK_seq' (by kernel_rfl) (by kernel_rfl) (by kernel_rfl)
theorem f5x44_f5e25 {R : Type} (call : CallF R) (N : Nat) (y0 : Int) (y1 : Int) (y2 : Option (Nat × Nat)) (y3 : Option (Nat × Nat)) (y4 : Nat) (y5 : Option Nat) (y6 : Int) (y7 : Int) (y8 : Bool) (J : KF R) (σ : St) : runK Try.prog call N f5c44 f5a44 J (f5e25 y0 y1 y2 y3 y4 y5 y6 y7 y8) σ = if y8 = true then runK Try.prog call N f5c46 f5a46 (condC f5a44 J) (f5e25 y0 y1 y2 y3 y4 y5 y6 y7 y8) σ else runK Try.prog call N f5c47 f5a47 (condC f5a44 J) (f5e25 y0 y1 y2 y3 y4 y5 y6 y7 y8) σ := runK_cond' (o := Operand.tmp (64 : Nat)) (by kernel_rfl) (by kernel_rfl) (by kernel_rfl) (by kernel_rfl)
theorem f5n46 {R : Type} (call : CallF R) (N : Nat) (J : KF R) (e : Env) (σ : St) : runK Try.prog call N f5c46 f5a46 J e σ = J .normal e σ := runK_skip' (by kernel_rfl)
theorem f5z44_f5e25 (y0 : Int) (y1 : Int) (y2 : Option (Nat × Nat)) (y3 : Option (Nat × Nat)) (y4 : Nat) (y5 : Option Nat) (y6 : Int) (y7 : Int) (y8 : Bool) : Ann.clr f5a44 (f5e25 y0 y1 y2 y3 y4 y5 y6 y7 y8) = f5e24 y0 y1 y2 y3 y4 y5 y6 y7 := hide (by kernel_rfl)
theorem f5y47_f5e25 {R : Type} (call : CallF R) (N : Nat) (y0 : Int) (y1 : Int) (y2 : Option (Nat × Nat)) (y3 : Option (Nat × Nat)) (y4 : Nat) (y5 : Option Nat) (y6 : Int) (y7 : Int) (y8 : Bool) (J : KF R) (σ : St) : runK Try.prog call N f5c47 f5a47 J (f5e25 y0 y1 y2 y3 y4 y5 y6 y7 y8) σ = J (.exit 2) (f5e26 y0 y1 y2) σ := runK_exit' (by kernel_rfl) (by kernel_rfl)
theorem f5z43_f5e24 (y0 : Int) (y1 : Int) (y2 : Option (Nat × Nat)) (y3 : Option (Nat × Nat)) (y4 : Nat) (y5 : Option Nat) (y6 : Int) (y7 : Int) : Ann.clr f5a43 (f5e24 y0 y1 y2 y3 y4 y5 y6 y7) = f5e24 y0 y1 y2 y3 y4 y5 y6 y7 := hide (by kernel_rfl)
theorem f5n45 {R : Type} (call : CallF R) (N : Nat) (J : KF R) (e : Env) (σ : St) : runK Try.prog call N f5c45 f5a45 J e σ = runK Try.prog call N f5c48 f5a48 (seqC (fun K e σ => runK Try.prog call N f5c49 f5a49 K e σ) f5a45 J) e σ := runK_seq' (by kernel_rfl) (by kernel_rfl) (by kernel_rfl)
theorem f5n48 {R : Type} (call : CallF R) (N : Nat) (J : KF R) (e : Env) (σ : St) : runK Try.prog call N f5c48 f5a48 J e σ = runK Try.prog call N f5c50 f5a50 (blockC 3 f5a48 J) e σ := runK_block' (by kernel_rfl) (by kernel_rfl)
theorem f5n50 {R : Type} (call : CallF R) (N : Nat) (J : KF R) (e : Env) (σ : St) : runK Try.prog call N f5c50 f5a50 J e σ = runK Try.prog call N f5c51 f5a51 (seqC (fun K e σ => runK Try.prog call N f5c52 f5a52 K e σ) f5a50 J) e σ := runK_seq' (by kernel_rfl) (by kernel_rfl) (by kernel_rfl)
theorem f5r51_f5e24 {R : Type} (call : CallF R) (N : Nat) (y0 : Int) (y1 : Int) (y2 : Option (Nat × Nat)) (y3 : Option (Nat × Nat)) (y4 : Nat) (y5 : Option Nat) (y6 : Int) (y7 : Int) (J : KF R) (σ : St) :
    runK Try.prog call N f5c51 f5a51 J (f5e24 y0 y1 y2 y3 y4 y5 y6 y7) σ =
if (0 : Int) ≤ y7 ∧ y7 < (↑y4 : Int) then
  Option.bind y3 fun v0 =>
    Option.bind (St.ld σ (Prod.fst v0) (Prod.snd v0 + Int.toNat y7 * (1 : Nat))) fun v1 =>
      Option.bind (AV.toStr v1) fun v2 =>
        J Ex.normal (f5e27 y0 y1 y2 v2 y3 y4 y5 y6 y7 (some (Prod.fst v0, Prod.snd v0 + Int.toNat y7 * (1 : Nat))) v2) σ
else none := hide (by kernel_rfl)
theorem f5z50_f5e27 (y0 : Int) (y1 : Int) (y2 : Option (Nat × Nat)) (y3 : ByteArray) (y4 : Option (Nat × Nat)) (y5 : Nat) (y6 : Option Nat) (y7 : Int) (y8 : Int) (y9 : Option (Nat × Nat)) (y10 : ByteArray) : Ann.clr f5a50 (f5e27 y0 y1 y2 y3 y4 y5 y6 y7 y8 y9 y10) = f5e28 y0 y1 y2 y3 y4 y5 y6 y7 y8 := hide (by kernel_rfl)
theorem f5n52 {R : Type} (call : CallF R) (N : Nat) (J : KF R) (e : Env) (σ : St) : runK Try.prog call N f5c52 f5a52 J e σ = runK Try.prog call N f5c53 f5a53 (seqC (fun K e σ => runK Try.prog call N f5c54 f5a54 K e σ) f5a52 J) e σ := runK_seq' (by kernel_rfl) (by kernel_rfl) (by kernel_rfl)
theorem f5r53_f5e28 {R : Type} (call : CallF R) (N : Nat) (y0 : Int) (y1 : Int) (y2 : Option (Nat × Nat)) (y3 : ByteArray) (y4 : Option (Nat × Nat)) (y5 : Nat) (y6 : Option Nat) (y7 : Int) (y8 : Int) (J : KF R) (σ : St) :
    runK Try.prog call N f5c53 f5a53 J (f5e28 y0 y1 y2 y3 y4 y5 y6 y7 y8) σ =
call (16 : Nat) [AV.ptr y2, AV.int IntKind.i64 y0, AV.int IntKind.i64 y1] σ fun v0 v1 =>
  Option.bind (AV.toSl (1 : Nat) v0) fun v2 =>
    J Ex.normal (f5e29 y0 y1 y2 y3 (Sl.o v2) (Sl.len v2) (Sl.cap v2) y4 y5 y6 y7 y8 y2 y0 y1 (Sl.o v2) (Sl.len v2) (Sl.cap v2)) v1 := hide (by kernel_rfl)
theorem f5z52_f5e29 (y0 : Int) (y1 : Int) (y2 : Option (Nat × Nat)) (y3 : ByteArray) (y4 : Option (Nat × Nat)) (y5 : Nat) (y6 : Option Nat) (y7 : Option (Nat × Nat)) (y8 : Nat) (y9 : Option Nat) (y10 : Int) (y11 : Int) (y12 : Option (Nat × Nat)) (y13 : Int) (y14 : Int) (y15 : Option (Nat × Nat)) (y16 : Nat) (y17 : Option Nat) : Ann.clr f5a52 (f5e29 y0 y1 y2 y3 y4 y5 y6 y7 y8 y9 y10 y11 y12 y13 y14 y15 y16 y17) = f5e30 y0 y1 y2 y3 y4 y5 y6 y7 y8 y9 y10 y11 := hide (by kernel_rfl)
theorem f5n54 {R : Type} (call : CallF R) (N : Nat) (J : KF R) (e : Env) (σ : St) : runK Try.prog call N f5c54 f5a54 J e σ = runK Try.prog call N f5c55 f5a55 (seqC (fun K e σ => runK Try.prog call N f5c56 f5a56 K e σ) f5a54 J) e σ := runK_seq' (by kernel_rfl) (by kernel_rfl) (by kernel_rfl)
theorem f5n55 {R : Type} (call : CallF R) (N : Nat) (J : KF R) (e : Env) (σ : St) : runK Try.prog call N f5c55 f5a55 J e σ = runK Try.prog call N f5c57 f5a57 (seqC (fun K e σ => runK Try.prog call N f5c58 f5a58 K e σ) f5a55 J) e σ := runK_seq' (by kernel_rfl) (by kernel_rfl) (by kernel_rfl)
theorem f5r57_f5e30 {R : Type} (call : CallF R) (N : Nat) (y0 : Int) (y1 : Int) (y2 : Option (Nat × Nat)) (y3 : ByteArray) (y4 : Option (Nat × Nat)) (y5 : Nat) (y6 : Option Nat) (y7 : Option (Nat × Nat)) (y8 : Nat) (y9 : Option Nat) (y10 : Int) (y11 : Int) (J : KF R) (σ : St) :
    runK Try.prog call N f5c57 f5a57 J (f5e30 y0 y1 y2 y3 y4 y5 y6 y7 y8 y9 y10 y11) σ =
J Ex.normal (f5e31 y0 y1 y2 y3 y4 y5 y6 y7 y8 y9 y10 y11 y4 y5 y6 (↑y5 : Int) ((↑y5 : Int) == (0 : Int))) σ := hide (by kernel_rfl)
theorem f5z55_f5e31 (y0 : Int) (y1 : Int) (y2 : Option (Nat × Nat)) (y3 : ByteArray) (y4 : Option (Nat × Nat)) (y5 : Nat) (y6 : Option Nat) (y7 : Option (Nat × Nat)) (y8 : Nat) (y9 : Option Nat) (y10 : Int) (y11 : Int) (y12 : Option (Nat × Nat)) (y13 : Nat) (y14 : Option Nat) (y15 : Int) (y16 : Bool) : Ann.clr f5a55 (f5e31 y0 y1 y2 y3 y4 y5 y6 y7 y8 y9 y10 y11 y12 y13 y14 y15 y16) = f5e32 y0 y1 y2 y3 y4 y5 y6 y7 y8 y9 y10 y11 y16 := hide (by kernel_rfl)
theorem f5x58_f5e32 {R : Type} (call : CallF R) (N : Nat) (y0 : Int) (y1 : Int) (y2 : Option (Nat × Nat)) (y3 : ByteArray) (y4 : Option (Nat × Nat)) (y5 : Nat) (y6 : Option Nat) (y7 : Option (Nat × Nat)) (y8 : Nat) (y9 : Option Nat) (y10 : Int) (y11 : Int) (y12 : Bool) (J : KF R) (σ : St) : runK Try.prog call N f5c58 f5a58 J (f5e32 y0 y1 y2 y3 y4 y5 y6 y7 y8 y9 y10 y11 y12) σ = if y12 = true then runK Try.prog call N f5c59 f5a59 (condC f5a58 J) (f5e32 y0 y1 y2 y3 y4 y5 y6 y7 y8 y9 y10 y11 y12) σ else runK Try.prog call N f5c60 f5a60 (condC f5a58 J) (f5e32 y0 y1 y2 y3 y4 y5 y6 y7 y8 y9 y10 y11 y12) σ := runK_cond' (o := Operand.tmp (73 : Nat)) (by kernel_rfl) (by kernel_rfl) (by kernel_rfl) (by kernel_rfl)
theorem f5n59 {R : Type} (call : CallF R) (N : Nat) (J : KF R) (e : Env) (σ : St) : runK Try.prog call N f5c59 f5a59 J e σ = runK Try.prog call N f5c61 f5a61 (seqC (fun K e σ => runK Try.prog call N f5c62 f5a62 K e σ) f5a59 J) e σ := runK_seq' (by kernel_rfl) (by kernel_rfl) (by kernel_rfl)
theorem f5r61_f5e32 {R : Type} (call : CallF R) (N : Nat) (y0 : Int) (y1 : Int) (y2 : Option (Nat × Nat)) (y3 : ByteArray) (y4 : Option (Nat × Nat)) (y5 : Nat) (y6 : Option Nat) (y7 : Option (Nat × Nat)) (y8 : Nat) (y9 : Option Nat) (y10 : Int) (y11 : Int) (y12 : Bool) (J : KF R) (σ : St) :
    runK Try.prog call N f5c61 f5a61 J (f5e32 y0 y1 y2 y3 y4 y5 y6 y7 y8 y9 y10 y11 y12) σ =
J Ex.normal (f5e33 y0 y1 false y2 y3 y4 y5 y6 y7 y8 y9 y10 y11 y12) σ := hide (by kernel_rfl)
theorem f5z59_f5e33 (y0 : Int) (y1 : Int) (y2 : Bool) (y3 : Option (Nat × Nat)) (y4 : ByteArray) (y5 : Option (Nat × Nat)) (y6 : Nat) (y7 : Option Nat) (y8 : Option (Nat × Nat)) (y9 : Nat) (y10 : Option Nat) (y11 : Int) (y12 : Int) (y13 : Bool) : Ann.clr f5a59 (f5e33 y0 y1 y2 y3 y4 y5 y6 y7 y8 y9 y10 y11 y12 y13) = f5e9 y2 := hide (by kernel_rfl)
theorem f5y62_f5e9 {R : Type} (call : CallF R) (N : Nat) (y0 : Bool) (J : KF R) (σ : St) : runK Try.prog call N f5c62 f5a62 J (f5e9 y0) σ = J .ret (f5e9 y0) σ := runK_ret' (by kernel_rfl) (by kernel_rfl)
theorem f5n60 {R : Type} (call : CallF R) (N : Nat) (J : KF R) (e : Env) (σ : St) : runK Try.prog call N f5c60 f5a60 J e σ = J .normal e σ := runK_skip' (by kernel_rfl)
theorem f5z58_f5e32 (y0 : Int) (y1 : Int) (y2 : Option (Nat × Nat)) (y3 : ByteArray) (y4 : Option (Nat × Nat)) (y5 : Nat) (y6 : Option Nat) (y7 : Option (Nat × Nat)) (y8 : Nat) (y9 : Option Nat) (y10 : Int) (y11 : Int) (y12 : Bool) : Ann.clr f5a58 (f5e32 y0 y1 y2 y3 y4 y5 y6 y7 y8 y9 y10 y11 y12) = f5e30 y0 y1 y2 y3 y4 y5 y6 y7 y8 y9 y10 y11 := hide (by kernel_rfl)
theorem f5z54_f5e30 (y0 : Int) (y1 : Int) (y2 : Option (Nat × Nat)) (y3 : ByteArray) (y4 : Option (Nat × Nat)) (y5 : Nat) (y6 : Option Nat) (y7 : Option (Nat × Nat)) (y8 : Nat) (y9 : Option Nat) (y10 : Int) (y11 : Int) : Ann.clr f5a54 (f5e30 y0 y1 y2 y3 y4 y5 y6 y7 y8 y9 y10 y11) = f5e30 y0 y1 y2 y3 y4 y5 y6 y7 y8 y9 y10 y11 := hide (by kernel_rfl)
theorem f5n56 {R : Type} (call : CallF R) (N : Nat) (J : KF R) (e : Env) (σ : St) : runK Try.prog call N f5c56 f5a56 J e σ = runK Try.prog call N f5c63 f5a63 (seqC (fun K e σ => runK Try.prog call N f5c64 f5a64 K e σ) f5a56 J) e σ := runK_seq' (by kernel_rfl) (by kernel_rfl) (by kernel_rfl)
theorem f5r63_f5e30 {R : Type} (call : CallF R) (N : Nat) (y0 : Int) (y1 : Int) (y2 : Option (Nat × Nat)) (y3 : ByteArray) (y4 : Option (Nat × Nat)) (y5 : Nat) (y6 : Option Nat) (y7 : Option (Nat × Nat)) (y8 : Nat) (y9 : Option Nat) (y10 : Int) (y11 : Int) (J : KF R) (σ : St) :
    runK Try.prog call N f5c63 f5a63 J (f5e30 y0 y1 y2 y3 y4 y5 y6 y7 y8 y9 y10 y11) σ =
if (0 : Int) ≤ (0 : Int) ∧ (0 : Int) < (↑y5 : Int) then
  Option.bind y4 fun v0 =>
    Option.bind (St.ld σ (Prod.fst v0) (Prod.snd v0)) fun v1 =>
      Option.bind (AV.toInt IntKind.i64 v1) fun v2 =>
        call (11 : Nat) [AV.ptr y2, AV.int IntKind.i64 v2] σ fun v3 v4 =>
          Option.bind (AV.toTuple v3) fun v5 =>
            if List.length v5 = (2 : Nat) then
              Option.bind (List.head? v5) fun v6 =>
                Option.bind (AV.toAgg v6) fun v7 =>
                  if List.length v7 = (4 : Nat) then
                    Option.bind (List.head? v7) fun v8 =>
                      Option.bind (AV.toInt IntKind.i64 v8) fun v9 =>
                        Option.bind (List.head? (List.tail v7)) fun v10 =>
                          Option.bind (AV.toInt IntKind.i64 v10) fun v11 =>
                            Option.bind (List.head? (List.tail (List.tail v7))) fun v12 =>
                              Option.bind (AV.toInt IntKind.i64 v12) fun v13 =>
                                Option.bind (List.head? (List.tail (List.tail (List.tail v7)))) fun v14 =>
                                  Option.bind (AV.toStr v14) fun v15 =>
                                    Option.bind (List.head? (List.tail v5)) fun v16 =>
                                      Option.bind (AV.toInt IntKind.i64 v16) fun v17 =>
                                        Option.bind
                                          (St.st
                                            (St.new v4
                                              (Blk.cells
                                                [AV.int IntKind.i64 (0 : Int), AV.int IntKind.i64 (0 : Int), AV.int IntKind.i64 (0 : Int),
                                                  AV.str (ByteArray.mk #[])]
                                                true))
                                            (St.next v4) (0 : Nat)
                                            [AV.int IntKind.i64 v9, AV.int IntKind.i64 v11, AV.int IntKind.i64 v13, AV.str v15])
                                          fun v18 =>
                                          J Ex.normal
                                            (f5e34 y0 y1 y2 y3 y4 y5 y6 (St.next v4) v17 y7 y8 y9 y10 y11 v9 v11 v13 v15 v17 y2 y4 y5 y6
                                              (some (Prod.fst v0, Prod.snd v0)) v2 v9 v11 v13 v15 v17 v9 v11 v13 v15 v17)
                                            v18
                  else none
            else none
else none := hide (by kernel_rfl)
theorem f5z56_f5e34 (y0 : Int) (y1 : Int) (y2 : Option (Nat × Nat)) (y3 : ByteArray) (y4 : Option (Nat × Nat)) (y5 : Nat) (y6 : Option Nat) (y7 : Nat) (y8 : Int) (y9 : Option (Nat × Nat)) (y10 : Nat) (y11 : Option Nat) (y12 : Int) (y13 : Int) (y14 : Int) (y15 : Int) (y16 : Int) (y17 : ByteArray) (y18 : Int) (y19 : Option (Nat × Nat)) (y20 : Option (Nat × Nat)) (y21 : Nat) (y22 : Option Nat) (y23 : Option (Nat × Nat)) (y24 : Int) (y25 : Int) (y26 : Int) (y27 : Int) (y28 : ByteArray) (y29 : Int) (y30 : Int) (y31 : Int) (y32 : Int) (y33 : ByteArray) (y34 : Int) : Ann.clr f5a56 (f5e34 y0 y1 y2 y3 y4 y5 y6 y7 y8 y9 y10 y11 y12 y13 y14 y15 y16 y17 y18 y19 y20 y21 y22 y23 y24 y25 y26 y27 y28 y29 y30 y31 y32 y33 y34) = f5e35 y0 y1 y2 y3 y7 y8 y9 y10 y11 y12 y13 := hide (by kernel_rfl)
theorem f5n64 {R : Type} (call : CallF R) (N : Nat) (J : KF R) (e : Env) (σ : St) : runK Try.prog call N f5c64 f5a64 J e σ = runK Try.prog call N f5c65 f5a65 (seqC (fun K e σ => runK Try.prog call N f5c66 f5a66 K e σ) f5a64 J) e σ := runK_seq' (by kernel_rfl) (by kernel_rfl) (by kernel_rfl)
theorem f5r65_f5e35 {R : Type} (call : CallF R) (N : Nat) (y0 : Int) (y1 : Int) (y2 : Option (Nat × Nat)) (y3 : ByteArray) (y4 : Nat) (y5 : Int) (y6 : Option (Nat × Nat)) (y7 : Nat) (y8 : Option Nat) (y9 : Int) (y10 : Int) (J : KF R) (σ : St) :
    runK Try.prog call N f5c65 f5a65 J (f5e35 y0 y1 y2 y3 y4 y5 y6 y7 y8 y9 y10) σ =
if (y5 != (0 : Int)) = true then J Ex.normal (f5e36 y0 y1 y2 y3 y4 y5 y6 y7 y8 y9 y10 y5 (y5 != (0 : Int)) true true true true true true) σ
else
  Option.bind (St.ld σ y4 (3 : Nat)) fun v0 =>
    Option.bind (AV.toStr v0) fun v1 =>
      if (!decide (v1 = y3)) = true then
        J Ex.normal
          (f5e37 y0 y1 y2 y3 y4 y5 y6 y7 y8 y9 y10 y5 (y5 != (0 : Int)) false y4 v1 y3 (!decide (v1 = y3)) (!decide (v1 = y3)) true true true true) σ
      else
        Option.bind (St.ld σ y4 (0 : Nat)) fun v2 =>
          Option.bind (AV.toInt IntKind.i64 v2) fun v3 =>
            if (v3 != y0) = true then
              J Ex.normal
                (f5e38 y0 y1 y2 y3 y4 y5 y6 y7 y8 y9 y10 y5 (y5 != (0 : Int)) false y4 v1 y3 (!decide (v1 = y3)) (!decide (v1 = y3)) false y4 v3 y0
                  (v3 != y0) (v3 != y0) true true)
                σ
            else
              Option.bind (St.ld σ y4 (1 : Nat)) fun v4 =>
                Option.bind (AV.toInt IntKind.i64 v4) fun v5 =>
                  J Ex.normal
                    (f5e39 y0 y1 y2 y3 y4 y5 y6 y7 y8 y9 y10 y5 (y5 != (0 : Int)) false y4 v1 y3 (!decide (v1 = y3)) (!decide (v1 = y3)) false y4 v3
                      y0 (v3 != y0) (v3 != y0) false y4 v5 y1 (v5 != y1) (v5 != y1))
                    σ := hide (by kernel_rfl)
theorem f5z64_f5e36 (y0 : Int) (y1 : Int) (y2 : Option (Nat × Nat)) (y3 : ByteArray) (y4 : Nat) (y5 : Int) (y6 : Option (Nat × Nat)) (y7 : Nat) (y8 : Option Nat) (y9 : Int) (y10 : Int) (y11 : Int) (y12 : Bool) (y13 : Bool) (y14 : Bool) (y15 : Bool) (y16 : Bool) (y17 : Bool) (y18 : Bool) : Ann.clr f5a64 (f5e36 y0 y1 y2 y3 y4 y5 y6 y7 y8 y9 y10 y11 y12 y13 y14 y15 y16 y17 y18) = f5e40 y0 y1 y2 y6 y7 y8 y9 y10 y18 := hide (by kernel_rfl)
theorem f5x66_f5e40 {R : Type} (call : CallF R) (N : Nat) (y0 : Int) (y1 : Int) (y2 : Option (Nat × Nat)) (y3 : Option (Nat × Nat)) (y4 : Nat) (y5 : Option Nat) (y6 : Int) (y7 : Int) (y8 : Bool) (J : KF R) (σ : St) : runK Try.prog call N f5c66 f5a66 J (f5e40 y0 y1 y2 y3 y4 y5 y6 y7 y8) σ = if y8 = true then runK Try.prog call N f5c67 f5a67 (condC f5a66 J) (f5e40 y0 y1 y2 y3 y4 y5 y6 y7 y8) σ else runK Try.prog call N f5c68 f5a68 (condC f5a66 J) (f5e40 y0 y1 y2 y3 y4 y5 y6 y7 y8) σ := runK_cond' (o := Operand.tmp (101 : Nat)) (by kernel_rfl) (by kernel_rfl) (by kernel_rfl) (by kernel_rfl)
theorem f5n67 {R : Type} (call : CallF R) (N : Nat) (J : KF R) (e : Env) (σ : St) : runK Try.prog call N f5c67 f5a67 J e σ = runK Try.prog call N f5c69 f5a69 (seqC (fun K e σ => runK Try.prog call N f5c70 f5a70 K e σ) f5a67 J) e σ := runK_seq' (by kernel_rfl) (by kernel_rfl) (by kernel_rfl)
theorem f5r69_f5e40 {R : Type} (call : CallF R) (N : Nat) (y0 : Int) (y1 : Int) (y2 : Option (Nat × Nat)) (y3 : Option (Nat × Nat)) (y4 : Nat) (y5 : Option Nat) (y6 : Int) (y7 : Int) (y8 : Bool) (J : KF R) (σ : St) :
    runK Try.prog call N f5c69 f5a69 J (f5e40 y0 y1 y2 y3 y4 y5 y6 y7 y8) σ =
J Ex.normal (f5e41 y0 y1 false y2 y3 y4 y5 y6 y7 y8) σ := hide (by kernel_rfl)
theorem f5z67_f5e41 (y0 : Int) (y1 : Int) (y2 : Bool) (y3 : Option (Nat × Nat)) (y4 : Option (Nat × Nat)) (y5 : Nat) (y6 : Option Nat) (y7 : Int) (y8 : Int) (y9 : Bool) : Ann.clr f5a67 (f5e41 y0 y1 y2 y3 y4 y5 y6 y7 y8 y9) = f5e9 y2 := hide (by kernel_rfl)
theorem f5y70_f5e9 {R : Type} (call : CallF R) (N : Nat) (y0 : Bool) (J : KF R) (σ : St) : runK Try.prog call N f5c70 f5a70 J (f5e9 y0) σ = J .ret (f5e9 y0) σ := runK_ret' (by kernel_rfl) (by kernel_rfl)
theorem f5n68 {R : Type} (call : CallF R) (N : Nat) (J : KF R) (e : Env) (σ : St) : runK Try.prog call N f5c68 f5a68 J e σ = J .normal e σ := runK_skip' (by kernel_rfl)
theorem f5z66_f5e40 (y0 : Int) (y1 : Int) (y2 : Option (Nat × Nat)) (y3 : Option (Nat × Nat)) (y4 : Nat) (y5 : Option Nat) (y6 : Int) (y7 : Int) (y8 : Bool) : Ann.clr f5a66 (f5e40 y0 y1 y2 y3 y4 y5 y6 y7 y8) = f5e24 y0 y1 y2 y3 y4 y5 y6 y7 := hide (by kernel_rfl)
theorem f5z64_f5e37 (y0 : Int) (y1 : Int) (y2 : Option (Nat × Nat)) (y3 : ByteArray) (y4 : Nat) (y5 : Int) (y6 : Option (Nat × Nat)) (y7 : Nat) (y8 : Option Nat) (y9 : Int) (y10 : Int) (y11 : Int) (y12 : Bool) (y13 : Bool) (y14 : Nat) (y15 : ByteArray) (y16 : ByteArray) (y17 : Bool) (y18 : Bool) (y19 : Bool) (y20 : Bool) (y21 : Bool) (y22 : Bool) : Ann.clr f5a64 (f5e37 y0 y1 y2 y3 y4 y5 y6 y7 y8 y9 y10 y11 y12 y13 y14 y15 y16 y17 y18 y19 y20 y21 y22) = f5e40 y0 y1 y2 y6 y7 y8 y9 y10 y22 := hide (by kernel_rfl)
theorem f5z64_f5e38 (y0 : Int) (y1 : Int) (y2 : Option (Nat × Nat)) (y3 : ByteArray) (y4 : Nat) (y5 : Int) (y6 : Option (Nat × Nat)) (y7 : Nat) (y8 : Option Nat) (y9 : Int) (y10 : Int) (y11 : Int) (y12 : Bool) (y13 : Bool) (y14 : Nat) (y15 : ByteArray) (y16 : ByteArray) (y17 : Bool) (y18 : Bool) (y19 : Bool) (y20 : Nat) (y21 : Int) (y22 : Int) (y23 : Bool) (y24 : Bool) (y25 : Bool) (y26 : Bool) : Ann.clr f5a64 (f5e38 y0 y1 y2 y3 y4 y5 y6 y7 y8 y9 y10 y11 y12 y13 y14 y15 y16 y17 y18 y19 y20 y21 y22 y23 y24 y25 y26) = f5e40 y0 y1 y2 y6 y7 y8 y9 y10 y26 := hide (by kernel_rfl)
theorem f5z64_f5e39 (y0 : Int) (y1 : Int) (y2 : Option (Nat × Nat)) (y3 : ByteArray) (y4 : Nat) (y5 : Int) (y6 : Option (Nat × Nat)) (y7 : Nat) (y8 : Option Nat) (y9 : Int) (y10 : Int) (y11 : Int) (y12 : Bool) (y13 : Bool) (y14 : Nat) (y15 : ByteArray) (y16 : ByteArray) (y17 : Bool) (y18 : Bool) (y19 : Bool) (y20 : Nat) (y21 : Int) (y22 : Int) (y23 : Bool) (y24 : Bool) (y25 : Bool) (y26 : Nat) (y27 : Int) (y28 : Int) (y29 : Bool) (y30 : Bool) : Ann.clr f5a64 (f5e39 y0 y1 y2 y3 y4 y5 y6 y7 y8 y9 y10 y11 y12 y13 y14 y15 y16 y17 y18 y19 y20 y21 y22 y23 y24 y25 y26 y27 y28 y29 y30) = f5e40 y0 y1 y2 y6 y7 y8 y9 y10 y30 := hide (by kernel_rfl)
theorem f5z48_f5e24 (y0 : Int) (y1 : Int) (y2 : Option (Nat × Nat)) (y3 : Option (Nat × Nat)) (y4 : Nat) (y5 : Option Nat) (y6 : Int) (y7 : Int) : Ann.clr f5a48 (f5e24 y0 y1 y2 y3 y4 y5 y6 y7) = f5e24 y0 y1 y2 y3 y4 y5 y6 y7 := hide (by kernel_rfl)
theorem f5z45_f5e24 (y0 : Int) (y1 : Int) (y2 : Option (Nat × Nat)) (y3 : Option (Nat × Nat)) (y4 : Nat) (y5 : Option Nat) (y6 : Int) (y7 : Int) : Ann.clr f5a45 (f5e24 y0 y1 y2 y3 y4 y5 y6 y7) = f5e24 y0 y1 y2 y3 y4 y5 y6 y7 := hide (by kernel_rfl)
theorem f5r49_f5e24 {R : Type} (call : CallF R) (N : Nat) (y0 : Int) (y1 : Int) (y2 : Option (Nat × Nat)) (y3 : Option (Nat × Nat)) (y4 : Nat) (y5 : Option Nat) (y6 : Int) (y7 : Int) (J : KF R) (σ : St) :
    runK Try.prog call N f5c49 f5a49 J (f5e24 y0 y1 y2 y3 y4 y5 y6 y7) σ =
J Ex.normal (f5e42 y0 y1 y2 y3 y4 y5 y6 (IntKind.wrap IntKind.i64 (y7 + (1 : Int))) (IntKind.wrap IntKind.i64 (y7 + (1 : Int)))) σ := hide (by kernel_rfl)
theorem f5z40_f5e42 (y0 : Int) (y1 : Int) (y2 : Option (Nat × Nat)) (y3 : Option (Nat × Nat)) (y4 : Nat) (y5 : Option Nat) (y6 : Int) (y7 : Int) (y8 : Int) : Ann.clr f5a40 (f5e42 y0 y1 y2 y3 y4 y5 y6 y7 y8) = f5e24 y0 y1 y2 y3 y4 y5 y6 y7 := hide (by kernel_rfl)
theorem f5z39_f5e26 (y0 : Int) (y1 : Int) (y2 : Option (Nat × Nat)) : Ann.clr f5a39 (f5e26 y0 y1 y2) = f5e26 y0 y1 y2 := hide (by kernel_rfl)
theorem f5z16_f5e26 (y0 : Int) (y1 : Int) (y2 : Option (Nat × Nat)) : Ann.clr f5a16 (f5e26 y0 y1 y2) = f5e26 y0 y1 y2 := hide (by kernel_rfl)
theorem f5n37 {R : Type} (call : CallF R) (N : Nat) (J : KF R) (e : Env) (σ : St) : runK Try.prog call N f5c37 f5a37 J e σ = runK Try.prog call N f5c71 f5a71 (seqC (fun K e σ => runK Try.prog call N f5c72 f5a72 K e σ) f5a37 J) e σ := runK_seq' (by kernel_rfl) (by kernel_rfl) (by kernel_rfl)
theorem f5r71_f5e26 {R : Type} (call : CallF R) (N : Nat) (y0 : Int) (y1 : Int) (y2 : Option (Nat × Nat)) (J : KF R) (σ : St) :
    runK Try.prog call N f5c71 f5a71 J (f5e26 y0 y1 y2) σ =
call (16 : Nat) [AV.ptr y2, AV.int IntKind.i64 y0, AV.int IntKind.i64 y1] σ fun v0 v1 =>
  Option.bind (AV.toSl (1 : Nat) v0) fun v2 =>
    if ((↑(Sl.len v2) : Int) == (0 : Int)) = true then
      call (9 : Nat) [] v1 fun v3 v4 =>
        Option.bind (AV.toBool v3) fun v5 =>
          J Ex.normal
            (f5e43 y0 y1 v5 y2 y2 y0 y1 (Sl.o v2) (Sl.len v2) (Sl.cap v2) (↑(Sl.len v2) : Int) ((↑(Sl.len v2) : Int) == (0 : Int)) true v5 v5) v4
    else
      J Ex.normal
        (f5e44 y0 y1 false y2 y2 y0 y1 (Sl.o v2) (Sl.len v2) (Sl.cap v2) (↑(Sl.len v2) : Int) ((↑(Sl.len v2) : Int) == (0 : Int)) false false) v1 := hide (by kernel_rfl)
theorem f5z37_f5e43 (y0 : Int) (y1 : Int) (y2 : Bool) (y3 : Option (Nat × Nat)) (y4 : Option (Nat × Nat)) (y5 : Int) (y6 : Int) (y7 : Option (Nat × Nat)) (y8 : Nat) (y9 : Option Nat) (y10 : Int) (y11 : Bool) (y12 : Bool) (y13 : Bool) (y14 : Bool) : Ann.clr f5a37 (f5e43 y0 y1 y2 y3 y4 y5 y6 y7 y8 y9 y10 y11 y12 y13 y14) = f5e9 y2 := hide (by kernel_rfl)
theorem f5y72_f5e9 {R : Type} (call : CallF R) (N : Nat) (y0 : Bool) (J : KF R) (σ : St) : runK Try.prog call N f5c72 f5a72 J (f5e9 y0) σ = J .ret (f5e9 y0) σ := runK_ret' (by kernel_rfl) (by kernel_rfl)
theorem f5z37_f5e44 (y0 : Int) (y1 : Int) (y2 : Bool) (y3 : Option (Nat × Nat)) (y4 : Option (Nat × Nat)) (y5 : Int) (y6 : Int) (y7 : Option (Nat × Nat)) (y8 : Nat) (y9 : Option Nat) (y10 : Int) (y11 : Bool) (y12 : Bool) (y13 : Bool) : Ann.clr f5a37 (f5e44 y0 y1 y2 y3 y4 y5 y6 y7 y8 y9 y10 y11 y12 y13) = f5e9 y2 := hide (by kernel_rfl)
theorem f5b_f5e9_r {R : Type} (y0 : Bool) (σ : St) (K : AV → St → Option R) : bodyC Try.prog f5rs K (Ex.ret) (f5e9 y0) σ =
K (AV.bool y0) σ := hide (by kernel_rfl)
attribute [go_sem] f5_eq f5n0 f5r1_f5e0 f5z0_f5e1 f5n2 f5r3_f5e0 f5z2_f5e2 f5n4 f5n5 f5r7_f5e3 f5z5_f5e4 f5x8_f5e6 f5n9 f5r11_f5e6 f5z9_f5e7 f5y12_f5e9 f5z9_f5e8 f5n10 f5z8_f5e6 f5z5_f5e5 f5z4_f5e3 f5n6 f5r13_f5e3 f5z6_f5e10 f5n14 f5n15 f5r17_f5e10 f5z15_f5e11 f5n18 f5L19_eq f5z19_f5e12 f5l19_f5e12 f5n20 f5r21_f5e12 f5z20_f5e13 f5n22 f5x23_f5e13 f5n25 f5z23_f5e13 f5y26_f5e13 f5z22_f5e12 f5n24 f5n27 f5n29 f5r30_f5e12 f5z29_f5e15 f5n31 f5r32_f5e16 f5z31_f5e17 f5x33_f5e20 f5r34_f5e20 f5z33_f5e21 f5n35 f5z33_f5e20 f5z31_f5e18 f5z31_f5e19 f5z27_f5e12 f5z24_f5e12 f5r28_f5e12 f5z19_f5e22 f5z18_f5e14 f5z14_f5e14 f5n16 f5n36 f5r38_f5e14 f5z36_f5e23 f5n39 f5L40_eq f5z40_f5e24 f5l40_f5e24 f5n41 f5r42_f5e24 f5z41_f5e25 f5n43 f5x44_f5e25 f5n46 f5z44_f5e25 f5y47_f5e25 f5z43_f5e24 f5n45 f5n48 f5n50 f5r51_f5e24 f5z50_f5e27 f5n52 f5r53_f5e28 f5z52_f5e29 f5n54 f5n55 f5r57_f5e30 f5z55_f5e31 f5x58_f5e32 f5n59 f5r61_f5e32 f5z59_f5e33 f5y62_f5e9 f5n60 f5z58_f5e32 f5z54_f5e30 f5n56 f5r63_f5e30 f5z56_f5e34 f5n64 f5r65_f5e35 f5z64_f5e36 f5x66_f5e40 f5n67 f5r69_f5e40 f5z67_f5e41 f5y70_f5e9 f5n68 f5z66_f5e40 f5z64_f5e37 f5z64_f5e38 f5z64_f5e39 f5z48_f5e24 f5z45_f5e24 f5r49_f5e24 f5z40_f5e42 f5z39_f5e26 f5z16_f5e26 f5n37 f5r71_f5e26 f5z37_f5e43 f5y72_f5e9 f5z37_f5e44 f5b_f5e9_r

end Go.Proofs.Ytdebkakkeaanaaa
