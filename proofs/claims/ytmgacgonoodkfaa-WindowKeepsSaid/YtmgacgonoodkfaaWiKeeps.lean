/- What the machine does with each piece of code, in plain text. PRINTED by a program of this workplace; Lean checks it. -/
import Derived.Test.YtmgacgonoodkfaaWiAnn
import Derived.Test.YtmgacgonoodkfaaProg
import Derived.KernelRfl
import Derived.Attr
namespace Go.Proofs.Ytmgacgonoodkfaa
open Go.AM
set_option maxRecDepth 100000
set_option linter.unusedVariables false
noncomputable def f12rs : List ResultVar := [ResultVar.tmp (6 : Nat)]
noncomputable def f12c0 : Code := subCode [] (bodyOf Try.prog 12)
def f12a0 : Ann := subAnn [] ann12
noncomputable def f12c1 : Code := subCode [0] (bodyOf Try.prog 12)
def f12a1 : Ann := subAnn [0] ann12
noncomputable def f12c2 : Code := subCode [1] (bodyOf Try.prog 12)
def f12a2 : Ann := subAnn [1] ann12
noncomputable def f12c3 : Code := subCode [1, 0] (bodyOf Try.prog 12)
def f12a3 : Ann := subAnn [1, 0] ann12
noncomputable def f12c4 : Code := subCode [1, 1] (bodyOf Try.prog 12)
def f12a4 : Ann := subAnn [1, 1] ann12
noncomputable def f12c5 : Code := subCode [1, 1, 0] (bodyOf Try.prog 12)
def f12a5 : Ann := subAnn [1, 1, 0] ann12
noncomputable def f12c6 : Code := subCode [1, 1, 1] (bodyOf Try.prog 12)
def f12a6 : Ann := subAnn [1, 1, 1] ann12
noncomputable def f12c7 : Code := subCode [1, 1, 0, 0] (bodyOf Try.prog 12)
def f12a7 : Ann := subAnn [1, 1, 0, 0] ann12
noncomputable def f12c8 : Code := subCode [1, 1, 0, 1] (bodyOf Try.prog 12)
def f12a8 : Ann := subAnn [1, 1, 0, 1] ann12
noncomputable def f12c9 : Code := subCode [1, 1, 0, 1, 0] (bodyOf Try.prog 12)
def f12a9 : Ann := subAnn [1, 1, 0, 1, 0] ann12
noncomputable def f12c10 : Code := subCode [1, 1, 0, 1, 1] (bodyOf Try.prog 12)
def f12a10 : Ann := subAnn [1, 1, 0, 1, 1] ann12
noncomputable def f12c11 : Code := subCode [1, 1, 0, 1, 0, 0] (bodyOf Try.prog 12)
def f12a11 : Ann := subAnn [1, 1, 0, 1, 0, 0] ann12
noncomputable def f12c12 : Code := subCode [1, 1, 0, 1, 0, 1] (bodyOf Try.prog 12)
def f12a12 : Ann := subAnn [1, 1, 0, 1, 0, 1] ann12
noncomputable def f12c13 : Code := subCode [1, 1, 1, 0] (bodyOf Try.prog 12)
def f12a13 : Ann := subAnn [1, 1, 1, 0] ann12
noncomputable def f12c14 : Code := subCode [1, 1, 1, 1] (bodyOf Try.prog 12)
def f12a14 : Ann := subAnn [1, 1, 1, 1] ann12
noncomputable def f12c15 : Code := subCode [1, 1, 1, 1, 0] (bodyOf Try.prog 12)
def f12a15 : Ann := subAnn [1, 1, 1, 1, 0] ann12
noncomputable def f12c16 : Code := subCode [1, 1, 1, 1, 1] (bodyOf Try.prog 12)
def f12a16 : Ann := subAnn [1, 1, 1, 1, 1] ann12
noncomputable def f12c17 : Code := subCode [1, 1, 1, 1, 0, 0] (bodyOf Try.prog 12)
def f12a17 : Ann := subAnn [1, 1, 1, 1, 0, 0] ann12
noncomputable def f12c18 : Code := subCode [1, 1, 1, 1, 0, 1] (bodyOf Try.prog 12)
def f12a18 : Ann := subAnn [1, 1, 1, 1, 0, 1] ann12
noncomputable def f12c19 : Code := subCode [1, 1, 1, 1, 0, 1, 0] (bodyOf Try.prog 12)
def f12a19 : Ann := subAnn [1, 1, 1, 1, 0, 1, 0] ann12
noncomputable def f12c20 : Code := subCode [1, 1, 1, 1, 0, 1, 1] (bodyOf Try.prog 12)
def f12a20 : Ann := subAnn [1, 1, 1, 1, 0, 1, 1] ann12
noncomputable def f12c21 : Code := subCode [1, 1, 1, 1, 0, 1, 0, 0] (bodyOf Try.prog 12)
def f12a21 : Ann := subAnn [1, 1, 1, 1, 0, 1, 0, 0] ann12
noncomputable def f12c22 : Code := subCode [1, 1, 1, 1, 0, 1, 0, 1] (bodyOf Try.prog 12)
def f12a22 : Ann := subAnn [1, 1, 1, 1, 0, 1, 0, 1] ann12
noncomputable def f12c23 : Code := subCode [1, 1, 1, 1, 1, 0] (bodyOf Try.prog 12)
def f12a23 : Ann := subAnn [1, 1, 1, 1, 1, 0] ann12
noncomputable def f12c24 : Code := subCode [1, 1, 1, 1, 1, 1] (bodyOf Try.prog 12)
def f12a24 : Ann := subAnn [1, 1, 1, 1, 1, 1] ann12
noncomputable def f12c25 : Code := subCode [1, 1, 1, 1, 1, 1, 0] (bodyOf Try.prog 12)
def f12a25 : Ann := subAnn [1, 1, 1, 1, 1, 1, 0] ann12
noncomputable def f12c26 : Code := subCode [1, 1, 1, 1, 1, 1, 1] (bodyOf Try.prog 12)
def f12a26 : Ann := subAnn [1, 1, 1, 1, 1, 1, 1] ann12
noncomputable def f12c27 : Code := subCode [1, 1, 1, 1, 1, 1, 1, 0] (bodyOf Try.prog 12)
def f12a27 : Ann := subAnn [1, 1, 1, 1, 1, 1, 1, 0] ann12
noncomputable def f12c28 : Code := subCode [1, 1, 1, 1, 1, 1, 1, 1] (bodyOf Try.prog 12)
def f12a28 : Ann := subAnn [1, 1, 1, 1, 1, 1, 1, 1] ann12
noncomputable def f12c29 : Code := subCode [1, 1, 1, 1, 1, 1, 1, 1, 0] (bodyOf Try.prog 12)
def f12a29 : Ann := subAnn [1, 1, 1, 1, 1, 1, 1, 1, 0] ann12
noncomputable def f12c30 : Code := subCode [1, 1, 1, 1, 1, 1, 1, 1, 1] (bodyOf Try.prog 12)
def f12a30 : Ann := subAnn [1, 1, 1, 1, 1, 1, 1, 1, 1] ann12
noncomputable def f12c31 : Code := subCode [1, 1, 1, 1, 1, 1, 1, 1, 0, 0] (bodyOf Try.prog 12)
def f12a31 : Ann := subAnn [1, 1, 1, 1, 1, 1, 1, 1, 0, 0] ann12
noncomputable def f12c32 : Code := subCode [1, 1, 1, 1, 1, 1, 1, 1, 0, 1] (bodyOf Try.prog 12)
def f12a32 : Ann := subAnn [1, 1, 1, 1, 1, 1, 1, 1, 0, 1] ann12
noncomputable def f12c33 : Code := subCode [1, 1, 1, 1, 1, 1, 1, 1, 0, 1, 0] (bodyOf Try.prog 12)
def f12a33 : Ann := subAnn [1, 1, 1, 1, 1, 1, 1, 1, 0, 1, 0] ann12
noncomputable def f12c34 : Code := subCode [1, 1, 1, 1, 1, 1, 1, 1, 0, 1, 1] (bodyOf Try.prog 12)
def f12a34 : Ann := subAnn [1, 1, 1, 1, 1, 1, 1, 1, 0, 1, 1] ann12
noncomputable def f12c35 : Code := subCode [1, 1, 1, 1, 1, 1, 1, 1, 0, 1, 0, 0] (bodyOf Try.prog 12)
def f12a35 : Ann := subAnn [1, 1, 1, 1, 1, 1, 1, 1, 0, 1, 0, 0] ann12
noncomputable def f12c36 : Code := subCode [1, 1, 1, 1, 1, 1, 1, 1, 0, 1, 0, 1] (bodyOf Try.prog 12)
def f12a36 : Ann := subAnn [1, 1, 1, 1, 1, 1, 1, 1, 0, 1, 0, 1] ann12
noncomputable def f12c37 : Code := subCode [1, 1, 1, 1, 1, 1, 1, 1, 1, 0] (bodyOf Try.prog 12)
def f12a37 : Ann := subAnn [1, 1, 1, 1, 1, 1, 1, 1, 1, 0] ann12
noncomputable def f12c38 : Code := subCode [1, 1, 1, 1, 1, 1, 1, 1, 1, 1] (bodyOf Try.prog 12)
def f12a38 : Ann := subAnn [1, 1, 1, 1, 1, 1, 1, 1, 1, 1] ann12
noncomputable def f12c39 : Code := subCode [1, 1, 1, 1, 1, 1, 1, 1, 1, 1, 0] (bodyOf Try.prog 12)
def f12a39 : Ann := subAnn [1, 1, 1, 1, 1, 1, 1, 1, 1, 1, 0] ann12
noncomputable def f12c40 : Code := subCode [1, 1, 1, 1, 1, 1, 1, 1, 1, 1, 1] (bodyOf Try.prog 12)
def f12a40 : Ann := subAnn [1, 1, 1, 1, 1, 1, 1, 1, 1, 1, 1] ann12
noncomputable def f12c41 : Code := subCode [1, 1, 1, 1, 1, 1, 1, 1, 1, 1, 1, 0] (bodyOf Try.prog 12)
def f12a41 : Ann := subAnn [1, 1, 1, 1, 1, 1, 1, 1, 1, 1, 1, 0] ann12
noncomputable def f12c42 : Code := subCode [1, 1, 1, 1, 1, 1, 1, 1, 1, 1, 1, 1] (bodyOf Try.prog 12)
def f12a42 : Ann := subAnn [1, 1, 1, 1, 1, 1, 1, 1, 1, 1, 1, 1] ann12
noncomputable def f12c43 : Code := subCode [1, 1, 1, 1, 1, 1, 1, 1, 1, 1, 1, 1, 0] (bodyOf Try.prog 12)
def f12a43 : Ann := subAnn [1, 1, 1, 1, 1, 1, 1, 1, 1, 1, 1, 1, 0] ann12
noncomputable def f12c44 : Code := subCode [1, 1, 1, 1, 1, 1, 1, 1, 1, 1, 1, 1, 1] (bodyOf Try.prog 12)
def f12a44 : Ann := subAnn [1, 1, 1, 1, 1, 1, 1, 1, 1, 1, 1, 1, 1] ann12
noncomputable def f12c45 : Code := subCode [1, 1, 1, 1, 1, 1, 1, 1, 1, 1, 1, 1, 0, 0] (bodyOf Try.prog 12)
def f12a45 : Ann := subAnn [1, 1, 1, 1, 1, 1, 1, 1, 1, 1, 1, 1, 0, 0] ann12
noncomputable def f12c46 : Code := subCode [1, 1, 1, 1, 1, 1, 1, 1, 1, 1, 1, 1, 0, 1] (bodyOf Try.prog 12)
def f12a46 : Ann := subAnn [1, 1, 1, 1, 1, 1, 1, 1, 1, 1, 1, 1, 0, 1] ann12
noncomputable def f12c47 : Code := subCode [1, 1, 1, 1, 1, 1, 1, 1, 1, 1, 1, 1, 0, 1, 0] (bodyOf Try.prog 12)
def f12a47 : Ann := subAnn [1, 1, 1, 1, 1, 1, 1, 1, 1, 1, 1, 1, 0, 1, 0] ann12
noncomputable def f12c48 : Code := subCode [1, 1, 1, 1, 1, 1, 1, 1, 1, 1, 1, 1, 0, 1, 1] (bodyOf Try.prog 12)
def f12a48 : Ann := subAnn [1, 1, 1, 1, 1, 1, 1, 1, 1, 1, 1, 1, 0, 1, 1] ann12
noncomputable def f12c49 : Code := subCode [1, 1, 1, 1, 1, 1, 1, 1, 1, 1, 1, 1, 0, 1, 0, 0] (bodyOf Try.prog 12)
def f12a49 : Ann := subAnn [1, 1, 1, 1, 1, 1, 1, 1, 1, 1, 1, 1, 0, 1, 0, 0] ann12
noncomputable def f12c50 : Code := subCode [1, 1, 1, 1, 1, 1, 1, 1, 1, 1, 1, 1, 0, 1, 0, 1] (bodyOf Try.prog 12)
def f12a50 : Ann := subAnn [1, 1, 1, 1, 1, 1, 1, 1, 1, 1, 1, 1, 0, 1, 0, 1] ann12
noncomputable def f12c51 : Code := subCode [1, 1, 1, 1, 1, 1, 1, 1, 1, 1, 1, 1, 1, 0] (bodyOf Try.prog 12)
def f12a51 : Ann := subAnn [1, 1, 1, 1, 1, 1, 1, 1, 1, 1, 1, 1, 1, 0] ann12
noncomputable def f12c52 : Code := subCode [1, 1, 1, 1, 1, 1, 1, 1, 1, 1, 1, 1, 1, 1] (bodyOf Try.prog 12)
def f12a52 : Ann := subAnn [1, 1, 1, 1, 1, 1, 1, 1, 1, 1, 1, 1, 1, 1] ann12
noncomputable def f12c53 : Code := subCode [1, 1, 1, 1, 1, 1, 1, 1, 1, 1, 1, 1, 1, 1, 0] (bodyOf Try.prog 12)
def f12a53 : Ann := subAnn [1, 1, 1, 1, 1, 1, 1, 1, 1, 1, 1, 1, 1, 1, 0] ann12
noncomputable def f12c54 : Code := subCode [1, 1, 1, 1, 1, 1, 1, 1, 1, 1, 1, 1, 1, 1, 1] (bodyOf Try.prog 12)
def f12a54 : Ann := subAnn [1, 1, 1, 1, 1, 1, 1, 1, 1, 1, 1, 1, 1, 1, 1] ann12
noncomputable def f12c55 : Code := subCode [1, 1, 1, 1, 1, 1, 1, 1, 1, 1, 1, 1, 1, 1, 0, 0] (bodyOf Try.prog 12)
def f12a55 : Ann := subAnn [1, 1, 1, 1, 1, 1, 1, 1, 1, 1, 1, 1, 1, 1, 0, 0] ann12
noncomputable def f12c56 : Code := subCode [1, 1, 1, 1, 1, 1, 1, 1, 1, 1, 1, 1, 1, 1, 0, 1] (bodyOf Try.prog 12)
def f12a56 : Ann := subAnn [1, 1, 1, 1, 1, 1, 1, 1, 1, 1, 1, 1, 1, 1, 0, 1] ann12
noncomputable def f12c57 : Code := subCode [1, 1, 1, 1, 1, 1, 1, 1, 1, 1, 1, 1, 1, 1, 0, 1, 0] (bodyOf Try.prog 12)
def f12a57 : Ann := subAnn [1, 1, 1, 1, 1, 1, 1, 1, 1, 1, 1, 1, 1, 1, 0, 1, 0] ann12
noncomputable def f12c58 : Code := subCode [1, 1, 1, 1, 1, 1, 1, 1, 1, 1, 1, 1, 1, 1, 0, 1, 1] (bodyOf Try.prog 12)
def f12a58 : Ann := subAnn [1, 1, 1, 1, 1, 1, 1, 1, 1, 1, 1, 1, 1, 1, 0, 1, 1] ann12
noncomputable def f12c59 : Code := subCode [1, 1, 1, 1, 1, 1, 1, 1, 1, 1, 1, 1, 1, 1, 1, 0] (bodyOf Try.prog 12)
def f12a59 : Ann := subAnn [1, 1, 1, 1, 1, 1, 1, 1, 1, 1, 1, 1, 1, 1, 1, 0] ann12
noncomputable def f12c60 : Code := subCode [1, 1, 1, 1, 1, 1, 1, 1, 1, 1, 1, 1, 1, 1, 1, 1] (bodyOf Try.prog 12)
def f12a60 : Ann := subAnn [1, 1, 1, 1, 1, 1, 1, 1, 1, 1, 1, 1, 1, 1, 1, 1] ann12
noncomputable def f12c61 : Code := subCode [1, 1, 1, 1, 1, 1, 1, 1, 1, 1, 1, 1, 1, 1, 1, 1, 0] (bodyOf Try.prog 12)
def f12a61 : Ann := subAnn [1, 1, 1, 1, 1, 1, 1, 1, 1, 1, 1, 1, 1, 1, 1, 1, 0] ann12
noncomputable def f12c62 : Code := subCode [1, 1, 1, 1, 1, 1, 1, 1, 1, 1, 1, 1, 1, 1, 1, 1, 1] (bodyOf Try.prog 12)
def f12a62 : Ann := subAnn [1, 1, 1, 1, 1, 1, 1, 1, 1, 1, 1, 1, 1, 1, 1, 1, 1] ann12
noncomputable def f12c63 : Code := subCode [1, 1, 1, 1, 1, 1, 1, 1, 1, 1, 1, 1, 1, 1, 1, 1, 0, 0] (bodyOf Try.prog 12)
def f12a63 : Ann := subAnn [1, 1, 1, 1, 1, 1, 1, 1, 1, 1, 1, 1, 1, 1, 1, 1, 0, 0] ann12
noncomputable def f12c64 : Code := subCode [1, 1, 1, 1, 1, 1, 1, 1, 1, 1, 1, 1, 1, 1, 1, 1, 0, 1] (bodyOf Try.prog 12)
def f12a64 : Ann := subAnn [1, 1, 1, 1, 1, 1, 1, 1, 1, 1, 1, 1, 1, 1, 1, 1, 0, 1] ann12
noncomputable def f12c65 : Code := subCode [1, 1, 1, 1, 1, 1, 1, 1, 1, 1, 1, 1, 1, 1, 1, 1, 0, 1, 0] (bodyOf Try.prog 12)
def f12a65 : Ann := subAnn [1, 1, 1, 1, 1, 1, 1, 1, 1, 1, 1, 1, 1, 1, 1, 1, 0, 1, 0] ann12
noncomputable def f12c66 : Code := subCode [1, 1, 1, 1, 1, 1, 1, 1, 1, 1, 1, 1, 1, 1, 1, 1, 0, 1, 1] (bodyOf Try.prog 12)
def f12a66 : Ann := subAnn [1, 1, 1, 1, 1, 1, 1, 1, 1, 1, 1, 1, 1, 1, 1, 1, 0, 1, 1] ann12
noncomputable def f12c67 : Code := subCode [1, 1, 1, 1, 1, 1, 1, 1, 1, 1, 1, 1, 1, 1, 1, 1, 0, 1, 0, 0] (bodyOf Try.prog 12)
def f12a67 : Ann := subAnn [1, 1, 1, 1, 1, 1, 1, 1, 1, 1, 1, 1, 1, 1, 1, 1, 0, 1, 0, 0] ann12
noncomputable def f12c68 : Code := subCode [1, 1, 1, 1, 1, 1, 1, 1, 1, 1, 1, 1, 1, 1, 1, 1, 0, 1, 0, 1] (bodyOf Try.prog 12)
def f12a68 : Ann := subAnn [1, 1, 1, 1, 1, 1, 1, 1, 1, 1, 1, 1, 1, 1, 1, 1, 0, 1, 0, 1] ann12
noncomputable def f12c69 : Code := subCode [1, 1, 1, 1, 1, 1, 1, 1, 1, 1, 1, 1, 1, 1, 1, 1, 1, 0] (bodyOf Try.prog 12)
def f12a69 : Ann := subAnn [1, 1, 1, 1, 1, 1, 1, 1, 1, 1, 1, 1, 1, 1, 1, 1, 1, 0] ann12
noncomputable def f12c70 : Code := subCode [1, 1, 1, 1, 1, 1, 1, 1, 1, 1, 1, 1, 1, 1, 1, 1, 1, 1] (bodyOf Try.prog 12)
def f12a70 : Ann := subAnn [1, 1, 1, 1, 1, 1, 1, 1, 1, 1, 1, 1, 1, 1, 1, 1, 1, 1] ann12
noncomputable def f12q21_1 {R : Type} (call : Bool → CallF R) (dem : Bool) (N : Nat) (J : KF R) : Env → St → Option R := fun e σ => opsK Try.prog dem (call dem) (opsOf f12c21) ((opsOf f12c21).toList.drop 8) (fun e σ => J .normal e σ) e σ
noncomputable def f12q21_2 {R : Type} (call : Bool → CallF R) (dem : Bool) (N : Nat) (J : KF R) : Env → St → Option R := fun e σ => opsK Try.prog dem (call dem) (opsOf f12c21) ((opsOf f12c21).toList.drop 16) (fun e σ => J .normal e σ) e σ
noncomputable def f12q63_1 {R : Type} (call : Bool → CallF R) (dem : Bool) (N : Nat) (J : KF R) : Env → St → Option R := fun e σ => opsK Try.prog dem (call dem) (opsOf f12c63) ((opsOf f12c63).toList.drop 8) (fun e σ => J .normal e σ) e σ
noncomputable def f12q63_2 {R : Type} (call : Bool → CallF R) (dem : Bool) (N : Nat) (J : KF R) : Env → St → Option R := fun e σ => opsK Try.prog dem (call dem) (opsOf f12c63) ((opsOf f12c63).toList.drop 16) (fun e σ => J .normal e σ) e σ
def f12e0 (y0 : Int) (y1 : Int) (y2 : Int) : Env := AV.int IntKind.i64 y0 :: AV.int IntKind.i64 y1 :: AV.int IntKind.i64 y2 :: Env.sp 152 []
def f12e1 (y0 : Int) (y1 : Int) (y2 : Int) (y3 : Bool) : Env := AV.int IntKind.i64 y0 :: AV.int IntKind.i64 y1 :: AV.int IntKind.i64 y2 :: Env.sp 3 (AV.bool y3 :: Env.sp 148 [])
def f12e2 (y0 : Int) (y1 : Int) (y2 : Int) (y3 : Option (Nat × Nat)) (y4 : Int) (y5 : Option (Nat × Nat)) (y6 : Int) (y7 : Int) (y8 : Option (Nat × Nat)) (y9 : Int) (y10 : Option (Nat × Nat)) (y11 : Int) : Env := AV.int IntKind.i64 y0 :: AV.int IntKind.i64 y1 :: AV.int IntKind.i64 y2 :: Env.sp 4 (AV.ptr y3 :: AV.int IntKind.i64 y4 :: Env.sp 12 (AV.tuple [AV.ptr y5, AV.int IntKind.i64 y6] :: AV.int IntKind.i64 y7 :: AV.tuple [AV.ptr y8, AV.int IntKind.i64 y9] :: AV.ptr y10 :: AV.int IntKind.i64 y11 :: Env.sp 129 []))
def f12e3 (y0 : Int) (y1 : Int) (y2 : Int) (y3 : Option (Nat × Nat)) (y4 : Int) : Env := AV.int IntKind.i64 y0 :: AV.int IntKind.i64 y1 :: AV.int IntKind.i64 y2 :: Env.sp 4 (AV.ptr y3 :: AV.int IntKind.i64 y4 :: Env.sp 146 [])
def f12e4 (y0 : Int) (y1 : Int) (y2 : Int) (y3 : Option (Nat × Nat)) (y4 : Int) (y5 : Int) (y6 : Bool) (y7 : Bool) (y8 : Bool) : Env := AV.int IntKind.i64 y0 :: AV.int IntKind.i64 y1 :: AV.int IntKind.i64 y2 :: Env.sp 4 (AV.ptr y3 :: AV.int IntKind.i64 y4 :: Env.sp 17 (AV.int IntKind.i64 y5 :: AV.bool y6 :: AV.bool y7 :: AV.tuple [] :: AV.tuple [] :: AV.bool y8 :: Env.sp 123 []))
def f12e5 (y0 : Int) (y1 : Int) (y2 : Int) (y3 : Option (Nat × Nat)) (y4 : Int) (y5 : Int) (y6 : Bool) (y7 : Bool) (y8 : Option (Nat × Nat)) (y9 : Bool) (y10 : Bool) : Env := AV.int IntKind.i64 y0 :: AV.int IntKind.i64 y1 :: AV.int IntKind.i64 y2 :: Env.sp 4 (AV.ptr y3 :: AV.int IntKind.i64 y4 :: Env.sp 17 (AV.int IntKind.i64 y5 :: AV.bool y6 :: AV.bool y7 :: AV.ptr y8 :: AV.bool y9 :: AV.bool y10 :: Env.sp 123 []))
def f12e6 (y0 : Int) (y1 : Int) (y2 : Int) (y3 : Option (Nat × Nat)) (y4 : Bool) : Env := AV.int IntKind.i64 y0 :: AV.int IntKind.i64 y1 :: AV.int IntKind.i64 y2 :: Env.sp 4 (AV.ptr y3 :: Env.sp 23 (AV.bool y4 :: Env.sp 123 []))
def f12e7 (y0 : Int) (y1 : Int) (y2 : Int) (y3 : Bool) (y4 : Option (Nat × Nat)) (y5 : Bool) (y6 : Int) (y7 : Bool) (y8 : Bool) (y9 : Bool) (y10 : Bool) (y11 : Bool) : Env := AV.int IntKind.i64 y0 :: AV.int IntKind.i64 y1 :: AV.int IntKind.i64 y2 :: Env.sp 3 (AV.bool y3 :: AV.ptr y4 :: Env.sp 23 (AV.bool y5 :: AV.int IntKind.i64 y6 :: AV.bool y7 :: AV.bool y8 :: AV.bool y9 :: AV.bool y10 :: AV.bool y11 :: Env.sp 117 []))
def f12e8 (y0 : Int) (y1 : Int) (y2 : Int) (y3 : Bool) (y4 : Option (Nat × Nat)) (y5 : Bool) (y6 : Int) (y7 : Bool) (y8 : Bool) (y9 : Bool) (y10 : Bool) : Env := AV.int IntKind.i64 y0 :: AV.int IntKind.i64 y1 :: AV.int IntKind.i64 y2 :: Env.sp 3 (AV.bool y3 :: AV.ptr y4 :: Env.sp 23 (AV.bool y5 :: AV.int IntKind.i64 y6 :: AV.bool y7 :: AV.bool y8 :: AV.bool y9 :: AV.tuple [] :: AV.bool y10 :: Env.sp 117 []))
def f12e9 (y0 : Bool) : Env := Env.sp 6 (AV.bool y0 :: Env.sp 148 [])
def f12e10 (y0 : Int) (y1 : Int) (y2 : Int) (y3 : Option (Nat × Nat)) : Env := AV.int IntKind.i64 y0 :: AV.int IntKind.i64 y1 :: AV.int IntKind.i64 y2 :: Env.sp 4 (AV.ptr y3 :: Env.sp 147 [])
def f12e11 (y0 : Int) (y1 : Int) (y2 : Int) (y3 : Option (Nat × Nat)) (y4 : Option (Nat × Nat)) (y5 : Int) (y6 : Option (Nat × Nat)) (y7 : Int) (y8 : Option (Nat × Nat)) (y9 : Int) (y10 : Int) (y11 : Option (Nat × Nat)) (y12 : Int) (y13 : Option (Nat × Nat)) (y14 : Int) : Env := AV.int IntKind.i64 y0 :: AV.int IntKind.i64 y1 :: AV.int IntKind.i64 y2 :: Env.sp 4 (AV.ptr y3 :: Env.sp 1 (AV.ptr y4 :: AV.int IntKind.i64 y5 :: Env.sp 27 (AV.tuple [AV.ptr y6, AV.int IntKind.i64 y7] :: AV.ptr y8 :: AV.int IntKind.i64 y9 :: AV.int IntKind.i64 y10 :: AV.tuple [AV.ptr y11, AV.int IntKind.i64 y12] :: AV.ptr y13 :: AV.int IntKind.i64 y14 :: Env.sp 110 [])))
def f12e12 (y0 : Int) (y1 : Int) (y2 : Int) (y3 : Option (Nat × Nat)) (y4 : Option (Nat × Nat)) (y5 : Int) : Env := AV.int IntKind.i64 y0 :: AV.int IntKind.i64 y1 :: AV.int IntKind.i64 y2 :: Env.sp 4 (AV.ptr y3 :: Env.sp 1 (AV.ptr y4 :: AV.int IntKind.i64 y5 :: Env.sp 144 []))
def f12e13 (y0 : Int) (y1 : Int) (y2 : Int) (y3 : Option (Nat × Nat)) (y4 : Option (Nat × Nat)) (y5 : Int) (y6 : Int) (y7 : Bool) : Env := AV.int IntKind.i64 y0 :: AV.int IntKind.i64 y1 :: AV.int IntKind.i64 y2 :: Env.sp 4 (AV.ptr y3 :: Env.sp 1 (AV.ptr y4 :: AV.int IntKind.i64 y5 :: Env.sp 34 (AV.int IntKind.i64 y6 :: AV.bool y7 :: Env.sp 108 [])))
def f12e14 (y0 : Int) (y1 : Int) (y2 : Int) (y3 : Option (Nat × Nat)) (y4 : Option (Nat × Nat)) (y5 : Bool) : Env := AV.int IntKind.i64 y0 :: AV.int IntKind.i64 y1 :: AV.int IntKind.i64 y2 :: Env.sp 4 (AV.ptr y3 :: Env.sp 1 (AV.ptr y4 :: Env.sp 36 (AV.bool y5 :: Env.sp 108 [])))
def f12e15 (y0 : Int) (y1 : Int) (y2 : Int) (y3 : Option (Nat × Nat)) (y4 : Option (Nat × Nat)) (y5 : Bool) (y6 : Int) (y7 : Bool) (y8 : Bool) (y9 : Bool) (y10 : Bool) : Env := AV.int IntKind.i64 y0 :: AV.int IntKind.i64 y1 :: AV.int IntKind.i64 y2 :: Env.sp 4 (AV.ptr y3 :: Env.sp 1 (AV.ptr y4 :: Env.sp 36 (AV.bool y5 :: AV.int IntKind.i64 y6 :: AV.bool y7 :: AV.bool y8 :: AV.tuple [] :: AV.tuple [] :: AV.bool y9 :: AV.bool y10 :: AV.tuple [] :: Env.sp 100 [])))
def f12e16 (y0 : Int) (y1 : Int) (y2 : Int) (y3 : Option (Nat × Nat)) (y4 : Option (Nat × Nat)) (y5 : Bool) (y6 : Int) (y7 : Bool) (y8 : Bool) (y9 : Int) (y10 : Bool) (y11 : Bool) (y12 : Bool) : Env := AV.int IntKind.i64 y0 :: AV.int IntKind.i64 y1 :: AV.int IntKind.i64 y2 :: Env.sp 4 (AV.ptr y3 :: Env.sp 1 (AV.ptr y4 :: Env.sp 36 (AV.bool y5 :: AV.int IntKind.i64 y6 :: AV.bool y7 :: AV.bool y8 :: AV.int IntKind.i64 y9 :: AV.bool y10 :: AV.bool y11 :: AV.bool y12 :: AV.tuple [] :: Env.sp 100 [])))
def f12e17 (y0 : Int) (y1 : Int) (y2 : Int) (y3 : Option (Nat × Nat)) (y4 : Option (Nat × Nat)) (y5 : Bool) (y6 : Int) (y7 : Bool) (y8 : Bool) (y9 : Int) (y10 : Bool) (y11 : Bool) (y12 : Bool) (y13 : Int) : Env := AV.int IntKind.i64 y0 :: AV.int IntKind.i64 y1 :: AV.int IntKind.i64 y2 :: Env.sp 4 (AV.ptr y3 :: Env.sp 1 (AV.ptr y4 :: Env.sp 36 (AV.bool y5 :: AV.int IntKind.i64 y6 :: AV.bool y7 :: AV.bool y8 :: AV.int IntKind.i64 y9 :: AV.bool y10 :: AV.bool y11 :: AV.bool y12 :: AV.int IntKind.i64 y13 :: Env.sp 100 [])))
def f12e18 (y0 : Int) (y1 : Int) (y2 : Int) (y3 : Option (Nat × Nat)) (y4 : Option (Nat × Nat)) (y5 : Bool) (y6 : Int) (y7 : Bool) (y8 : Bool) (y9 : Bool) (y10 : Bool) (y11 : Bool) (y12 : Bool) (y13 : Bool) (y14 : Bool) (y15 : Bool) : Env := AV.int IntKind.i64 y0 :: AV.int IntKind.i64 y1 :: AV.int IntKind.i64 y2 :: Env.sp 4 (AV.ptr y3 :: Env.sp 1 (AV.ptr y4 :: Env.sp 36 (AV.bool y5 :: AV.int IntKind.i64 y6 :: AV.bool y7 :: AV.bool y8 :: AV.tuple [] :: AV.tuple [] :: AV.bool y9 :: AV.bool y10 :: AV.tuple [] :: AV.tuple [] :: AV.bool y11 :: AV.bool y12 :: AV.tuple [] :: AV.tuple [] :: AV.bool y13 :: AV.bool y14 :: AV.bool y15 :: Env.sp 92 [])))
def f12e19 (y0 : Int) (y1 : Int) (y2 : Int) (y3 : Option (Nat × Nat)) (y4 : Option (Nat × Nat)) (y5 : Bool) (y6 : Int) (y7 : Bool) (y8 : Bool) (y9 : Int) (y10 : Bool) (y11 : Bool) (y12 : Bool) (y13 : Bool) (y14 : Bool) (y15 : Bool) (y16 : Bool) (y17 : Bool) : Env := AV.int IntKind.i64 y0 :: AV.int IntKind.i64 y1 :: AV.int IntKind.i64 y2 :: Env.sp 4 (AV.ptr y3 :: Env.sp 1 (AV.ptr y4 :: Env.sp 36 (AV.bool y5 :: AV.int IntKind.i64 y6 :: AV.bool y7 :: AV.bool y8 :: AV.int IntKind.i64 y9 :: AV.bool y10 :: AV.bool y11 :: AV.bool y12 :: AV.tuple [] :: AV.tuple [] :: AV.bool y13 :: AV.bool y14 :: AV.tuple [] :: AV.tuple [] :: AV.bool y15 :: AV.bool y16 :: AV.bool y17 :: Env.sp 92 [])))
def f12e20 (y0 : Int) (y1 : Int) (y2 : Int) (y3 : Option (Nat × Nat)) (y4 : Option (Nat × Nat)) (y5 : Bool) (y6 : Int) (y7 : Bool) (y8 : Bool) (y9 : Int) (y10 : Bool) (y11 : Bool) (y12 : Bool) (y13 : Int) (y14 : Bool) (y15 : Bool) (y16 : Bool) (y17 : Bool) (y18 : Bool) : Env := AV.int IntKind.i64 y0 :: AV.int IntKind.i64 y1 :: AV.int IntKind.i64 y2 :: Env.sp 4 (AV.ptr y3 :: Env.sp 1 (AV.ptr y4 :: Env.sp 36 (AV.bool y5 :: AV.int IntKind.i64 y6 :: AV.bool y7 :: AV.bool y8 :: AV.int IntKind.i64 y9 :: AV.bool y10 :: AV.bool y11 :: AV.bool y12 :: AV.int IntKind.i64 y13 :: AV.tuple [] :: AV.bool y14 :: AV.bool y15 :: AV.tuple [] :: AV.tuple [] :: AV.bool y16 :: AV.bool y17 :: AV.bool y18 :: Env.sp 92 [])))
def f12e21 (y0 : Int) (y1 : Int) (y2 : Int) (y3 : Option (Nat × Nat)) (y4 : Option (Nat × Nat)) (y5 : Bool) (y6 : Int) (y7 : Bool) (y8 : Bool) (y9 : Int) (y10 : Bool) (y11 : Bool) (y12 : Bool) (y13 : Int) (y14 : Bool) (y15 : Bool) (y16 : Bool) (y17 : Bool) (y18 : Bool) (y19 : Bool) : Env := AV.int IntKind.i64 y0 :: AV.int IntKind.i64 y1 :: AV.int IntKind.i64 y2 :: Env.sp 4 (AV.ptr y3 :: Env.sp 1 (AV.ptr y4 :: Env.sp 36 (AV.bool y5 :: AV.int IntKind.i64 y6 :: AV.bool y7 :: AV.bool y8 :: AV.int IntKind.i64 y9 :: AV.bool y10 :: AV.bool y11 :: AV.bool y12 :: AV.int IntKind.i64 y13 :: AV.bool y14 :: AV.bool y15 :: AV.bool y16 :: AV.tuple [] :: AV.tuple [] :: AV.bool y17 :: AV.bool y18 :: AV.bool y19 :: Env.sp 92 [])))
def f12e22 (y0 : Int) (y1 : Int) (y2 : Int) (y3 : Option (Nat × Nat)) (y4 : Option (Nat × Nat)) (y5 : Bool) (y6 : Int) (y7 : Bool) (y8 : Bool) (y9 : Int) (y10 : Bool) (y11 : Bool) (y12 : Bool) (y13 : Int) (y14 : Bool) (y15 : Bool) (y16 : Bool) (y17 : Int) (y18 : Bool) (y19 : Bool) (y20 : Bool) (y21 : Bool) : Env := AV.int IntKind.i64 y0 :: AV.int IntKind.i64 y1 :: AV.int IntKind.i64 y2 :: Env.sp 4 (AV.ptr y3 :: Env.sp 1 (AV.ptr y4 :: Env.sp 36 (AV.bool y5 :: AV.int IntKind.i64 y6 :: AV.bool y7 :: AV.bool y8 :: AV.int IntKind.i64 y9 :: AV.bool y10 :: AV.bool y11 :: AV.bool y12 :: AV.int IntKind.i64 y13 :: AV.bool y14 :: AV.bool y15 :: AV.bool y16 :: AV.int IntKind.i64 y17 :: AV.bool y18 :: AV.bool y19 :: AV.bool y20 :: AV.bool y21 :: Env.sp 92 [])))
def f12e23 (y0 : Int) (y1 : Int) (y2 : Int) (y3 : Option (Nat × Nat)) (y4 : Option (Nat × Nat)) (y5 : Bool) (y6 : Int) (y7 : Bool) (y8 : Bool) (y9 : Int) (y10 : Bool) (y11 : Bool) (y12 : Bool) (y13 : Int) (y14 : Bool) (y15 : Bool) (y16 : Bool) (y17 : Int) (y18 : Bool) (y19 : Bool) (y20 : Bool) : Env := AV.int IntKind.i64 y0 :: AV.int IntKind.i64 y1 :: AV.int IntKind.i64 y2 :: Env.sp 4 (AV.ptr y3 :: Env.sp 1 (AV.ptr y4 :: Env.sp 36 (AV.bool y5 :: AV.int IntKind.i64 y6 :: AV.bool y7 :: AV.bool y8 :: AV.int IntKind.i64 y9 :: AV.bool y10 :: AV.bool y11 :: AV.bool y12 :: AV.int IntKind.i64 y13 :: AV.bool y14 :: AV.bool y15 :: AV.bool y16 :: AV.int IntKind.i64 y17 :: AV.bool y18 :: AV.bool y19 :: AV.bool y20 :: AV.tuple [] :: Env.sp 92 [])))
def f12e24 (y0 : Int) (y1 : Int) (y2 : Int) (y3 : Bool) (y4 : Option (Nat × Nat)) (y5 : Option (Nat × Nat)) (y6 : Bool) (y7 : Int) (y8 : Bool) (y9 : Bool) (y10 : Bool) (y11 : Bool) (y12 : Bool) (y13 : Bool) (y14 : Bool) (y15 : Bool) (y16 : Bool) (y17 : Bool) : Env := AV.int IntKind.i64 y0 :: AV.int IntKind.i64 y1 :: AV.int IntKind.i64 y2 :: Env.sp 3 (AV.bool y3 :: AV.ptr y4 :: Env.sp 1 (AV.ptr y5 :: Env.sp 36 (AV.bool y6 :: AV.int IntKind.i64 y7 :: AV.bool y8 :: AV.bool y9 :: AV.tuple [] :: AV.tuple [] :: AV.bool y10 :: AV.bool y11 :: AV.tuple [] :: AV.tuple [] :: AV.bool y12 :: AV.bool y13 :: AV.tuple [] :: AV.tuple [] :: AV.bool y14 :: AV.bool y15 :: AV.bool y16 :: AV.bool y17 :: Env.sp 91 [])))
def f12e25 (y0 : Int) (y1 : Int) (y2 : Int) (y3 : Bool) (y4 : Option (Nat × Nat)) (y5 : Option (Nat × Nat)) (y6 : Bool) (y7 : Int) (y8 : Bool) (y9 : Bool) (y10 : Int) (y11 : Bool) (y12 : Bool) (y13 : Bool) (y14 : Bool) (y15 : Bool) (y16 : Bool) (y17 : Bool) (y18 : Bool) (y19 : Bool) : Env := AV.int IntKind.i64 y0 :: AV.int IntKind.i64 y1 :: AV.int IntKind.i64 y2 :: Env.sp 3 (AV.bool y3 :: AV.ptr y4 :: Env.sp 1 (AV.ptr y5 :: Env.sp 36 (AV.bool y6 :: AV.int IntKind.i64 y7 :: AV.bool y8 :: AV.bool y9 :: AV.int IntKind.i64 y10 :: AV.bool y11 :: AV.bool y12 :: AV.bool y13 :: AV.tuple [] :: AV.tuple [] :: AV.bool y14 :: AV.bool y15 :: AV.tuple [] :: AV.tuple [] :: AV.bool y16 :: AV.bool y17 :: AV.bool y18 :: AV.bool y19 :: Env.sp 91 [])))
def f12e26 (y0 : Int) (y1 : Int) (y2 : Int) (y3 : Bool) (y4 : Option (Nat × Nat)) (y5 : Option (Nat × Nat)) (y6 : Bool) (y7 : Int) (y8 : Bool) (y9 : Bool) (y10 : Int) (y11 : Bool) (y12 : Bool) (y13 : Bool) (y14 : Int) (y15 : Bool) (y16 : Bool) (y17 : Bool) (y18 : Bool) (y19 : Bool) (y20 : Bool) : Env := AV.int IntKind.i64 y0 :: AV.int IntKind.i64 y1 :: AV.int IntKind.i64 y2 :: Env.sp 3 (AV.bool y3 :: AV.ptr y4 :: Env.sp 1 (AV.ptr y5 :: Env.sp 36 (AV.bool y6 :: AV.int IntKind.i64 y7 :: AV.bool y8 :: AV.bool y9 :: AV.int IntKind.i64 y10 :: AV.bool y11 :: AV.bool y12 :: AV.bool y13 :: AV.int IntKind.i64 y14 :: AV.tuple [] :: AV.bool y15 :: AV.bool y16 :: AV.tuple [] :: AV.tuple [] :: AV.bool y17 :: AV.bool y18 :: AV.bool y19 :: AV.bool y20 :: Env.sp 91 [])))
def f12e27 (y0 : Int) (y1 : Int) (y2 : Int) (y3 : Bool) (y4 : Option (Nat × Nat)) (y5 : Option (Nat × Nat)) (y6 : Bool) (y7 : Int) (y8 : Bool) (y9 : Bool) (y10 : Int) (y11 : Bool) (y12 : Bool) (y13 : Bool) (y14 : Int) (y15 : Bool) (y16 : Bool) (y17 : Bool) (y18 : Bool) (y19 : Bool) (y20 : Bool) (y21 : Bool) : Env := AV.int IntKind.i64 y0 :: AV.int IntKind.i64 y1 :: AV.int IntKind.i64 y2 :: Env.sp 3 (AV.bool y3 :: AV.ptr y4 :: Env.sp 1 (AV.ptr y5 :: Env.sp 36 (AV.bool y6 :: AV.int IntKind.i64 y7 :: AV.bool y8 :: AV.bool y9 :: AV.int IntKind.i64 y10 :: AV.bool y11 :: AV.bool y12 :: AV.bool y13 :: AV.int IntKind.i64 y14 :: AV.bool y15 :: AV.bool y16 :: AV.bool y17 :: AV.tuple [] :: AV.tuple [] :: AV.bool y18 :: AV.bool y19 :: AV.bool y20 :: AV.bool y21 :: Env.sp 91 [])))
def f12e28 (y0 : Int) (y1 : Int) (y2 : Int) (y3 : Bool) (y4 : Option (Nat × Nat)) (y5 : Option (Nat × Nat)) (y6 : Bool) (y7 : Int) (y8 : Bool) (y9 : Bool) (y10 : Int) (y11 : Bool) (y12 : Bool) (y13 : Bool) (y14 : Int) (y15 : Bool) (y16 : Bool) (y17 : Bool) (y18 : Int) (y19 : Bool) (y20 : Bool) (y21 : Bool) (y22 : Bool) (y23 : Bool) : Env := AV.int IntKind.i64 y0 :: AV.int IntKind.i64 y1 :: AV.int IntKind.i64 y2 :: Env.sp 3 (AV.bool y3 :: AV.ptr y4 :: Env.sp 1 (AV.ptr y5 :: Env.sp 36 (AV.bool y6 :: AV.int IntKind.i64 y7 :: AV.bool y8 :: AV.bool y9 :: AV.int IntKind.i64 y10 :: AV.bool y11 :: AV.bool y12 :: AV.bool y13 :: AV.int IntKind.i64 y14 :: AV.bool y15 :: AV.bool y16 :: AV.bool y17 :: AV.int IntKind.i64 y18 :: AV.bool y19 :: AV.bool y20 :: AV.bool y21 :: AV.bool y22 :: AV.bool y23 :: Env.sp 91 [])))
def f12e29 (y0 : Int) (y1 : Int) (y2 : Int) (y3 : Bool) (y4 : Option (Nat × Nat)) (y5 : Option (Nat × Nat)) (y6 : Bool) (y7 : Int) (y8 : Bool) (y9 : Bool) (y10 : Int) (y11 : Bool) (y12 : Bool) (y13 : Bool) (y14 : Int) (y15 : Bool) (y16 : Bool) (y17 : Bool) (y18 : Int) (y19 : Bool) (y20 : Bool) (y21 : Bool) (y22 : Bool) : Env := AV.int IntKind.i64 y0 :: AV.int IntKind.i64 y1 :: AV.int IntKind.i64 y2 :: Env.sp 3 (AV.bool y3 :: AV.ptr y4 :: Env.sp 1 (AV.ptr y5 :: Env.sp 36 (AV.bool y6 :: AV.int IntKind.i64 y7 :: AV.bool y8 :: AV.bool y9 :: AV.int IntKind.i64 y10 :: AV.bool y11 :: AV.bool y12 :: AV.bool y13 :: AV.int IntKind.i64 y14 :: AV.bool y15 :: AV.bool y16 :: AV.bool y17 :: AV.int IntKind.i64 y18 :: AV.bool y19 :: AV.bool y20 :: AV.bool y21 :: AV.tuple [] :: AV.bool y22 :: Env.sp 91 [])))
def f12e30 (y0 : Int) (y1 : Int) (y2 : Int) (y3 : Option (Nat × Nat)) (y4 : Option (Nat × Nat)) : Env := AV.int IntKind.i64 y0 :: AV.int IntKind.i64 y1 :: AV.int IntKind.i64 y2 :: Env.sp 4 (AV.ptr y3 :: Env.sp 1 (AV.ptr y4 :: Env.sp 145 []))
def f12e31 (y0 : Int) (y1 : Int) (y2 : Int) (y3 : Option (Nat × Nat)) (y4 : Option (Nat × Nat)) (y5 : Int) (y6 : Int) (y7 : Int) (y8 : Int) (y9 : Int) (y10 : Int) : Env := AV.int IntKind.i64 y0 :: AV.int IntKind.i64 y1 :: AV.int IntKind.i64 y2 :: Env.sp 4 (AV.ptr y3 :: Env.sp 1 (AV.ptr y4 :: Env.sp 1 (AV.int IntKind.i64 y5 :: Env.sp 52 (AV.int IntKind.i64 y6 :: AV.int IntKind.i64 y7 :: AV.int IntKind.i64 y8 :: AV.int IntKind.i64 y9 :: AV.int IntKind.i64 y10 :: Env.sp 86 []))))
def f12e32 (y0 : Int) (y1 : Int) (y2 : Option (Nat × Nat)) (y3 : Option (Nat × Nat)) (y4 : Int) : Env := Env.sp 1 (AV.int IntKind.i64 y0 :: AV.int IntKind.i64 y1 :: Env.sp 4 (AV.ptr y2 :: Env.sp 1 (AV.ptr y3 :: Env.sp 1 (AV.int IntKind.i64 y4 :: Env.sp 143 []))))
def f12e33 (y0 : Int) (y1 : Int) (y2 : Option (Nat × Nat)) (y3 : Option (Nat × Nat)) (y4 : Int) (y5 : Option (Nat × Nat)) (y6 : Int) (y7 : Bool) (y8 : Int) : Env := Env.sp 1 (AV.int IntKind.i64 y0 :: AV.int IntKind.i64 y1 :: Env.sp 4 (AV.ptr y2 :: Env.sp 1 (AV.ptr y3 :: Env.sp 1 (AV.int IntKind.i64 y4 :: Env.sp 57 (AV.ptr y5 :: AV.int IntKind.i64 y6 :: AV.tuple [AV.bool y7, AV.int IntKind.i64 y8] :: Env.sp 83 [])))))
def f12e34 (y0 : Int) (y1 : Int) (y2 : Option (Nat × Nat)) : Env := Env.sp 1 (AV.int IntKind.i64 y0 :: AV.int IntKind.i64 y1 :: Env.sp 4 (AV.ptr y2 :: Env.sp 147 []))
def f12e35 (y0 : Int) (y1 : Int) (y2 : Option (Nat × Nat)) (y3 : Option (Nat × Nat)) (y4 : Int) (y5 : Option (Nat × Nat)) (y6 : Int) (y7 : Option (Nat × Nat)) (y8 : Int) (y9 : Int) (y10 : Option (Nat × Nat)) (y11 : Int) (y12 : Option (Nat × Nat)) (y13 : Int) : Env := Env.sp 1 (AV.int IntKind.i64 y0 :: AV.int IntKind.i64 y1 :: Env.sp 4 (AV.ptr y2 :: Env.sp 4 (AV.ptr y3 :: AV.int IntKind.i64 y4 :: Env.sp 58 (AV.tuple [AV.ptr y5, AV.int IntKind.i64 y6] :: AV.ptr y7 :: AV.int IntKind.i64 y8 :: AV.int IntKind.i64 y9 :: AV.tuple [AV.ptr y10, AV.int IntKind.i64 y11] :: AV.ptr y12 :: AV.int IntKind.i64 y13 :: Env.sp 76 []))))
def f12e36 (y0 : Int) (y1 : Int) (y2 : Option (Nat × Nat)) (y3 : Option (Nat × Nat)) (y4 : Int) : Env := Env.sp 1 (AV.int IntKind.i64 y0 :: AV.int IntKind.i64 y1 :: Env.sp 4 (AV.ptr y2 :: Env.sp 4 (AV.ptr y3 :: AV.int IntKind.i64 y4 :: Env.sp 141 [])))
def f12e37 (y0 : Int) (y1 : Int) (y2 : Option (Nat × Nat)) (y3 : Option (Nat × Nat)) (y4 : Int) (y5 : Int) (y6 : Bool) (y7 : Bool) (y8 : Bool) : Env := Env.sp 1 (AV.int IntKind.i64 y0 :: AV.int IntKind.i64 y1 :: Env.sp 4 (AV.ptr y2 :: Env.sp 4 (AV.ptr y3 :: AV.int IntKind.i64 y4 :: Env.sp 65 (AV.int IntKind.i64 y5 :: AV.bool y6 :: AV.bool y7 :: AV.tuple [] :: AV.tuple [] :: AV.bool y8 :: Env.sp 70 []))))
def f12e38 (y0 : Int) (y1 : Int) (y2 : Option (Nat × Nat)) (y3 : Option (Nat × Nat)) (y4 : Int) (y5 : Int) (y6 : Bool) (y7 : Bool) (y8 : Option (Nat × Nat)) (y9 : Bool) (y10 : Bool) : Env := Env.sp 1 (AV.int IntKind.i64 y0 :: AV.int IntKind.i64 y1 :: Env.sp 4 (AV.ptr y2 :: Env.sp 4 (AV.ptr y3 :: AV.int IntKind.i64 y4 :: Env.sp 65 (AV.int IntKind.i64 y5 :: AV.bool y6 :: AV.bool y7 :: AV.ptr y8 :: AV.bool y9 :: AV.bool y10 :: Env.sp 70 []))))
def f12e39 (y0 : Int) (y1 : Int) (y2 : Option (Nat × Nat)) (y3 : Option (Nat × Nat)) (y4 : Bool) : Env := Env.sp 1 (AV.int IntKind.i64 y0 :: AV.int IntKind.i64 y1 :: Env.sp 4 (AV.ptr y2 :: Env.sp 4 (AV.ptr y3 :: Env.sp 71 (AV.bool y4 :: Env.sp 70 []))))
def f12e40 (y0 : Int) (y1 : Int) (y2 : Bool) (y3 : Option (Nat × Nat)) (y4 : Option (Nat × Nat)) (y5 : Bool) : Env := Env.sp 1 (AV.int IntKind.i64 y0 :: AV.int IntKind.i64 y1 :: Env.sp 3 (AV.bool y2 :: AV.ptr y3 :: Env.sp 4 (AV.ptr y4 :: Env.sp 71 (AV.bool y5 :: Env.sp 70 []))))
def f12e41 (y0 : Int) (y1 : Int) (y2 : Option (Nat × Nat)) (y3 : Option (Nat × Nat)) : Env := Env.sp 1 (AV.int IntKind.i64 y0 :: AV.int IntKind.i64 y1 :: Env.sp 4 (AV.ptr y2 :: Env.sp 4 (AV.ptr y3 :: Env.sp 142 [])))
def f12e42 (y0 : Int) (y1 : Int) (y2 : Option (Nat × Nat)) (y3 : Option (Nat × Nat)) (y4 : ByteArray) (y5 : Bool) (y6 : ByteArray) (y7 : Bool) (y8 : Option (Nat × Nat)) (y9 : ByteArray) (y10 : Bool) (y11 : ByteArray) (y12 : Bool) : Env := Env.sp 1 (AV.int IntKind.i64 y0 :: AV.int IntKind.i64 y1 :: Env.sp 4 (AV.ptr y2 :: Env.sp 4 (AV.ptr y3 :: Env.sp 1 (AV.str y4 :: AV.bool y5 :: Env.sp 69 (AV.tuple [AV.str y6, AV.bool y7] :: AV.ptr y8 :: AV.tuple [AV.str y9, AV.bool y10] :: AV.str y11 :: AV.bool y12 :: Env.sp 65 [])))))
def f12e43 (y0 : Int) (y1 : Int) (y2 : Option (Nat × Nat)) (y3 : ByteArray) (y4 : Bool) : Env := Env.sp 1 (AV.int IntKind.i64 y0 :: AV.int IntKind.i64 y1 :: Env.sp 4 (AV.ptr y2 :: Env.sp 6 (AV.str y3 :: AV.bool y4 :: Env.sp 139 [])))
def f12e44 (y0 : Int) (y1 : Int) (y2 : Option (Nat × Nat)) (y3 : ByteArray) (y4 : Bool) (y5 : Option (Nat × Nat)) (y6 : Int) (y7 : Int) : Env := Env.sp 1 (AV.int IntKind.i64 y0 :: AV.int IntKind.i64 y1 :: Env.sp 4 (AV.ptr y2 :: Env.sp 6 (AV.str y3 :: AV.bool y4 :: Env.sp 74 (AV.ptr y5 :: AV.int IntKind.i64 y6 :: AV.int IntKind.i64 y7 :: Env.sp 62 []))))
def f12e45 (y0 : Int) (y1 : Int) (y2 : Option (Nat × Nat)) (y3 : ByteArray) (y4 : Bool) (y5 : Option (Nat × Nat)) (y6 : Int) (y7 : Option (Nat × Nat)) (y8 : Int) (y9 : Option (Nat × Nat)) (y10 : Int) (y11 : Int) (y12 : Option (Nat × Nat)) (y13 : Int) (y14 : Option (Nat × Nat)) (y15 : Int) : Env := Env.sp 1 (AV.int IntKind.i64 y0 :: AV.int IntKind.i64 y1 :: Env.sp 4 (AV.ptr y2 :: Env.sp 6 (AV.str y3 :: AV.bool y4 :: AV.ptr y5 :: AV.int IntKind.i64 y6 :: Env.sp 75 (AV.tuple [AV.ptr y7, AV.int IntKind.i64 y8] :: AV.ptr y9 :: AV.int IntKind.i64 y10 :: AV.int IntKind.i64 y11 :: AV.tuple [AV.ptr y12, AV.int IntKind.i64 y13] :: AV.ptr y14 :: AV.int IntKind.i64 y15 :: Env.sp 55 []))))
def f12e46 (y0 : Int) (y1 : Int) (y2 : Option (Nat × Nat)) (y3 : ByteArray) (y4 : Bool) (y5 : Option (Nat × Nat)) (y6 : Int) : Env := Env.sp 1 (AV.int IntKind.i64 y0 :: AV.int IntKind.i64 y1 :: Env.sp 4 (AV.ptr y2 :: Env.sp 6 (AV.str y3 :: AV.bool y4 :: AV.ptr y5 :: AV.int IntKind.i64 y6 :: Env.sp 137 [])))
def f12e47 (y0 : Int) (y1 : Int) (y2 : Option (Nat × Nat)) (y3 : ByteArray) (y4 : Bool) (y5 : Option (Nat × Nat)) (y6 : Int) (y7 : Int) (y8 : Bool) (y9 : Bool) (y10 : Bool) (y11 : Bool) (y12 : Bool) : Env := Env.sp 1 (AV.int IntKind.i64 y0 :: AV.int IntKind.i64 y1 :: Env.sp 4 (AV.ptr y2 :: Env.sp 6 (AV.str y3 :: AV.bool y4 :: AV.ptr y5 :: AV.int IntKind.i64 y6 :: Env.sp 82 (AV.int IntKind.i64 y7 :: AV.bool y8 :: AV.bool y9 :: AV.tuple [] :: AV.tuple [] :: AV.bool y10 :: AV.bool y11 :: AV.tuple [] :: AV.tuple [] :: AV.tuple [] :: AV.bool y12 :: Env.sp 44 []))))
def f12e48 (y0 : Int) (y1 : Int) (y2 : Option (Nat × Nat)) (y3 : ByteArray) (y4 : Bool) (y5 : Option (Nat × Nat)) (y6 : Int) (y7 : Int) (y8 : Bool) (y9 : Bool) (y10 : Option (Nat × Nat)) (y11 : Bool) (y12 : Bool) (y13 : Bool) (y14 : Bool) : Env := Env.sp 1 (AV.int IntKind.i64 y0 :: AV.int IntKind.i64 y1 :: Env.sp 4 (AV.ptr y2 :: Env.sp 6 (AV.str y3 :: AV.bool y4 :: AV.ptr y5 :: AV.int IntKind.i64 y6 :: Env.sp 82 (AV.int IntKind.i64 y7 :: AV.bool y8 :: AV.bool y9 :: AV.ptr y10 :: AV.bool y11 :: AV.bool y12 :: AV.bool y13 :: AV.tuple [] :: AV.tuple [] :: AV.tuple [] :: AV.bool y14 :: Env.sp 44 []))))
def f12e49 (y0 : Int) (y1 : Int) (y2 : Option (Nat × Nat)) (y3 : ByteArray) (y4 : Bool) (y5 : Option (Nat × Nat)) (y6 : Int) (y7 : Int) (y8 : Bool) (y9 : Bool) (y10 : Option (Nat × Nat)) (y11 : Bool) (y12 : Bool) (y13 : Bool) (y14 : Option (Nat × Nat)) (y15 : Int) (y16 : Bool) (y17 : Bool) : Env := Env.sp 1 (AV.int IntKind.i64 y0 :: AV.int IntKind.i64 y1 :: Env.sp 4 (AV.ptr y2 :: Env.sp 6 (AV.str y3 :: AV.bool y4 :: AV.ptr y5 :: AV.int IntKind.i64 y6 :: Env.sp 82 (AV.int IntKind.i64 y7 :: AV.bool y8 :: AV.bool y9 :: AV.ptr y10 :: AV.bool y11 :: AV.bool y12 :: AV.bool y13 :: AV.ptr y14 :: AV.int IntKind.i64 y15 :: AV.bool y16 :: AV.bool y17 :: Env.sp 44 []))))
def f12e50 (y0 : Int) (y1 : Int) (y2 : Option (Nat × Nat)) (y3 : ByteArray) (y4 : Bool) (y5 : Bool) : Env := Env.sp 1 (AV.int IntKind.i64 y0 :: AV.int IntKind.i64 y1 :: Env.sp 4 (AV.ptr y2 :: Env.sp 6 (AV.str y3 :: AV.bool y4 :: Env.sp 94 (AV.bool y5 :: Env.sp 44 []))))
def f12e51 (y0 : Int) (y1 : Int) (y2 : Bool) (y3 : Option (Nat × Nat)) (y4 : ByteArray) (y5 : Bool) (y6 : Bool) : Env := Env.sp 1 (AV.int IntKind.i64 y0 :: AV.int IntKind.i64 y1 :: Env.sp 3 (AV.bool y2 :: AV.ptr y3 :: Env.sp 6 (AV.str y4 :: AV.bool y5 :: Env.sp 94 (AV.bool y6 :: Env.sp 44 []))))
def f12e52 (y0 : Int) (y1 : Int) (y2 : Option (Nat × Nat)) (y3 : ByteArray) (y4 : Bool) (y5 : Int) : Env := Env.sp 1 (AV.int IntKind.i64 y0 :: AV.int IntKind.i64 y1 :: Env.sp 4 (AV.ptr y2 :: Env.sp 6 (AV.str y3 :: AV.bool y4 :: Env.sp 2 (AV.int IntKind.i64 y5 :: Env.sp 136 []))))
def f12e53 (y0 : Int) (y1 : Int) (y2 : Option (Nat × Nat)) (y3 : ByteArray) (y4 : Bool) (y5 : Int) (y6 : Int) (y7 : Bool) : Env := Env.sp 1 (AV.int IntKind.i64 y0 :: AV.int IntKind.i64 y1 :: Env.sp 4 (AV.ptr y2 :: Env.sp 6 (AV.str y3 :: AV.bool y4 :: Env.sp 2 (AV.int IntKind.i64 y5 :: Env.sp 92 (AV.int IntKind.i64 y6 :: AV.bool y7 :: Env.sp 42 [])))))
def f12e54 (y0 : Int) (y1 : Int) (y2 : Option (Nat × Nat)) (y3 : ByteArray) (y4 : Bool) (y5 : Int) (y6 : Bool) : Env := Env.sp 1 (AV.int IntKind.i64 y0 :: AV.int IntKind.i64 y1 :: Env.sp 4 (AV.ptr y2 :: Env.sp 6 (AV.str y3 :: AV.bool y4 :: Env.sp 2 (AV.int IntKind.i64 y5 :: Env.sp 93 (AV.bool y6 :: Env.sp 42 [])))))
def f12e55 (y0 : Int) (y1 : Int) (y2 : Option (Nat × Nat)) (y3 : ByteArray) (y4 : Bool) (y5 : Int) (y6 : Bool) (y7 : Option (Nat × Nat)) (y8 : Int) (y9 : Int) (y10 : Int) : Env := Env.sp 1 (AV.int IntKind.i64 y0 :: AV.int IntKind.i64 y1 :: Env.sp 4 (AV.ptr y2 :: Env.sp 6 (AV.str y3 :: AV.bool y4 :: Env.sp 2 (AV.int IntKind.i64 y5 :: Env.sp 93 (AV.bool y6 :: AV.ptr y7 :: AV.int IntKind.i64 y8 :: AV.int IntKind.i64 y9 :: AV.int IntKind.i64 y10 :: Env.sp 38 [])))))
def f12e56 (y0 : Int) (y1 : Int) (y2 : Option (Nat × Nat)) (y3 : ByteArray) (y4 : Bool) (y5 : Int) (y6 : Option (Nat × Nat)) (y7 : Int) (y8 : Option (Nat × Nat)) (y9 : Int) (y10 : Option (Nat × Nat)) (y11 : Int) (y12 : Int) (y13 : Option (Nat × Nat)) (y14 : Int) (y15 : Option (Nat × Nat)) (y16 : Int) : Env := Env.sp 1 (AV.int IntKind.i64 y0 :: AV.int IntKind.i64 y1 :: Env.sp 4 (AV.ptr y2 :: Env.sp 6 (AV.str y3 :: AV.bool y4 :: Env.sp 2 (AV.int IntKind.i64 y5 :: AV.ptr y6 :: AV.int IntKind.i64 y7 :: Env.sp 96 (AV.tuple [AV.ptr y8, AV.int IntKind.i64 y9] :: AV.ptr y10 :: AV.int IntKind.i64 y11 :: AV.int IntKind.i64 y12 :: AV.tuple [AV.ptr y13, AV.int IntKind.i64 y14] :: AV.ptr y15 :: AV.int IntKind.i64 y16 :: Env.sp 31 [])))))
def f12e57 (y0 : Int) (y1 : ByteArray) (y2 : Bool) (y3 : Int) (y4 : Option (Nat × Nat)) (y5 : Int) : Env := Env.sp 1 (AV.int IntKind.i64 y0 :: Env.sp 12 (AV.str y1 :: AV.bool y2 :: Env.sp 2 (AV.int IntKind.i64 y3 :: AV.ptr y4 :: AV.int IntKind.i64 y5 :: Env.sp 134 [])))
def f12e58 (y0 : Int) (y1 : ByteArray) (y2 : Bool) (y3 : Int) (y4 : Option (Nat × Nat)) (y5 : Int) (y6 : Int) (y7 : Bool) (y8 : Bool) (y9 : Bool) (y10 : Bool) : Env := Env.sp 1 (AV.int IntKind.i64 y0 :: Env.sp 12 (AV.str y1 :: AV.bool y2 :: Env.sp 2 (AV.int IntKind.i64 y3 :: AV.ptr y4 :: AV.int IntKind.i64 y5 :: Env.sp 103 (AV.int IntKind.i64 y6 :: AV.bool y7 :: AV.bool y8 :: AV.tuple [] :: AV.tuple [] :: AV.bool y9 :: AV.bool y10 :: AV.tuple [] :: Env.sp 23 []))))
def f12e59 (y0 : Int) (y1 : ByteArray) (y2 : Bool) (y3 : Int) (y4 : Option (Nat × Nat)) (y5 : Int) (y6 : Int) (y7 : Bool) (y8 : Bool) (y9 : Option (Nat × Nat)) (y10 : Bool) (y11 : Bool) (y12 : Bool) : Env := Env.sp 1 (AV.int IntKind.i64 y0 :: Env.sp 12 (AV.str y1 :: AV.bool y2 :: Env.sp 2 (AV.int IntKind.i64 y3 :: AV.ptr y4 :: AV.int IntKind.i64 y5 :: Env.sp 103 (AV.int IntKind.i64 y6 :: AV.bool y7 :: AV.bool y8 :: AV.ptr y9 :: AV.bool y10 :: AV.bool y11 :: AV.bool y12 :: AV.tuple [] :: Env.sp 23 []))))
def f12e60 (y0 : Int) (y1 : ByteArray) (y2 : Bool) (y3 : Int) (y4 : Option (Nat × Nat)) (y5 : Int) (y6 : Int) (y7 : Bool) (y8 : Bool) (y9 : Option (Nat × Nat)) (y10 : Bool) (y11 : Bool) (y12 : Bool) (y13 : Int) : Env := Env.sp 1 (AV.int IntKind.i64 y0 :: Env.sp 12 (AV.str y1 :: AV.bool y2 :: Env.sp 2 (AV.int IntKind.i64 y3 :: AV.ptr y4 :: AV.int IntKind.i64 y5 :: Env.sp 103 (AV.int IntKind.i64 y6 :: AV.bool y7 :: AV.bool y8 :: AV.ptr y9 :: AV.bool y10 :: AV.bool y11 :: AV.bool y12 :: AV.int IntKind.i64 y13 :: Env.sp 23 []))))
def f12e61 (y0 : Int) (y1 : ByteArray) (y2 : Bool) (y3 : Int) (y4 : Option (Nat × Nat)) (y5 : Int) (y6 : Int) (y7 : Bool) (y8 : Bool) (y9 : Bool) (y10 : Bool) (y11 : Bool) (y12 : Bool) : Env := Env.sp 1 (AV.int IntKind.i64 y0 :: Env.sp 12 (AV.str y1 :: AV.bool y2 :: Env.sp 2 (AV.int IntKind.i64 y3 :: AV.ptr y4 :: AV.int IntKind.i64 y5 :: Env.sp 103 (AV.int IntKind.i64 y6 :: AV.bool y7 :: AV.bool y8 :: AV.tuple [] :: AV.tuple [] :: AV.bool y9 :: AV.bool y10 :: AV.tuple [] :: AV.tuple [] :: AV.tuple [] :: AV.tuple [] :: AV.tuple [] :: AV.tuple [] :: AV.bool y11 :: AV.bool y12 :: AV.tuple [] :: Env.sp 15 []))))
def f12e62 (y0 : Int) (y1 : ByteArray) (y2 : Bool) (y3 : Int) (y4 : Option (Nat × Nat)) (y5 : Int) (y6 : Int) (y7 : Bool) (y8 : Bool) (y9 : Option (Nat × Nat)) (y10 : Bool) (y11 : Bool) (y12 : Bool) (y13 : Bool) (y14 : Bool) : Env := Env.sp 1 (AV.int IntKind.i64 y0 :: Env.sp 12 (AV.str y1 :: AV.bool y2 :: Env.sp 2 (AV.int IntKind.i64 y3 :: AV.ptr y4 :: AV.int IntKind.i64 y5 :: Env.sp 103 (AV.int IntKind.i64 y6 :: AV.bool y7 :: AV.bool y8 :: AV.ptr y9 :: AV.bool y10 :: AV.bool y11 :: AV.bool y12 :: AV.tuple [] :: AV.tuple [] :: AV.tuple [] :: AV.tuple [] :: AV.tuple [] :: AV.tuple [] :: AV.bool y13 :: AV.bool y14 :: AV.tuple [] :: Env.sp 15 []))))
def f12e63 (y0 : Int) (y1 : ByteArray) (y2 : Bool) (y3 : Int) (y4 : Option (Nat × Nat)) (y5 : Int) (y6 : Int) (y7 : Bool) (y8 : Bool) (y9 : Option (Nat × Nat)) (y10 : Bool) (y11 : Bool) (y12 : Bool) (y13 : Int) (y14 : Bool) (y15 : Bool) : Env := Env.sp 1 (AV.int IntKind.i64 y0 :: Env.sp 12 (AV.str y1 :: AV.bool y2 :: Env.sp 2 (AV.int IntKind.i64 y3 :: AV.ptr y4 :: AV.int IntKind.i64 y5 :: Env.sp 103 (AV.int IntKind.i64 y6 :: AV.bool y7 :: AV.bool y8 :: AV.ptr y9 :: AV.bool y10 :: AV.bool y11 :: AV.bool y12 :: AV.int IntKind.i64 y13 :: AV.tuple [] :: AV.tuple [] :: AV.tuple [] :: AV.tuple [] :: AV.tuple [] :: AV.bool y14 :: AV.bool y15 :: AV.tuple [] :: Env.sp 15 []))))
def f12e64 (y0 : Int) (y1 : ByteArray) (y2 : Bool) (y3 : Int) (y4 : Option (Nat × Nat)) (y5 : Int) (y6 : Int) (y7 : Bool) (y8 : Bool) (y9 : Option (Nat × Nat)) (y10 : Bool) (y11 : Bool) (y12 : Bool) (y13 : Int) (y14 : Bool) (y15 : Bool) (y16 : Int) (y17 : Bool) (y18 : Bool) (y19 : Bool) (y20 : Bool) : Env := Env.sp 1 (AV.int IntKind.i64 y0 :: Env.sp 12 (AV.str y1 :: AV.bool y2 :: Env.sp 2 (AV.int IntKind.i64 y3 :: AV.ptr y4 :: AV.int IntKind.i64 y5 :: Env.sp 103 (AV.int IntKind.i64 y6 :: AV.bool y7 :: AV.bool y8 :: AV.ptr y9 :: AV.bool y10 :: AV.bool y11 :: AV.bool y12 :: AV.int IntKind.i64 y13 :: AV.bool y14 :: AV.bool y15 :: AV.int IntKind.i64 y16 :: AV.bool y17 :: AV.bool y18 :: AV.bool y19 :: AV.bool y20 :: AV.tuple [] :: Env.sp 15 []))))
def f12e65 (y0 : Int) (y1 : ByteArray) (y2 : Bool) (y3 : Int) (y4 : Option (Nat × Nat)) (y5 : Int) (y6 : Int) (y7 : Bool) (y8 : Bool) (y9 : Option (Nat × Nat)) (y10 : Bool) (y11 : Bool) (y12 : Bool) (y13 : Int) (y14 : Bool) (y15 : Bool) (y16 : Int) (y17 : Bool) (y18 : Bool) (y19 : Bool) (y20 : Bool) (y21 : Int) : Env := Env.sp 1 (AV.int IntKind.i64 y0 :: Env.sp 12 (AV.str y1 :: AV.bool y2 :: Env.sp 2 (AV.int IntKind.i64 y3 :: AV.ptr y4 :: AV.int IntKind.i64 y5 :: Env.sp 103 (AV.int IntKind.i64 y6 :: AV.bool y7 :: AV.bool y8 :: AV.ptr y9 :: AV.bool y10 :: AV.bool y11 :: AV.bool y12 :: AV.int IntKind.i64 y13 :: AV.bool y14 :: AV.bool y15 :: AV.int IntKind.i64 y16 :: AV.bool y17 :: AV.bool y18 :: AV.bool y19 :: AV.bool y20 :: AV.int IntKind.i64 y21 :: Env.sp 15 []))))
def f12e66 (y0 : Int) (y1 : ByteArray) (y2 : Bool) (y3 : Int) (y4 : Option (Nat × Nat)) (y5 : Int) (y6 : Int) (y7 : Bool) (y8 : Bool) (y9 : Option (Nat × Nat)) (y10 : Bool) (y11 : Bool) (y12 : Bool) (y13 : Int) (y14 : Bool) (y15 : Bool) (y16 : Bool) (y17 : Bool) (y18 : Bool) (y19 : Int) : Env := Env.sp 1 (AV.int IntKind.i64 y0 :: Env.sp 12 (AV.str y1 :: AV.bool y2 :: Env.sp 2 (AV.int IntKind.i64 y3 :: AV.ptr y4 :: AV.int IntKind.i64 y5 :: Env.sp 103 (AV.int IntKind.i64 y6 :: AV.bool y7 :: AV.bool y8 :: AV.ptr y9 :: AV.bool y10 :: AV.bool y11 :: AV.bool y12 :: AV.int IntKind.i64 y13 :: AV.bool y14 :: AV.bool y15 :: AV.tuple [] :: AV.tuple [] :: AV.bool y16 :: AV.bool y17 :: AV.bool y18 :: AV.int IntKind.i64 y19 :: Env.sp 15 []))))
def f12e67 (y0 : Int) (y1 : ByteArray) (y2 : Bool) (y3 : Int) (y4 : Option (Nat × Nat)) (y5 : Int) (y6 : Int) (y7 : Bool) (y8 : Bool) (y9 : Bool) (y10 : Bool) (y11 : Bool) (y12 : Bool) (y13 : Bool) : Env := Env.sp 1 (AV.int IntKind.i64 y0 :: Env.sp 12 (AV.str y1 :: AV.bool y2 :: Env.sp 2 (AV.int IntKind.i64 y3 :: AV.ptr y4 :: AV.int IntKind.i64 y5 :: Env.sp 103 (AV.int IntKind.i64 y6 :: AV.bool y7 :: AV.bool y8 :: AV.tuple [] :: AV.tuple [] :: AV.bool y9 :: AV.bool y10 :: AV.tuple [] :: AV.tuple [] :: AV.tuple [] :: AV.tuple [] :: AV.tuple [] :: AV.tuple [] :: AV.bool y11 :: AV.bool y12 :: AV.tuple [] :: AV.tuple [] :: AV.tuple [] :: AV.tuple [] :: AV.tuple [] :: AV.tuple [] :: AV.tuple [] :: AV.bool y13 :: Env.sp 8 []))))
def f12e68 (y0 : Int) (y1 : ByteArray) (y2 : Bool) (y3 : Int) (y4 : Option (Nat × Nat)) (y5 : Int) (y6 : Int) (y7 : Bool) (y8 : Bool) (y9 : Option (Nat × Nat)) (y10 : Bool) (y11 : Bool) (y12 : Bool) (y13 : Bool) (y14 : Bool) (y15 : Bool) : Env := Env.sp 1 (AV.int IntKind.i64 y0 :: Env.sp 12 (AV.str y1 :: AV.bool y2 :: Env.sp 2 (AV.int IntKind.i64 y3 :: AV.ptr y4 :: AV.int IntKind.i64 y5 :: Env.sp 103 (AV.int IntKind.i64 y6 :: AV.bool y7 :: AV.bool y8 :: AV.ptr y9 :: AV.bool y10 :: AV.bool y11 :: AV.bool y12 :: AV.tuple [] :: AV.tuple [] :: AV.tuple [] :: AV.tuple [] :: AV.tuple [] :: AV.tuple [] :: AV.bool y13 :: AV.bool y14 :: AV.tuple [] :: AV.tuple [] :: AV.tuple [] :: AV.tuple [] :: AV.tuple [] :: AV.tuple [] :: AV.tuple [] :: AV.bool y15 :: Env.sp 8 []))))
def f12e69 (y0 : Int) (y1 : ByteArray) (y2 : Bool) (y3 : Int) (y4 : Option (Nat × Nat)) (y5 : Int) (y6 : Int) (y7 : Bool) (y8 : Bool) (y9 : Option (Nat × Nat)) (y10 : Bool) (y11 : Bool) (y12 : Bool) (y13 : Int) (y14 : Bool) (y15 : Bool) (y16 : Bool) : Env := Env.sp 1 (AV.int IntKind.i64 y0 :: Env.sp 12 (AV.str y1 :: AV.bool y2 :: Env.sp 2 (AV.int IntKind.i64 y3 :: AV.ptr y4 :: AV.int IntKind.i64 y5 :: Env.sp 103 (AV.int IntKind.i64 y6 :: AV.bool y7 :: AV.bool y8 :: AV.ptr y9 :: AV.bool y10 :: AV.bool y11 :: AV.bool y12 :: AV.int IntKind.i64 y13 :: AV.tuple [] :: AV.tuple [] :: AV.tuple [] :: AV.tuple [] :: AV.tuple [] :: AV.bool y14 :: AV.bool y15 :: AV.tuple [] :: AV.tuple [] :: AV.tuple [] :: AV.tuple [] :: AV.tuple [] :: AV.tuple [] :: AV.tuple [] :: AV.bool y16 :: Env.sp 8 []))))
def f12e70 (y0 : Int) (y1 : ByteArray) (y2 : Bool) (y3 : Int) (y4 : Option (Nat × Nat)) (y5 : Int) (y6 : Int) (y7 : Bool) (y8 : Bool) (y9 : Option (Nat × Nat)) (y10 : Bool) (y11 : Bool) (y12 : Bool) (y13 : Int) (y14 : Bool) (y15 : Bool) (y16 : Int) (y17 : Bool) (y18 : Bool) (y19 : Bool) (y20 : Bool) (y21 : Bool) : Env := Env.sp 1 (AV.int IntKind.i64 y0 :: Env.sp 12 (AV.str y1 :: AV.bool y2 :: Env.sp 2 (AV.int IntKind.i64 y3 :: AV.ptr y4 :: AV.int IntKind.i64 y5 :: Env.sp 103 (AV.int IntKind.i64 y6 :: AV.bool y7 :: AV.bool y8 :: AV.ptr y9 :: AV.bool y10 :: AV.bool y11 :: AV.bool y12 :: AV.int IntKind.i64 y13 :: AV.bool y14 :: AV.bool y15 :: AV.int IntKind.i64 y16 :: AV.bool y17 :: AV.bool y18 :: AV.bool y19 :: AV.bool y20 :: AV.tuple [] :: AV.tuple [] :: AV.tuple [] :: AV.tuple [] :: AV.tuple [] :: AV.tuple [] :: AV.tuple [] :: AV.bool y21 :: Env.sp 8 []))))
def f12e71 (y0 : Int) (y1 : ByteArray) (y2 : Bool) (y3 : Int) (y4 : Option (Nat × Nat)) (y5 : Int) (y6 : Int) (y7 : Bool) (y8 : Bool) (y9 : Option (Nat × Nat)) (y10 : Bool) (y11 : Bool) (y12 : Bool) (y13 : Int) (y14 : Bool) (y15 : Bool) (y16 : Int) (y17 : Bool) (y18 : Bool) (y19 : Bool) (y20 : Bool) (y21 : Int) (y22 : Bool) : Env := Env.sp 1 (AV.int IntKind.i64 y0 :: Env.sp 12 (AV.str y1 :: AV.bool y2 :: Env.sp 2 (AV.int IntKind.i64 y3 :: AV.ptr y4 :: AV.int IntKind.i64 y5 :: Env.sp 103 (AV.int IntKind.i64 y6 :: AV.bool y7 :: AV.bool y8 :: AV.ptr y9 :: AV.bool y10 :: AV.bool y11 :: AV.bool y12 :: AV.int IntKind.i64 y13 :: AV.bool y14 :: AV.bool y15 :: AV.int IntKind.i64 y16 :: AV.bool y17 :: AV.bool y18 :: AV.bool y19 :: AV.bool y20 :: AV.int IntKind.i64 y21 :: AV.tuple [] :: AV.tuple [] :: AV.tuple [] :: AV.tuple [] :: AV.tuple [] :: AV.tuple [] :: AV.bool y22 :: Env.sp 8 []))))
def f12e72 (y0 : Int) (y1 : ByteArray) (y2 : Bool) (y3 : Int) (y4 : Option (Nat × Nat)) (y5 : Int) (y6 : Int) (y7 : Bool) (y8 : Bool) (y9 : Option (Nat × Nat)) (y10 : Bool) (y11 : Bool) (y12 : Bool) (y13 : Int) (y14 : Bool) (y15 : Bool) (y16 : Int) (y17 : Bool) (y18 : Bool) (y19 : Bool) (y20 : Bool) (y21 : Int) (y22 : Bool) (y23 : Bool) (y24 : Option (Nat × Nat)) (y25 : Int) (y26 : Bool) (y27 : Bool) (y28 : Bool) : Env := Env.sp 1 (AV.int IntKind.i64 y0 :: Env.sp 12 (AV.str y1 :: AV.bool y2 :: Env.sp 2 (AV.int IntKind.i64 y3 :: AV.ptr y4 :: AV.int IntKind.i64 y5 :: Env.sp 103 (AV.int IntKind.i64 y6 :: AV.bool y7 :: AV.bool y8 :: AV.ptr y9 :: AV.bool y10 :: AV.bool y11 :: AV.bool y12 :: AV.int IntKind.i64 y13 :: AV.bool y14 :: AV.bool y15 :: AV.int IntKind.i64 y16 :: AV.bool y17 :: AV.bool y18 :: AV.bool y19 :: AV.bool y20 :: AV.int IntKind.i64 y21 :: AV.bool y22 :: AV.bool y23 :: AV.ptr y24 :: AV.int IntKind.i64 y25 :: AV.bool y26 :: AV.bool y27 :: AV.bool y28 :: Env.sp 8 []))))
def f12e73 (y0 : Int) (y1 : ByteArray) (y2 : Bool) (y3 : Int) (y4 : Option (Nat × Nat)) (y5 : Int) (y6 : Int) (y7 : Bool) (y8 : Bool) (y9 : Option (Nat × Nat)) (y10 : Bool) (y11 : Bool) (y12 : Bool) (y13 : Int) (y14 : Bool) (y15 : Bool) (y16 : Int) (y17 : Bool) (y18 : Bool) (y19 : Bool) (y20 : Bool) (y21 : Int) (y22 : Bool) (y23 : Bool) (y24 : Bool) (y25 : Bool) : Env := Env.sp 1 (AV.int IntKind.i64 y0 :: Env.sp 12 (AV.str y1 :: AV.bool y2 :: Env.sp 2 (AV.int IntKind.i64 y3 :: AV.ptr y4 :: AV.int IntKind.i64 y5 :: Env.sp 103 (AV.int IntKind.i64 y6 :: AV.bool y7 :: AV.bool y8 :: AV.ptr y9 :: AV.bool y10 :: AV.bool y11 :: AV.bool y12 :: AV.int IntKind.i64 y13 :: AV.bool y14 :: AV.bool y15 :: AV.int IntKind.i64 y16 :: AV.bool y17 :: AV.bool y18 :: AV.bool y19 :: AV.bool y20 :: AV.int IntKind.i64 y21 :: AV.bool y22 :: AV.bool y23 :: AV.tuple [] :: AV.tuple [] :: AV.tuple [] :: AV.bool y24 :: AV.bool y25 :: Env.sp 8 []))))
def f12e74 (y0 : Int) (y1 : ByteArray) (y2 : Bool) (y3 : Int) (y4 : Option (Nat × Nat)) (y5 : Int) (y6 : Int) (y7 : Bool) (y8 : Bool) (y9 : Option (Nat × Nat)) (y10 : Bool) (y11 : Bool) (y12 : Bool) (y13 : Int) (y14 : Bool) (y15 : Bool) (y16 : Bool) (y17 : Bool) (y18 : Bool) (y19 : Int) (y20 : Bool) : Env := Env.sp 1 (AV.int IntKind.i64 y0 :: Env.sp 12 (AV.str y1 :: AV.bool y2 :: Env.sp 2 (AV.int IntKind.i64 y3 :: AV.ptr y4 :: AV.int IntKind.i64 y5 :: Env.sp 103 (AV.int IntKind.i64 y6 :: AV.bool y7 :: AV.bool y8 :: AV.ptr y9 :: AV.bool y10 :: AV.bool y11 :: AV.bool y12 :: AV.int IntKind.i64 y13 :: AV.bool y14 :: AV.bool y15 :: AV.tuple [] :: AV.tuple [] :: AV.bool y16 :: AV.bool y17 :: AV.bool y18 :: AV.int IntKind.i64 y19 :: AV.tuple [] :: AV.tuple [] :: AV.tuple [] :: AV.tuple [] :: AV.tuple [] :: AV.tuple [] :: AV.bool y20 :: Env.sp 8 []))))
def f12e75 (y0 : Int) (y1 : ByteArray) (y2 : Bool) (y3 : Int) (y4 : Option (Nat × Nat)) (y5 : Int) (y6 : Int) (y7 : Bool) (y8 : Bool) (y9 : Option (Nat × Nat)) (y10 : Bool) (y11 : Bool) (y12 : Bool) (y13 : Int) (y14 : Bool) (y15 : Bool) (y16 : Bool) (y17 : Bool) (y18 : Bool) (y19 : Int) (y20 : Bool) (y21 : Bool) (y22 : Option (Nat × Nat)) (y23 : Int) (y24 : Bool) (y25 : Bool) (y26 : Bool) : Env := Env.sp 1 (AV.int IntKind.i64 y0 :: Env.sp 12 (AV.str y1 :: AV.bool y2 :: Env.sp 2 (AV.int IntKind.i64 y3 :: AV.ptr y4 :: AV.int IntKind.i64 y5 :: Env.sp 103 (AV.int IntKind.i64 y6 :: AV.bool y7 :: AV.bool y8 :: AV.ptr y9 :: AV.bool y10 :: AV.bool y11 :: AV.bool y12 :: AV.int IntKind.i64 y13 :: AV.bool y14 :: AV.bool y15 :: AV.tuple [] :: AV.tuple [] :: AV.bool y16 :: AV.bool y17 :: AV.bool y18 :: AV.int IntKind.i64 y19 :: AV.bool y20 :: AV.bool y21 :: AV.ptr y22 :: AV.int IntKind.i64 y23 :: AV.bool y24 :: AV.bool y25 :: AV.bool y26 :: Env.sp 8 []))))
def f12e76 (y0 : Int) (y1 : ByteArray) (y2 : Bool) (y3 : Int) (y4 : Option (Nat × Nat)) (y5 : Int) (y6 : Int) (y7 : Bool) (y8 : Bool) (y9 : Option (Nat × Nat)) (y10 : Bool) (y11 : Bool) (y12 : Bool) (y13 : Int) (y14 : Bool) (y15 : Bool) (y16 : Bool) (y17 : Bool) (y18 : Bool) (y19 : Int) (y20 : Bool) (y21 : Bool) (y22 : Bool) (y23 : Bool) : Env := Env.sp 1 (AV.int IntKind.i64 y0 :: Env.sp 12 (AV.str y1 :: AV.bool y2 :: Env.sp 2 (AV.int IntKind.i64 y3 :: AV.ptr y4 :: AV.int IntKind.i64 y5 :: Env.sp 103 (AV.int IntKind.i64 y6 :: AV.bool y7 :: AV.bool y8 :: AV.ptr y9 :: AV.bool y10 :: AV.bool y11 :: AV.bool y12 :: AV.int IntKind.i64 y13 :: AV.bool y14 :: AV.bool y15 :: AV.tuple [] :: AV.tuple [] :: AV.bool y16 :: AV.bool y17 :: AV.bool y18 :: AV.int IntKind.i64 y19 :: AV.bool y20 :: AV.bool y21 :: AV.tuple [] :: AV.tuple [] :: AV.tuple [] :: AV.bool y22 :: AV.bool y23 :: Env.sp 8 []))))
def f12e77 (y0 : ByteArray) (y1 : Bool) (y2 : Bool) : Env := Env.sp 14 (AV.str y0 :: AV.bool y1 :: Env.sp 130 (AV.bool y2 :: Env.sp 8 []))
def f12e78 (y0 : Bool) (y1 : ByteArray) (y2 : Bool) (y3 : Bool) : Env := Env.sp 6 (AV.bool y0 :: Env.sp 7 (AV.str y1 :: AV.bool y2 :: Env.sp 130 (AV.bool y3 :: Env.sp 8 [])))
def f12e79 (y0 : ByteArray) (y1 : Bool) : Env := Env.sp 14 (AV.str y0 :: AV.bool y1 :: Env.sp 139 [])
def f12e80 (y0 : Bool) (y1 : ByteArray) (y2 : Bool) (y3 : Bool) (y4 : Bool) (y5 : ByteArray) (y6 : Bool) (y7 : Bool) (y8 : Bool) (y9 : Bool) (y10 : Bool) : Env := Env.sp 6 (AV.bool y0 :: Env.sp 7 (AV.str y1 :: AV.bool y2 :: Env.sp 131 (AV.bool y3 :: AV.bool y4 :: AV.str y5 :: AV.bool y6 :: AV.bool y7 :: AV.bool y8 :: AV.bool y9 :: AV.bool y10 :: [])))
def f12e81 (y0 : Bool) (y1 : ByteArray) (y2 : Bool) (y3 : Bool) (y4 : Bool) (y5 : ByteArray) (y6 : Bool) (y7 : Bool) (y8 : Bool) (y9 : Bool) : Env := Env.sp 6 (AV.bool y0 :: Env.sp 7 (AV.str y1 :: AV.bool y2 :: Env.sp 131 (AV.bool y3 :: AV.bool y4 :: AV.str y5 :: AV.bool y6 :: AV.bool y7 :: AV.bool y8 :: AV.tuple [] :: AV.bool y9 :: [])))
def f12e82 (y0 : Bool) (y1 : ByteArray) (y2 : Bool) (y3 : Bool) (y4 : Bool) (y5 : Bool) (y6 : Bool) (y7 : Bool) : Env := Env.sp 6 (AV.bool y0 :: Env.sp 7 (AV.str y1 :: AV.bool y2 :: Env.sp 131 (AV.bool y3 :: AV.bool y4 :: AV.tuple [] :: AV.tuple [] :: AV.bool y5 :: AV.bool y6 :: AV.tuple [] :: AV.bool y7 :: [])))

/- function 12 -/
theorem f12_eq {R : Type} (call : Bool → CallF R) (dem : Bool) (N : Nat) (y0 : Int) (y1 : Int) (y2 : Int) (σ : St) (K : AV → St → Option R) :
    bodyK Try.prog call dem N ann 12 [AV.int IntKind.i64 y0, AV.int IntKind.i64 y1, AV.int IntKind.i64 y2] σ K = runK Try.prog call dem N f12c0 f12a0 (bodyC Try.prog f12rs K) (f12e0 y0 y1 y2) σ := bodyK_of (fn := ((Try.prog.funcs[12]?).get rfl)) (by kernel_rfl) (by kernel_rfl) (by kernel_rfl) (by kernel_rfl) (by kernel_rfl) (by kernel_rfl)
theorem f12n0 {R : Type} (call : Bool → CallF R) (dem : Bool) (N : Nat) (J : KF R) (e : Env) (σ : St) : runK Try.prog call dem N f12c0 f12a0 J e σ = runK Try.prog call dem N f12c1 f12a1 (seqC (fun K e σ => runK Try.prog call dem N f12c2 f12a2 K e σ) f12a0 J) e σ := runK_seq' (by kernel_rfl) (by kernel_rfl) (by kernel_rfl)
theorem f12r1_f12e0 {R : Type} (call : Bool → CallF R) (dem : Bool) (N : Nat) (y0 : Int) (y1 : Int) (y2 : Int) (J : KF R) (σ : St) :
    runK Try.prog call dem N f12c1 f12a1 J (f12e0 y0 y1 y2) σ =
J Ex.normal (f12e1 y0 y1 y2 false) σ := hide (by kernel_rfl)
theorem f12z0_f12e1 (y0 : Int) (y1 : Int) (y2 : Int) (y3 : Bool) : Ann.clr f12a0 (f12e1 y0 y1 y2 y3) = f12e0 y0 y1 y2 := hide (by kernel_rfl)
theorem f12n2 {R : Type} (call : Bool → CallF R) (dem : Bool) (N : Nat) (J : KF R) (e : Env) (σ : St) : runK Try.prog call dem N f12c2 f12a2 J e σ = runK Try.prog call dem N f12c3 f12a3 (seqC (fun K e σ => runK Try.prog call dem N f12c4 f12a4 K e σ) f12a2 J) e σ := runK_seq' (by kernel_rfl) (by kernel_rfl) (by kernel_rfl)
theorem f12r3_f12e0 {R : Type} (call : Bool → CallF R) (dem : Bool) (N : Nat) (y0 : Int) (y1 : Int) (y2 : Int) (J : KF R) (σ : St) :
    runK Try.prog call dem N f12c3 f12a3 J (f12e0 y0 y1 y2) σ =
call dem (13 : Nat) [AV.int IntKind.i64 (1 : Int), AV.int IntKind.i64 y0] σ fun v0 v1 =>
  Option.bind (AV.toTuple v0) fun v2 =>
    if List.length v2 = (2 : Nat) then
      Option.bind (List.head? v2) fun v3 =>
        Option.bind (AV.toPtr v3) fun v4 =>
          Option.bind (List.head? (List.tail v2)) fun v5 =>
            Option.bind (AV.toInt IntKind.i64 v5) fun v6 => J Ex.normal (f12e2 y0 y1 y2 v4 v6 v4 v6 y0 v4 v6 v4 v6) v1
    else none := hide (by kernel_rfl)
theorem f12z2_f12e2 (y0 : Int) (y1 : Int) (y2 : Int) (y3 : Option (Nat × Nat)) (y4 : Int) (y5 : Option (Nat × Nat)) (y6 : Int) (y7 : Int) (y8 : Option (Nat × Nat)) (y9 : Int) (y10 : Option (Nat × Nat)) (y11 : Int) : Ann.clr f12a2 (f12e2 y0 y1 y2 y3 y4 y5 y6 y7 y8 y9 y10 y11) = f12e3 y0 y1 y2 y3 y4 := hide (by kernel_rfl)
theorem f12n4 {R : Type} (call : Bool → CallF R) (dem : Bool) (N : Nat) (J : KF R) (e : Env) (σ : St) : runK Try.prog call dem N f12c4 f12a4 J e σ = runK Try.prog call dem N f12c5 f12a5 (seqC (fun K e σ => runK Try.prog call dem N f12c6 f12a6 K e σ) f12a4 J) e σ := runK_seq' (by kernel_rfl) (by kernel_rfl) (by kernel_rfl)
theorem f12n5 {R : Type} (call : Bool → CallF R) (dem : Bool) (N : Nat) (J : KF R) (e : Env) (σ : St) : runK Try.prog call dem N f12c5 f12a5 J e σ = runK Try.prog call dem N f12c7 f12a7 (seqC (fun K e σ => runK Try.prog call dem N f12c8 f12a8 K e σ) f12a5 J) e σ := runK_seq' (by kernel_rfl) (by kernel_rfl) (by kernel_rfl)
theorem f12r7_f12e3 {R : Type} (call : Bool → CallF R) (dem : Bool) (N : Nat) (y0 : Int) (y1 : Int) (y2 : Int) (y3 : Option (Nat × Nat)) (y4 : Int) (J : KF R) (σ : St) :
    runK Try.prog call dem N f12c7 f12a7 J (f12e3 y0 y1 y2 y3 y4) σ =
if (y4 != (0 : Int)) = true then J Ex.normal (f12e4 y0 y1 y2 y3 y4 y4 (y4 != (0 : Int)) true true) σ
else J Ex.normal (f12e5 y0 y1 y2 y3 y4 y4 (y4 != (0 : Int)) false y3 (Option.isNone y3) (Option.isNone y3)) σ := hide (by kernel_rfl)
theorem f12z5_f12e4 (y0 : Int) (y1 : Int) (y2 : Int) (y3 : Option (Nat × Nat)) (y4 : Int) (y5 : Int) (y6 : Bool) (y7 : Bool) (y8 : Bool) : Ann.clr f12a5 (f12e4 y0 y1 y2 y3 y4 y5 y6 y7 y8) = f12e6 y0 y1 y2 y3 y8 := hide (by kernel_rfl)
theorem f12x8_f12e6 {R : Type} (call : Bool → CallF R) (dem : Bool) (N : Nat) (y0 : Int) (y1 : Int) (y2 : Int) (y3 : Option (Nat × Nat)) (y4 : Bool) (J : KF R) (σ : St) : runK Try.prog call dem N f12c8 f12a8 J (f12e6 y0 y1 y2 y3 y4) σ = if y4 = true then runK Try.prog call dem N f12c9 f12a9 (condC f12a8 J) (f12e6 y0 y1 y2 y3 y4) σ else runK Try.prog call dem N f12c10 f12a10 (condC f12a8 J) (f12e6 y0 y1 y2 y3 y4) σ := runK_cond' (o := Operand.tmp (31 : Nat)) (by kernel_rfl) (by kernel_rfl) (by kernel_rfl) (by kernel_rfl)
theorem f12n9 {R : Type} (call : Bool → CallF R) (dem : Bool) (N : Nat) (J : KF R) (e : Env) (σ : St) : runK Try.prog call dem N f12c9 f12a9 J e σ = runK Try.prog call dem N f12c11 f12a11 (seqC (fun K e σ => runK Try.prog call dem N f12c12 f12a12 K e σ) f12a9 J) e σ := runK_seq' (by kernel_rfl) (by kernel_rfl) (by kernel_rfl)
theorem f12r11_f12e6 {R : Type} (call : Bool → CallF R) (dem : Bool) (N : Nat) (y0 : Int) (y1 : Int) (y2 : Int) (y3 : Option (Nat × Nat)) (y4 : Bool) (J : KF R) (σ : St) :
    runK Try.prog call dem N f12c11 f12a11 J (f12e6 y0 y1 y2 y3 y4) σ =
call dem (35 : Nat) [AV.int IntKind.i64 (1 : Int), AV.int IntKind.i64 y0] σ fun v0 v1 =>
  Option.bind (AV.toBool v0) fun v2 =>
    if (!v2) = true then
      call dem (15 : Nat) [] v1 fun v3 v4 => Option.bind (AV.toBool v3) fun v5 => J Ex.normal (f12e7 y0 y1 y2 v5 y3 y4 y0 v2 (!v2) true v5 v5) v4
    else J Ex.normal (f12e8 y0 y1 y2 false y3 y4 y0 v2 (!v2) false false) v1 := hide (by kernel_rfl)
theorem f12z9_f12e7 (y0 : Int) (y1 : Int) (y2 : Int) (y3 : Bool) (y4 : Option (Nat × Nat)) (y5 : Bool) (y6 : Int) (y7 : Bool) (y8 : Bool) (y9 : Bool) (y10 : Bool) (y11 : Bool) : Ann.clr f12a9 (f12e7 y0 y1 y2 y3 y4 y5 y6 y7 y8 y9 y10 y11) = f12e9 y3 := hide (by kernel_rfl)
theorem f12y12_f12e9 {R : Type} (call : Bool → CallF R) (dem : Bool) (N : Nat) (y0 : Bool) (J : KF R) (σ : St) : runK Try.prog call dem N f12c12 f12a12 J (f12e9 y0) σ = J .ret (f12e9 y0) σ := runK_ret' (by kernel_rfl) (by kernel_rfl)
theorem f12z9_f12e8 (y0 : Int) (y1 : Int) (y2 : Int) (y3 : Bool) (y4 : Option (Nat × Nat)) (y5 : Bool) (y6 : Int) (y7 : Bool) (y8 : Bool) (y9 : Bool) (y10 : Bool) : Ann.clr f12a9 (f12e8 y0 y1 y2 y3 y4 y5 y6 y7 y8 y9 y10) = f12e9 y3 := hide (by kernel_rfl)
theorem f12n10 {R : Type} (call : Bool → CallF R) (dem : Bool) (N : Nat) (J : KF R) (e : Env) (σ : St) : runK Try.prog call dem N f12c10 f12a10 J e σ = J .normal e σ := runK_skip' (by kernel_rfl)
theorem f12z8_f12e6 (y0 : Int) (y1 : Int) (y2 : Int) (y3 : Option (Nat × Nat)) (y4 : Bool) : Ann.clr f12a8 (f12e6 y0 y1 y2 y3 y4) = f12e10 y0 y1 y2 y3 := hide (by kernel_rfl)
theorem f12z5_f12e5 (y0 : Int) (y1 : Int) (y2 : Int) (y3 : Option (Nat × Nat)) (y4 : Int) (y5 : Int) (y6 : Bool) (y7 : Bool) (y8 : Option (Nat × Nat)) (y9 : Bool) (y10 : Bool) : Ann.clr f12a5 (f12e5 y0 y1 y2 y3 y4 y5 y6 y7 y8 y9 y10) = f12e6 y0 y1 y2 y3 y10 := hide (by kernel_rfl)
theorem f12z4_f12e10 (y0 : Int) (y1 : Int) (y2 : Int) (y3 : Option (Nat × Nat)) : Ann.clr f12a4 (f12e10 y0 y1 y2 y3) = f12e10 y0 y1 y2 y3 := hide (by kernel_rfl)
theorem f12n6 {R : Type} (call : Bool → CallF R) (dem : Bool) (N : Nat) (J : KF R) (e : Env) (σ : St) : runK Try.prog call dem N f12c6 f12a6 J e σ = runK Try.prog call dem N f12c13 f12a13 (seqC (fun K e σ => runK Try.prog call dem N f12c14 f12a14 K e σ) f12a6 J) e σ := runK_seq' (by kernel_rfl) (by kernel_rfl) (by kernel_rfl)
theorem f12r13_f12e10 {R : Type} (call : Bool → CallF R) (dem : Bool) (N : Nat) (y0 : Int) (y1 : Int) (y2 : Int) (y3 : Option (Nat × Nat)) (J : KF R) (σ : St) :
    runK Try.prog call dem N f12c13 f12a13 J (f12e10 y0 y1 y2 y3) σ =
call dem (17 : Nat) [AV.ptr y3, AV.int IntKind.i64 y1, AV.int IntKind.i64 y2] σ fun v0 v1 =>
  Option.bind (AV.toTuple v0) fun v2 =>
    if List.length v2 = (2 : Nat) then
      Option.bind (List.head? v2) fun v3 =>
        Option.bind (AV.toPtr v3) fun v4 =>
          Option.bind (List.head? (List.tail v2)) fun v5 =>
            Option.bind (AV.toInt IntKind.i64 v5) fun v6 => J Ex.normal (f12e11 y0 y1 y2 y3 v4 v6 v4 v6 y3 y1 y2 v4 v6 v4 v6) v1
    else none := hide (by kernel_rfl)
theorem f12z6_f12e11 (y0 : Int) (y1 : Int) (y2 : Int) (y3 : Option (Nat × Nat)) (y4 : Option (Nat × Nat)) (y5 : Int) (y6 : Option (Nat × Nat)) (y7 : Int) (y8 : Option (Nat × Nat)) (y9 : Int) (y10 : Int) (y11 : Option (Nat × Nat)) (y12 : Int) (y13 : Option (Nat × Nat)) (y14 : Int) : Ann.clr f12a6 (f12e11 y0 y1 y2 y3 y4 y5 y6 y7 y8 y9 y10 y11 y12 y13 y14) = f12e12 y0 y1 y2 y3 y4 y5 := hide (by kernel_rfl)
theorem f12n14 {R : Type} (call : Bool → CallF R) (dem : Bool) (N : Nat) (J : KF R) (e : Env) (σ : St) : runK Try.prog call dem N f12c14 f12a14 J e σ = runK Try.prog call dem N f12c15 f12a15 (seqC (fun K e σ => runK Try.prog call dem N f12c16 f12a16 K e σ) f12a14 J) e σ := runK_seq' (by kernel_rfl) (by kernel_rfl) (by kernel_rfl)
theorem f12n15 {R : Type} (call : Bool → CallF R) (dem : Bool) (N : Nat) (J : KF R) (e : Env) (σ : St) : runK Try.prog call dem N f12c15 f12a15 J e σ = runK Try.prog call dem N f12c17 f12a17 (seqC (fun K e σ => runK Try.prog call dem N f12c18 f12a18 K e σ) f12a15 J) e σ := runK_seq' (by kernel_rfl) (by kernel_rfl) (by kernel_rfl)
theorem f12r17_f12e12 {R : Type} (call : Bool → CallF R) (dem : Bool) (N : Nat) (y0 : Int) (y1 : Int) (y2 : Int) (y3 : Option (Nat × Nat)) (y4 : Option (Nat × Nat)) (y5 : Int) (J : KF R) (σ : St) :
    runK Try.prog call dem N f12c17 f12a17 J (f12e12 y0 y1 y2 y3 y4 y5) σ =
J Ex.normal (f12e13 y0 y1 y2 y3 y4 y5 y5 (y5 != (0 : Int))) σ := hide (by kernel_rfl)
theorem f12z15_f12e13 (y0 : Int) (y1 : Int) (y2 : Int) (y3 : Option (Nat × Nat)) (y4 : Option (Nat × Nat)) (y5 : Int) (y6 : Int) (y7 : Bool) : Ann.clr f12a15 (f12e13 y0 y1 y2 y3 y4 y5 y6 y7) = f12e14 y0 y1 y2 y3 y4 y7 := hide (by kernel_rfl)
theorem f12x18_f12e14 {R : Type} (call : Bool → CallF R) (dem : Bool) (N : Nat) (y0 : Int) (y1 : Int) (y2 : Int) (y3 : Option (Nat × Nat)) (y4 : Option (Nat × Nat)) (y5 : Bool) (J : KF R) (σ : St) : runK Try.prog call dem N f12c18 f12a18 J (f12e14 y0 y1 y2 y3 y4 y5) σ = if y5 = true then runK Try.prog call dem N f12c19 f12a19 (condC f12a18 J) (f12e14 y0 y1 y2 y3 y4 y5) σ else runK Try.prog call dem N f12c20 f12a20 (condC f12a18 J) (f12e14 y0 y1 y2 y3 y4 y5) σ := runK_cond' (o := Operand.tmp (46 : Nat)) (by kernel_rfl) (by kernel_rfl) (by kernel_rfl) (by kernel_rfl)
theorem f12n19 {R : Type} (call : Bool → CallF R) (dem : Bool) (N : Nat) (J : KF R) (e : Env) (σ : St) : runK Try.prog call dem N f12c19 f12a19 J e σ = runK Try.prog call dem N f12c21 f12a21 (seqC (fun K e σ => runK Try.prog call dem N f12c22 f12a22 K e σ) f12a19 J) e σ := runK_seq' (by kernel_rfl) (by kernel_rfl) (by kernel_rfl)
theorem f12r21_f12e14_p {R : Type} (call : Bool → CallF R) (dem : Bool) (N : Nat) (y0 : Int) (y1 : Int) (y2 : Int) (y3 : Option (Nat × Nat)) (y4 : Option (Nat × Nat)) (y5 : Bool) (Q : Env → St → Option R) (σ : St) :
    opsK Try.prog dem (call dem) (opsOf f12c21) (((opsOf f12c21).toList.drop 0).take 8) Q (f12e14 y0 y1 y2 y3 y4 y5) σ =
if decide (y1 < (0 : Int)) = true then Q (f12e15 y0 y1 y2 y3 y4 y5 y1 (decide (y1 < (0 : Int))) true true true) σ
else
  if decide (y1 > (1099511627776 : Int)) = true then
    Q
      (f12e16 y0 y1 y2 y3 y4 y5 y1 (decide (y1 < (0 : Int))) false y1 (decide (y1 > (1099511627776 : Int))) (decide (y1 > (1099511627776 : Int)))
        true)
      σ
  else
    Q
      (f12e17 y0 y1 y2 y3 y4 y5 y1 (decide (y1 < (0 : Int))) false y1 (decide (y1 > (1099511627776 : Int))) (decide (y1 > (1099511627776 : Int)))
        false y2)
      σ := hide (by kernel_rfl)
theorem f12r21_f12e14 {R : Type} (call : Bool → CallF R) (dem : Bool) (N : Nat) (y0 : Int) (y1 : Int) (y2 : Int) (y3 : Option (Nat × Nat)) (y4 : Option (Nat × Nat)) (y5 : Bool) (J : KF R) (σ : St) :
    runK Try.prog call dem N f12c21 f12a21 J (f12e14 y0 y1 y2 y3 y4 y5) σ =
if decide (y1 < (0 : Int)) = true then f12q21_1 call dem N J (f12e15 y0 y1 y2 y3 y4 y5 y1 (decide (y1 < (0 : Int))) true true true) σ
else
  if decide (y1 > (1099511627776 : Int)) = true then
    f12q21_1 call dem N J
      (f12e16 y0 y1 y2 y3 y4 y5 y1 (decide (y1 < (0 : Int))) false y1 (decide (y1 > (1099511627776 : Int))) (decide (y1 > (1099511627776 : Int)))
        true)
      σ
  else
    f12q21_1 call dem N J
      (f12e17 y0 y1 y2 y3 y4 y5 y1 (decide (y1 < (0 : Int))) false y1 (decide (y1 > (1099511627776 : Int))) (decide (y1 > (1099511627776 : Int)))
        false y2)
      σ := hide ((runK_cut 8 (by kernel_rfl)).trans (f12r21_f12e14_p call dem N y0 y1 y2 y3 y4 y5 (f12q21_1 call dem N J) σ))
theorem f12q21_1_f12e15_p {R : Type} (call : Bool → CallF R) (dem : Bool) (N : Nat) (y0 : Int) (y1 : Int) (y2 : Int) (y3 : Option (Nat × Nat)) (y4 : Option (Nat × Nat)) (y5 : Bool) (y6 : Int) (y7 : Bool) (y8 : Bool) (y9 : Bool) (y10 : Bool) (Q : Env → St → Option R) (σ : St) :
    opsK Try.prog dem (call dem) (opsOf f12c21) (((opsOf f12c21).toList.drop 8).take 8) Q (f12e15 y0 y1 y2 y3 y4 y5 y6 y7 y8 y9 y10) σ =
if y10 = true then
  call dem (15 : Nat) [] σ fun v0 v1 => Option.bind (AV.toBool v0) fun v2 => Q (f12e18 y0 y1 y2 y3 y4 y5 y6 y7 y8 y9 true true true true true v2) v1
else none := hide (by kernel_rfl)
theorem f12q21_1_f12e15 {R : Type} (call : Bool → CallF R) (dem : Bool) (N : Nat) (y0 : Int) (y1 : Int) (y2 : Int) (y3 : Option (Nat × Nat)) (y4 : Option (Nat × Nat)) (y5 : Bool) (y6 : Int) (y7 : Bool) (y8 : Bool) (y9 : Bool) (y10 : Bool) (J : KF R) (σ : St) :
    f12q21_1 call dem N J (f12e15 y0 y1 y2 y3 y4 y5 y6 y7 y8 y9 y10) σ =
if y10 = true then
  call dem (15 : Nat) [] σ fun v0 v1 => Option.bind (AV.toBool v0) fun v2 => f12q21_2 call dem N J (f12e18 y0 y1 y2 y3 y4 y5 y6 y7 y8 y9 true true true true true v2) v1
else none := hide ((opsK_cut 8 8).trans (f12q21_1_f12e15_p call dem N y0 y1 y2 y3 y4 y5 y6 y7 y8 y9 y10 (f12q21_2 call dem N J) σ))
theorem f12q21_1_f12e16_p {R : Type} (call : Bool → CallF R) (dem : Bool) (N : Nat) (y0 : Int) (y1 : Int) (y2 : Int) (y3 : Option (Nat × Nat)) (y4 : Option (Nat × Nat)) (y5 : Bool) (y6 : Int) (y7 : Bool) (y8 : Bool) (y9 : Int) (y10 : Bool) (y11 : Bool) (y12 : Bool) (Q : Env → St → Option R) (σ : St) :
    opsK Try.prog dem (call dem) (opsOf f12c21) (((opsOf f12c21).toList.drop 8).take 8) Q (f12e16 y0 y1 y2 y3 y4 y5 y6 y7 y8 y9 y10 y11 y12) σ =
if y12 = true then
  call dem (15 : Nat) [] σ fun v0 v1 =>
    Option.bind (AV.toBool v0) fun v2 => Q (f12e19 y0 y1 y2 y3 y4 y5 y6 y7 y8 y9 y10 y11 true true true true true v2) v1
else none := hide (by kernel_rfl)
theorem f12q21_1_f12e16 {R : Type} (call : Bool → CallF R) (dem : Bool) (N : Nat) (y0 : Int) (y1 : Int) (y2 : Int) (y3 : Option (Nat × Nat)) (y4 : Option (Nat × Nat)) (y5 : Bool) (y6 : Int) (y7 : Bool) (y8 : Bool) (y9 : Int) (y10 : Bool) (y11 : Bool) (y12 : Bool) (J : KF R) (σ : St) :
    f12q21_1 call dem N J (f12e16 y0 y1 y2 y3 y4 y5 y6 y7 y8 y9 y10 y11 y12) σ =
if y12 = true then
  call dem (15 : Nat) [] σ fun v0 v1 =>
    Option.bind (AV.toBool v0) fun v2 => f12q21_2 call dem N J (f12e19 y0 y1 y2 y3 y4 y5 y6 y7 y8 y9 y10 y11 true true true true true v2) v1
else none := hide ((opsK_cut 8 8).trans (f12q21_1_f12e16_p call dem N y0 y1 y2 y3 y4 y5 y6 y7 y8 y9 y10 y11 y12 (f12q21_2 call dem N J) σ))
theorem f12q21_1_f12e17_p {R : Type} (call : Bool → CallF R) (dem : Bool) (N : Nat) (y0 : Int) (y1 : Int) (y2 : Int) (y3 : Option (Nat × Nat)) (y4 : Option (Nat × Nat)) (y5 : Bool) (y6 : Int) (y7 : Bool) (y8 : Bool) (y9 : Int) (y10 : Bool) (y11 : Bool) (y12 : Bool) (y13 : Int) (Q : Env → St → Option R) (σ : St) :
    opsK Try.prog dem (call dem) (opsOf f12c21) (((opsOf f12c21).toList.drop 8).take 8) Q (f12e17 y0 y1 y2 y3 y4 y5 y6 y7 y8 y9 y10 y11 y12 y13) σ =
if y12 = true then
  call dem (15 : Nat) [] σ fun v0 v1 =>
    Option.bind (AV.toBool v0) fun v2 => Q (f12e20 y0 y1 y2 y3 y4 y5 y6 y7 y8 y9 y10 y11 true y13 true true true true v2) v1
else
  if decide (y13 < (1 : Int)) = true then
    call dem (15 : Nat) [] σ fun v0 v1 =>
      Option.bind (AV.toBool v0) fun v2 =>
        Q (f12e21 y0 y1 y2 y3 y4 y5 y6 y7 y8 y9 y10 y11 false y13 (decide (y13 < (1 : Int))) (decide (y13 < (1 : Int))) true true true v2) v1
  else
    if decide (y2 > (8 : Int)) = true then
      call dem (15 : Nat) [] σ fun v0 v1 =>
        Option.bind (AV.toBool v0) fun v2 =>
          Q
            (f12e22 y0 y1 y2 y3 y4 y5 y6 y7 y8 y9 y10 y11 false y13 (decide (y13 < (1 : Int))) (decide (y13 < (1 : Int))) false y2
              (decide (y2 > (8 : Int))) (decide (y2 > (8 : Int))) true v2)
            v1
    else
      Q
        (f12e23 y0 y1 y2 y3 y4 y5 y6 y7 y8 y9 y10 y11 false y13 (decide (y13 < (1 : Int))) (decide (y13 < (1 : Int))) false y2
          (decide (y2 > (8 : Int))) (decide (y2 > (8 : Int))) false)
        σ := hide (by kernel_rfl)
theorem f12q21_1_f12e17 {R : Type} (call : Bool → CallF R) (dem : Bool) (N : Nat) (y0 : Int) (y1 : Int) (y2 : Int) (y3 : Option (Nat × Nat)) (y4 : Option (Nat × Nat)) (y5 : Bool) (y6 : Int) (y7 : Bool) (y8 : Bool) (y9 : Int) (y10 : Bool) (y11 : Bool) (y12 : Bool) (y13 : Int) (J : KF R) (σ : St) :
    f12q21_1 call dem N J (f12e17 y0 y1 y2 y3 y4 y5 y6 y7 y8 y9 y10 y11 y12 y13) σ =
if y12 = true then
  call dem (15 : Nat) [] σ fun v0 v1 =>
    Option.bind (AV.toBool v0) fun v2 => f12q21_2 call dem N J (f12e20 y0 y1 y2 y3 y4 y5 y6 y7 y8 y9 y10 y11 true y13 true true true true v2) v1
else
  if decide (y13 < (1 : Int)) = true then
    call dem (15 : Nat) [] σ fun v0 v1 =>
      Option.bind (AV.toBool v0) fun v2 =>
        f12q21_2 call dem N J (f12e21 y0 y1 y2 y3 y4 y5 y6 y7 y8 y9 y10 y11 false y13 (decide (y13 < (1 : Int))) (decide (y13 < (1 : Int))) true true true v2) v1
  else
    if decide (y2 > (8 : Int)) = true then
      call dem (15 : Nat) [] σ fun v0 v1 =>
        Option.bind (AV.toBool v0) fun v2 =>
          f12q21_2 call dem N J
            (f12e22 y0 y1 y2 y3 y4 y5 y6 y7 y8 y9 y10 y11 false y13 (decide (y13 < (1 : Int))) (decide (y13 < (1 : Int))) false y2
              (decide (y2 > (8 : Int))) (decide (y2 > (8 : Int))) true v2)
            v1
    else
      f12q21_2 call dem N J
        (f12e23 y0 y1 y2 y3 y4 y5 y6 y7 y8 y9 y10 y11 false y13 (decide (y13 < (1 : Int))) (decide (y13 < (1 : Int))) false y2
          (decide (y2 > (8 : Int))) (decide (y2 > (8 : Int))) false)
        σ := hide ((opsK_cut 8 8).trans (f12q21_1_f12e17_p call dem N y0 y1 y2 y3 y4 y5 y6 y7 y8 y9 y10 y11 y12 y13 (f12q21_2 call dem N J) σ))
theorem f12q21_2_f12e18_p {R : Type} (call : Bool → CallF R) (dem : Bool) (N : Nat) (y0 : Int) (y1 : Int) (y2 : Int) (y3 : Option (Nat × Nat)) (y4 : Option (Nat × Nat)) (y5 : Bool) (y6 : Int) (y7 : Bool) (y8 : Bool) (y9 : Bool) (y10 : Bool) (y11 : Bool) (y12 : Bool) (y13 : Bool) (y14 : Bool) (y15 : Bool) (Q : Env → St → Option R) (σ : St) :
    opsK Try.prog dem (call dem) (opsOf f12c21) ((opsOf f12c21).toList.drop 16) Q (f12e18 y0 y1 y2 y3 y4 y5 y6 y7 y8 y9 y10 y11 y12 y13 y14 y15) σ =
if y14 = true then Q (f12e24 y0 y1 y2 y15 y3 y4 y5 y6 y7 y8 y9 y10 y11 y12 y13 y14 y15 y15) σ
else Q (f12e24 y0 y1 y2 false y3 y4 y5 y6 y7 y8 y9 y10 y11 y12 y13 y14 y15 false) σ := hide (by kernel_rfl)
theorem f12q21_2_f12e18 {R : Type} (call : Bool → CallF R) (dem : Bool) (N : Nat) (y0 : Int) (y1 : Int) (y2 : Int) (y3 : Option (Nat × Nat)) (y4 : Option (Nat × Nat)) (y5 : Bool) (y6 : Int) (y7 : Bool) (y8 : Bool) (y9 : Bool) (y10 : Bool) (y11 : Bool) (y12 : Bool) (y13 : Bool) (y14 : Bool) (y15 : Bool) (J : KF R) (σ : St) :
    f12q21_2 call dem N J (f12e18 y0 y1 y2 y3 y4 y5 y6 y7 y8 y9 y10 y11 y12 y13 y14 y15) σ =
if y14 = true then J Ex.normal (f12e24 y0 y1 y2 y15 y3 y4 y5 y6 y7 y8 y9 y10 y11 y12 y13 y14 y15 y15) σ
else J Ex.normal (f12e24 y0 y1 y2 false y3 y4 y5 y6 y7 y8 y9 y10 y11 y12 y13 y14 y15 false) σ := hide (f12q21_2_f12e18_p call dem N y0 y1 y2 y3 y4 y5 y6 y7 y8 y9 y10 y11 y12 y13 y14 y15 (fun e σ => J .normal e σ) σ)
theorem f12q21_2_f12e19_p {R : Type} (call : Bool → CallF R) (dem : Bool) (N : Nat) (y0 : Int) (y1 : Int) (y2 : Int) (y3 : Option (Nat × Nat)) (y4 : Option (Nat × Nat)) (y5 : Bool) (y6 : Int) (y7 : Bool) (y8 : Bool) (y9 : Int) (y10 : Bool) (y11 : Bool) (y12 : Bool) (y13 : Bool) (y14 : Bool) (y15 : Bool) (y16 : Bool) (y17 : Bool) (Q : Env → St → Option R) (σ : St) :
    opsK Try.prog dem (call dem) (opsOf f12c21) ((opsOf f12c21).toList.drop 16) Q (f12e19 y0 y1 y2 y3 y4 y5 y6 y7 y8 y9 y10 y11 y12 y13 y14 y15 y16 y17) σ =
if y16 = true then Q (f12e25 y0 y1 y2 y17 y3 y4 y5 y6 y7 y8 y9 y10 y11 y12 y13 y14 y15 y16 y17 y17) σ
else Q (f12e25 y0 y1 y2 false y3 y4 y5 y6 y7 y8 y9 y10 y11 y12 y13 y14 y15 y16 y17 false) σ := hide (by kernel_rfl)
theorem f12q21_2_f12e19 {R : Type} (call : Bool → CallF R) (dem : Bool) (N : Nat) (y0 : Int) (y1 : Int) (y2 : Int) (y3 : Option (Nat × Nat)) (y4 : Option (Nat × Nat)) (y5 : Bool) (y6 : Int) (y7 : Bool) (y8 : Bool) (y9 : Int) (y10 : Bool) (y11 : Bool) (y12 : Bool) (y13 : Bool) (y14 : Bool) (y15 : Bool) (y16 : Bool) (y17 : Bool) (J : KF R) (σ : St) :
    f12q21_2 call dem N J (f12e19 y0 y1 y2 y3 y4 y5 y6 y7 y8 y9 y10 y11 y12 y13 y14 y15 y16 y17) σ =
if y16 = true then J Ex.normal (f12e25 y0 y1 y2 y17 y3 y4 y5 y6 y7 y8 y9 y10 y11 y12 y13 y14 y15 y16 y17 y17) σ
else J Ex.normal (f12e25 y0 y1 y2 false y3 y4 y5 y6 y7 y8 y9 y10 y11 y12 y13 y14 y15 y16 y17 false) σ := hide (f12q21_2_f12e19_p call dem N y0 y1 y2 y3 y4 y5 y6 y7 y8 y9 y10 y11 y12 y13 y14 y15 y16 y17 (fun e σ => J .normal e σ) σ)
theorem f12q21_2_f12e20_p {R : Type} (call : Bool → CallF R) (dem : Bool) (N : Nat) (y0 : Int) (y1 : Int) (y2 : Int) (y3 : Option (Nat × Nat)) (y4 : Option (Nat × Nat)) (y5 : Bool) (y6 : Int) (y7 : Bool) (y8 : Bool) (y9 : Int) (y10 : Bool) (y11 : Bool) (y12 : Bool) (y13 : Int) (y14 : Bool) (y15 : Bool) (y16 : Bool) (y17 : Bool) (y18 : Bool) (Q : Env → St → Option R) (σ : St) :
    opsK Try.prog dem (call dem) (opsOf f12c21) ((opsOf f12c21).toList.drop 16) Q (f12e20 y0 y1 y2 y3 y4 y5 y6 y7 y8 y9 y10 y11 y12 y13 y14 y15 y16 y17 y18) σ =
if y17 = true then Q (f12e26 y0 y1 y2 y18 y3 y4 y5 y6 y7 y8 y9 y10 y11 y12 y13 y14 y15 y16 y17 y18 y18) σ
else Q (f12e26 y0 y1 y2 false y3 y4 y5 y6 y7 y8 y9 y10 y11 y12 y13 y14 y15 y16 y17 y18 false) σ := hide (by kernel_rfl)
theorem f12q21_2_f12e20 {R : Type} (call : Bool → CallF R) (dem : Bool) (N : Nat) (y0 : Int) (y1 : Int) (y2 : Int) (y3 : Option (Nat × Nat)) (y4 : Option (Nat × Nat)) (y5 : Bool) (y6 : Int) (y7 : Bool) (y8 : Bool) (y9 : Int) (y10 : Bool) (y11 : Bool) (y12 : Bool) (y13 : Int) (y14 : Bool) (y15 : Bool) (y16 : Bool) (y17 : Bool) (y18 : Bool) (J : KF R) (σ : St) :
    f12q21_2 call dem N J (f12e20 y0 y1 y2 y3 y4 y5 y6 y7 y8 y9 y10 y11 y12 y13 y14 y15 y16 y17 y18) σ =
if y17 = true then J Ex.normal (f12e26 y0 y1 y2 y18 y3 y4 y5 y6 y7 y8 y9 y10 y11 y12 y13 y14 y15 y16 y17 y18 y18) σ
else J Ex.normal (f12e26 y0 y1 y2 false y3 y4 y5 y6 y7 y8 y9 y10 y11 y12 y13 y14 y15 y16 y17 y18 false) σ := hide (f12q21_2_f12e20_p call dem N y0 y1 y2 y3 y4 y5 y6 y7 y8 y9 y10 y11 y12 y13 y14 y15 y16 y17 y18 (fun e σ => J .normal e σ) σ)
theorem f12q21_2_f12e21_p {R : Type} (call : Bool → CallF R) (dem : Bool) (N : Nat) (y0 : Int) (y1 : Int) (y2 : Int) (y3 : Option (Nat × Nat)) (y4 : Option (Nat × Nat)) (y5 : Bool) (y6 : Int) (y7 : Bool) (y8 : Bool) (y9 : Int) (y10 : Bool) (y11 : Bool) (y12 : Bool) (y13 : Int) (y14 : Bool) (y15 : Bool) (y16 : Bool) (y17 : Bool) (y18 : Bool) (y19 : Bool) (Q : Env → St → Option R) (σ : St) :
    opsK Try.prog dem (call dem) (opsOf f12c21) ((opsOf f12c21).toList.drop 16) Q (f12e21 y0 y1 y2 y3 y4 y5 y6 y7 y8 y9 y10 y11 y12 y13 y14 y15 y16 y17 y18 y19) σ =
if y18 = true then Q (f12e27 y0 y1 y2 y19 y3 y4 y5 y6 y7 y8 y9 y10 y11 y12 y13 y14 y15 y16 y17 y18 y19 y19) σ
else Q (f12e27 y0 y1 y2 false y3 y4 y5 y6 y7 y8 y9 y10 y11 y12 y13 y14 y15 y16 y17 y18 y19 false) σ := hide (by kernel_rfl)
theorem f12q21_2_f12e21 {R : Type} (call : Bool → CallF R) (dem : Bool) (N : Nat) (y0 : Int) (y1 : Int) (y2 : Int) (y3 : Option (Nat × Nat)) (y4 : Option (Nat × Nat)) (y5 : Bool) (y6 : Int) (y7 : Bool) (y8 : Bool) (y9 : Int) (y10 : Bool) (y11 : Bool) (y12 : Bool) (y13 : Int) (y14 : Bool) (y15 : Bool) (y16 : Bool) (y17 : Bool) (y18 : Bool) (y19 : Bool) (J : KF R) (σ : St) :
    f12q21_2 call dem N J (f12e21 y0 y1 y2 y3 y4 y5 y6 y7 y8 y9 y10 y11 y12 y13 y14 y15 y16 y17 y18 y19) σ =
if y18 = true then J Ex.normal (f12e27 y0 y1 y2 y19 y3 y4 y5 y6 y7 y8 y9 y10 y11 y12 y13 y14 y15 y16 y17 y18 y19 y19) σ
else J Ex.normal (f12e27 y0 y1 y2 false y3 y4 y5 y6 y7 y8 y9 y10 y11 y12 y13 y14 y15 y16 y17 y18 y19 false) σ := hide (f12q21_2_f12e21_p call dem N y0 y1 y2 y3 y4 y5 y6 y7 y8 y9 y10 y11 y12 y13 y14 y15 y16 y17 y18 y19 (fun e σ => J .normal e σ) σ)
theorem f12q21_2_f12e22_p {R : Type} (call : Bool → CallF R) (dem : Bool) (N : Nat) (y0 : Int) (y1 : Int) (y2 : Int) (y3 : Option (Nat × Nat)) (y4 : Option (Nat × Nat)) (y5 : Bool) (y6 : Int) (y7 : Bool) (y8 : Bool) (y9 : Int) (y10 : Bool) (y11 : Bool) (y12 : Bool) (y13 : Int) (y14 : Bool) (y15 : Bool) (y16 : Bool) (y17 : Int) (y18 : Bool) (y19 : Bool) (y20 : Bool) (y21 : Bool) (Q : Env → St → Option R) (σ : St) :
    opsK Try.prog dem (call dem) (opsOf f12c21) ((opsOf f12c21).toList.drop 16) Q (f12e22 y0 y1 y2 y3 y4 y5 y6 y7 y8 y9 y10 y11 y12 y13 y14 y15 y16 y17 y18 y19 y20 y21) σ =
if y20 = true then Q (f12e28 y0 y1 y2 y21 y3 y4 y5 y6 y7 y8 y9 y10 y11 y12 y13 y14 y15 y16 y17 y18 y19 y20 y21 y21) σ
else Q (f12e28 y0 y1 y2 false y3 y4 y5 y6 y7 y8 y9 y10 y11 y12 y13 y14 y15 y16 y17 y18 y19 y20 y21 false) σ := hide (by kernel_rfl)
theorem f12q21_2_f12e22 {R : Type} (call : Bool → CallF R) (dem : Bool) (N : Nat) (y0 : Int) (y1 : Int) (y2 : Int) (y3 : Option (Nat × Nat)) (y4 : Option (Nat × Nat)) (y5 : Bool) (y6 : Int) (y7 : Bool) (y8 : Bool) (y9 : Int) (y10 : Bool) (y11 : Bool) (y12 : Bool) (y13 : Int) (y14 : Bool) (y15 : Bool) (y16 : Bool) (y17 : Int) (y18 : Bool) (y19 : Bool) (y20 : Bool) (y21 : Bool) (J : KF R) (σ : St) :
    f12q21_2 call dem N J (f12e22 y0 y1 y2 y3 y4 y5 y6 y7 y8 y9 y10 y11 y12 y13 y14 y15 y16 y17 y18 y19 y20 y21) σ =
if y20 = true then J Ex.normal (f12e28 y0 y1 y2 y21 y3 y4 y5 y6 y7 y8 y9 y10 y11 y12 y13 y14 y15 y16 y17 y18 y19 y20 y21 y21) σ
else J Ex.normal (f12e28 y0 y1 y2 false y3 y4 y5 y6 y7 y8 y9 y10 y11 y12 y13 y14 y15 y16 y17 y18 y19 y20 y21 false) σ := hide (f12q21_2_f12e22_p call dem N y0 y1 y2 y3 y4 y5 y6 y7 y8 y9 y10 y11 y12 y13 y14 y15 y16 y17 y18 y19 y20 y21 (fun e σ => J .normal e σ) σ)
theorem f12q21_2_f12e23_p {R : Type} (call : Bool → CallF R) (dem : Bool) (N : Nat) (y0 : Int) (y1 : Int) (y2 : Int) (y3 : Option (Nat × Nat)) (y4 : Option (Nat × Nat)) (y5 : Bool) (y6 : Int) (y7 : Bool) (y8 : Bool) (y9 : Int) (y10 : Bool) (y11 : Bool) (y12 : Bool) (y13 : Int) (y14 : Bool) (y15 : Bool) (y16 : Bool) (y17 : Int) (y18 : Bool) (y19 : Bool) (y20 : Bool) (Q : Env → St → Option R) (σ : St) :
    opsK Try.prog dem (call dem) (opsOf f12c21) ((opsOf f12c21).toList.drop 16) Q (f12e23 y0 y1 y2 y3 y4 y5 y6 y7 y8 y9 y10 y11 y12 y13 y14 y15 y16 y17 y18 y19 y20) σ =
if y20 = true then none else Q (f12e29 y0 y1 y2 false y3 y4 y5 y6 y7 y8 y9 y10 y11 y12 y13 y14 y15 y16 y17 y18 y19 y20 false) σ := hide (by kernel_rfl)
theorem f12q21_2_f12e23 {R : Type} (call : Bool → CallF R) (dem : Bool) (N : Nat) (y0 : Int) (y1 : Int) (y2 : Int) (y3 : Option (Nat × Nat)) (y4 : Option (Nat × Nat)) (y5 : Bool) (y6 : Int) (y7 : Bool) (y8 : Bool) (y9 : Int) (y10 : Bool) (y11 : Bool) (y12 : Bool) (y13 : Int) (y14 : Bool) (y15 : Bool) (y16 : Bool) (y17 : Int) (y18 : Bool) (y19 : Bool) (y20 : Bool) (J : KF R) (σ : St) :
    f12q21_2 call dem N J (f12e23 y0 y1 y2 y3 y4 y5 y6 y7 y8 y9 y10 y11 y12 y13 y14 y15 y16 y17 y18 y19 y20) σ =
if y20 = true then none else J Ex.normal (f12e29 y0 y1 y2 false y3 y4 y5 y6 y7 y8 y9 y10 y11 y12 y13 y14 y15 y16 y17 y18 y19 y20 false) σ := hide (f12q21_2_f12e23_p call dem N y0 y1 y2 y3 y4 y5 y6 y7 y8 y9 y10 y11 y12 y13 y14 y15 y16 y17 y18 y19 y20 (fun e σ => J .normal e σ) σ)
theorem f12z19_f12e24 (y0 : Int) (y1 : Int) (y2 : Int) (y3 : Bool) (y4 : Option (Nat × Nat)) (y5 : Option (Nat × Nat)) (y6 : Bool) (y7 : Int) (y8 : Bool) (y9 : Bool) (y10 : Bool) (y11 : Bool) (y12 : Bool) (y13 : Bool) (y14 : Bool) (y15 : Bool) (y16 : Bool) (y17 : Bool) : Ann.clr f12a19 (f12e24 y0 y1 y2 y3 y4 y5 y6 y7 y8 y9 y10 y11 y12 y13 y14 y15 y16 y17) = f12e9 y3 := hide (by kernel_rfl)
theorem f12y22_f12e9 {R : Type} (call : Bool → CallF R) (dem : Bool) (N : Nat) (y0 : Bool) (J : KF R) (σ : St) : runK Try.prog call dem N f12c22 f12a22 J (f12e9 y0) σ = J .ret (f12e9 y0) σ := runK_ret' (by kernel_rfl) (by kernel_rfl)
theorem f12z19_f12e25 (y0 : Int) (y1 : Int) (y2 : Int) (y3 : Bool) (y4 : Option (Nat × Nat)) (y5 : Option (Nat × Nat)) (y6 : Bool) (y7 : Int) (y8 : Bool) (y9 : Bool) (y10 : Int) (y11 : Bool) (y12 : Bool) (y13 : Bool) (y14 : Bool) (y15 : Bool) (y16 : Bool) (y17 : Bool) (y18 : Bool) (y19 : Bool) : Ann.clr f12a19 (f12e25 y0 y1 y2 y3 y4 y5 y6 y7 y8 y9 y10 y11 y12 y13 y14 y15 y16 y17 y18 y19) = f12e9 y3 := hide (by kernel_rfl)
theorem f12z19_f12e26 (y0 : Int) (y1 : Int) (y2 : Int) (y3 : Bool) (y4 : Option (Nat × Nat)) (y5 : Option (Nat × Nat)) (y6 : Bool) (y7 : Int) (y8 : Bool) (y9 : Bool) (y10 : Int) (y11 : Bool) (y12 : Bool) (y13 : Bool) (y14 : Int) (y15 : Bool) (y16 : Bool) (y17 : Bool) (y18 : Bool) (y19 : Bool) (y20 : Bool) : Ann.clr f12a19 (f12e26 y0 y1 y2 y3 y4 y5 y6 y7 y8 y9 y10 y11 y12 y13 y14 y15 y16 y17 y18 y19 y20) = f12e9 y3 := hide (by kernel_rfl)
theorem f12z19_f12e27 (y0 : Int) (y1 : Int) (y2 : Int) (y3 : Bool) (y4 : Option (Nat × Nat)) (y5 : Option (Nat × Nat)) (y6 : Bool) (y7 : Int) (y8 : Bool) (y9 : Bool) (y10 : Int) (y11 : Bool) (y12 : Bool) (y13 : Bool) (y14 : Int) (y15 : Bool) (y16 : Bool) (y17 : Bool) (y18 : Bool) (y19 : Bool) (y20 : Bool) (y21 : Bool) : Ann.clr f12a19 (f12e27 y0 y1 y2 y3 y4 y5 y6 y7 y8 y9 y10 y11 y12 y13 y14 y15 y16 y17 y18 y19 y20 y21) = f12e9 y3 := hide (by kernel_rfl)
theorem f12z19_f12e28 (y0 : Int) (y1 : Int) (y2 : Int) (y3 : Bool) (y4 : Option (Nat × Nat)) (y5 : Option (Nat × Nat)) (y6 : Bool) (y7 : Int) (y8 : Bool) (y9 : Bool) (y10 : Int) (y11 : Bool) (y12 : Bool) (y13 : Bool) (y14 : Int) (y15 : Bool) (y16 : Bool) (y17 : Bool) (y18 : Int) (y19 : Bool) (y20 : Bool) (y21 : Bool) (y22 : Bool) (y23 : Bool) : Ann.clr f12a19 (f12e28 y0 y1 y2 y3 y4 y5 y6 y7 y8 y9 y10 y11 y12 y13 y14 y15 y16 y17 y18 y19 y20 y21 y22 y23) = f12e9 y3 := hide (by kernel_rfl)
theorem f12z19_f12e29 (y0 : Int) (y1 : Int) (y2 : Int) (y3 : Bool) (y4 : Option (Nat × Nat)) (y5 : Option (Nat × Nat)) (y6 : Bool) (y7 : Int) (y8 : Bool) (y9 : Bool) (y10 : Int) (y11 : Bool) (y12 : Bool) (y13 : Bool) (y14 : Int) (y15 : Bool) (y16 : Bool) (y17 : Bool) (y18 : Int) (y19 : Bool) (y20 : Bool) (y21 : Bool) (y22 : Bool) : Ann.clr f12a19 (f12e29 y0 y1 y2 y3 y4 y5 y6 y7 y8 y9 y10 y11 y12 y13 y14 y15 y16 y17 y18 y19 y20 y21 y22) = f12e9 y3 := hide (by kernel_rfl)
theorem f12n20 {R : Type} (call : Bool → CallF R) (dem : Bool) (N : Nat) (J : KF R) (e : Env) (σ : St) : runK Try.prog call dem N f12c20 f12a20 J e σ = J .normal e σ := runK_skip' (by kernel_rfl)
theorem f12z18_f12e14 (y0 : Int) (y1 : Int) (y2 : Int) (y3 : Option (Nat × Nat)) (y4 : Option (Nat × Nat)) (y5 : Bool) : Ann.clr f12a18 (f12e14 y0 y1 y2 y3 y4 y5) = f12e30 y0 y1 y2 y3 y4 := hide (by kernel_rfl)
theorem f12z14_f12e30 (y0 : Int) (y1 : Int) (y2 : Int) (y3 : Option (Nat × Nat)) (y4 : Option (Nat × Nat)) : Ann.clr f12a14 (f12e30 y0 y1 y2 y3 y4) = f12e30 y0 y1 y2 y3 y4 := hide (by kernel_rfl)
theorem f12n16 {R : Type} (call : Bool → CallF R) (dem : Bool) (N : Nat) (J : KF R) (e : Env) (σ : St) : runK Try.prog call dem N f12c16 f12a16 J e σ = runK Try.prog call dem N f12c23 f12a23 (seqC (fun K e σ => runK Try.prog call dem N f12c24 f12a24 K e σ) f12a16 J) e σ := runK_seq' (by kernel_rfl) (by kernel_rfl) (by kernel_rfl)
theorem f12r23_f12e30 {R : Type} (call : Bool → CallF R) (dem : Bool) (N : Nat) (y0 : Int) (y1 : Int) (y2 : Int) (y3 : Option (Nat × Nat)) (y4 : Option (Nat × Nat)) (J : KF R) (σ : St) :
    runK Try.prog call dem N f12c23 f12a23 J (f12e30 y0 y1 y2 y3 y4) σ =
if IntKind.wrap IntKind.i64 (IntKind.wrap IntKind.i64 ((3 : Int) * y0) + (1 : Int)) = (0 : Int) then none
else
  J Ex.normal
    (f12e31 y0 y1 y2 y3 y4 (Int.tmod y1 (IntKind.wrap IntKind.i64 (IntKind.wrap IntKind.i64 ((3 : Int) * y0) + (1 : Int)))) y1 y0
      (IntKind.wrap IntKind.i64 ((3 : Int) * y0)) (IntKind.wrap IntKind.i64 (IntKind.wrap IntKind.i64 ((3 : Int) * y0) + (1 : Int)))
      (Int.tmod y1 (IntKind.wrap IntKind.i64 (IntKind.wrap IntKind.i64 ((3 : Int) * y0) + (1 : Int)))))
    σ := hide (by kernel_rfl)
theorem f12z16_f12e31 (y0 : Int) (y1 : Int) (y2 : Int) (y3 : Option (Nat × Nat)) (y4 : Option (Nat × Nat)) (y5 : Int) (y6 : Int) (y7 : Int) (y8 : Int) (y9 : Int) (y10 : Int) : Ann.clr f12a16 (f12e31 y0 y1 y2 y3 y4 y5 y6 y7 y8 y9 y10) = f12e32 y1 y2 y3 y4 y5 := hide (by kernel_rfl)
theorem f12n24 {R : Type} (call : Bool → CallF R) (dem : Bool) (N : Nat) (J : KF R) (e : Env) (σ : St) : runK Try.prog call dem N f12c24 f12a24 J e σ = runK Try.prog call dem N f12c25 f12a25 (seqC (fun K e σ => runK Try.prog call dem N f12c26 f12a26 K e σ) f12a24 J) e σ := runK_seq' (by kernel_rfl) (by kernel_rfl) (by kernel_rfl)
theorem f12r25_f12e32 {R : Type} (call : Bool → CallF R) (dem : Bool) (N : Nat) (y0 : Int) (y1 : Int) (y2 : Option (Nat × Nat)) (y3 : Option (Nat × Nat)) (y4 : Int) (J : KF R) (σ : St) :
    runK Try.prog call dem N f12c25 f12a25 J (f12e32 y0 y1 y2 y3 y4) σ =
call dem (24 : Nat)
  [AV.ptr y3, AV.int IntKind.i64 (1 : Int), AV.int IntKind.i64 y4, AV.str (ByteArray.mk #[(97 : UInt8)]),
    AV.str
      (ByteArray.mk
        #[(48 : UInt8), (49 : UInt8), (50 : UInt8), (51 : UInt8), (52 : UInt8), (53 : UInt8), (54 : UInt8), (55 : UInt8), (56 : UInt8), (57 : UInt8),
          (97 : UInt8), (98 : UInt8), (99 : UInt8), (100 : UInt8), (101 : UInt8), (102 : UInt8)])]
  σ fun v0 v1 =>
  Option.bind (AV.toTuple v0) fun v2 =>
    if List.length v2 = (2 : Nat) then
      Option.bind (List.head? v2) fun v3 =>
        Option.bind (AV.toBool v3) fun v4 =>
          Option.bind (List.head? (List.tail v2)) fun v5 =>
            Option.bind (AV.toInt IntKind.i64 v5) fun v6 => J Ex.normal (f12e33 y0 y1 y2 y3 y4 y3 y4 v4 v6) v1
    else none := hide (by kernel_rfl)
theorem f12z24_f12e33 (y0 : Int) (y1 : Int) (y2 : Option (Nat × Nat)) (y3 : Option (Nat × Nat)) (y4 : Int) (y5 : Option (Nat × Nat)) (y6 : Int) (y7 : Bool) (y8 : Int) : Ann.clr f12a24 (f12e33 y0 y1 y2 y3 y4 y5 y6 y7 y8) = f12e34 y0 y1 y2 := hide (by kernel_rfl)
theorem f12n26 {R : Type} (call : Bool → CallF R) (dem : Bool) (N : Nat) (J : KF R) (e : Env) (σ : St) : runK Try.prog call dem N f12c26 f12a26 J e σ = runK Try.prog call dem N f12c27 f12a27 (seqC (fun K e σ => runK Try.prog call dem N f12c28 f12a28 K e σ) f12a26 J) e σ := runK_seq' (by kernel_rfl) (by kernel_rfl) (by kernel_rfl)
theorem f12r27_f12e34 {R : Type} (call : Bool → CallF R) (dem : Bool) (N : Nat) (y0 : Int) (y1 : Int) (y2 : Option (Nat × Nat)) (J : KF R) (σ : St) :
    runK Try.prog call dem N f12c27 f12a27 J (f12e34 y0 y1 y2) σ =
call dem (17 : Nat) [AV.ptr y2, AV.int IntKind.i64 y0, AV.int IntKind.i64 y1] σ fun v0 v1 =>
  Option.bind (AV.toTuple v0) fun v2 =>
    if List.length v2 = (2 : Nat) then
      Option.bind (List.head? v2) fun v3 =>
        Option.bind (AV.toPtr v3) fun v4 =>
          Option.bind (List.head? (List.tail v2)) fun v5 =>
            Option.bind (AV.toInt IntKind.i64 v5) fun v6 => J Ex.normal (f12e35 y0 y1 y2 v4 v6 v4 v6 y2 y0 y1 v4 v6 v4 v6) v1
    else none := hide (by kernel_rfl)
theorem f12z26_f12e35 (y0 : Int) (y1 : Int) (y2 : Option (Nat × Nat)) (y3 : Option (Nat × Nat)) (y4 : Int) (y5 : Option (Nat × Nat)) (y6 : Int) (y7 : Option (Nat × Nat)) (y8 : Int) (y9 : Int) (y10 : Option (Nat × Nat)) (y11 : Int) (y12 : Option (Nat × Nat)) (y13 : Int) : Ann.clr f12a26 (f12e35 y0 y1 y2 y3 y4 y5 y6 y7 y8 y9 y10 y11 y12 y13) = f12e36 y0 y1 y2 y3 y4 := hide (by kernel_rfl)
theorem f12n28 {R : Type} (call : Bool → CallF R) (dem : Bool) (N : Nat) (J : KF R) (e : Env) (σ : St) : runK Try.prog call dem N f12c28 f12a28 J e σ = runK Try.prog call dem N f12c29 f12a29 (seqC (fun K e σ => runK Try.prog call dem N f12c30 f12a30 K e σ) f12a28 J) e σ := runK_seq' (by kernel_rfl) (by kernel_rfl) (by kernel_rfl)
theorem f12n29 {R : Type} (call : Bool → CallF R) (dem : Bool) (N : Nat) (J : KF R) (e : Env) (σ : St) : runK Try.prog call dem N f12c29 f12a29 J e σ = runK Try.prog call dem N f12c31 f12a31 (seqC (fun K e σ => runK Try.prog call dem N f12c32 f12a32 K e σ) f12a29 J) e σ := runK_seq' (by kernel_rfl) (by kernel_rfl) (by kernel_rfl)
theorem f12r31_f12e36 {R : Type} (call : Bool → CallF R) (dem : Bool) (N : Nat) (y0 : Int) (y1 : Int) (y2 : Option (Nat × Nat)) (y3 : Option (Nat × Nat)) (y4 : Int) (J : KF R) (σ : St) :
    runK Try.prog call dem N f12c31 f12a31 J (f12e36 y0 y1 y2 y3 y4) σ =
if (y4 != (0 : Int)) = true then J Ex.normal (f12e37 y0 y1 y2 y3 y4 y4 (y4 != (0 : Int)) true true) σ
else J Ex.normal (f12e38 y0 y1 y2 y3 y4 y4 (y4 != (0 : Int)) false y3 (Option.isNone y3) (Option.isNone y3)) σ := hide (by kernel_rfl)
theorem f12z29_f12e37 (y0 : Int) (y1 : Int) (y2 : Option (Nat × Nat)) (y3 : Option (Nat × Nat)) (y4 : Int) (y5 : Int) (y6 : Bool) (y7 : Bool) (y8 : Bool) : Ann.clr f12a29 (f12e37 y0 y1 y2 y3 y4 y5 y6 y7 y8) = f12e39 y0 y1 y2 y3 y8 := hide (by kernel_rfl)
theorem f12x32_f12e39 {R : Type} (call : Bool → CallF R) (dem : Bool) (N : Nat) (y0 : Int) (y1 : Int) (y2 : Option (Nat × Nat)) (y3 : Option (Nat × Nat)) (y4 : Bool) (J : KF R) (σ : St) : runK Try.prog call dem N f12c32 f12a32 J (f12e39 y0 y1 y2 y3 y4) σ = if y4 = true then runK Try.prog call dem N f12c33 f12a33 (condC f12a32 J) (f12e39 y0 y1 y2 y3 y4) σ else runK Try.prog call dem N f12c34 f12a34 (condC f12a32 J) (f12e39 y0 y1 y2 y3 y4) σ := runK_cond' (o := Operand.tmp (84 : Nat)) (by kernel_rfl) (by kernel_rfl) (by kernel_rfl) (by kernel_rfl)
theorem f12n33 {R : Type} (call : Bool → CallF R) (dem : Bool) (N : Nat) (J : KF R) (e : Env) (σ : St) : runK Try.prog call dem N f12c33 f12a33 J e σ = runK Try.prog call dem N f12c35 f12a35 (seqC (fun K e σ => runK Try.prog call dem N f12c36 f12a36 K e σ) f12a33 J) e σ := runK_seq' (by kernel_rfl) (by kernel_rfl) (by kernel_rfl)
theorem f12r35_f12e39 {R : Type} (call : Bool → CallF R) (dem : Bool) (N : Nat) (y0 : Int) (y1 : Int) (y2 : Option (Nat × Nat)) (y3 : Option (Nat × Nat)) (y4 : Bool) (J : KF R) (σ : St) :
    runK Try.prog call dem N f12c35 f12a35 J (f12e39 y0 y1 y2 y3 y4) σ =
J Ex.normal (f12e40 y0 y1 false y2 y3 y4) σ := hide (by kernel_rfl)
theorem f12z33_f12e40 (y0 : Int) (y1 : Int) (y2 : Bool) (y3 : Option (Nat × Nat)) (y4 : Option (Nat × Nat)) (y5 : Bool) : Ann.clr f12a33 (f12e40 y0 y1 y2 y3 y4 y5) = f12e9 y2 := hide (by kernel_rfl)
theorem f12y36_f12e9 {R : Type} (call : Bool → CallF R) (dem : Bool) (N : Nat) (y0 : Bool) (J : KF R) (σ : St) : runK Try.prog call dem N f12c36 f12a36 J (f12e9 y0) σ = J .ret (f12e9 y0) σ := runK_ret' (by kernel_rfl) (by kernel_rfl)
theorem f12n34 {R : Type} (call : Bool → CallF R) (dem : Bool) (N : Nat) (J : KF R) (e : Env) (σ : St) : runK Try.prog call dem N f12c34 f12a34 J e σ = J .normal e σ := runK_skip' (by kernel_rfl)
theorem f12z32_f12e39 (y0 : Int) (y1 : Int) (y2 : Option (Nat × Nat)) (y3 : Option (Nat × Nat)) (y4 : Bool) : Ann.clr f12a32 (f12e39 y0 y1 y2 y3 y4) = f12e41 y0 y1 y2 y3 := hide (by kernel_rfl)
theorem f12z29_f12e38 (y0 : Int) (y1 : Int) (y2 : Option (Nat × Nat)) (y3 : Option (Nat × Nat)) (y4 : Int) (y5 : Int) (y6 : Bool) (y7 : Bool) (y8 : Option (Nat × Nat)) (y9 : Bool) (y10 : Bool) : Ann.clr f12a29 (f12e38 y0 y1 y2 y3 y4 y5 y6 y7 y8 y9 y10) = f12e39 y0 y1 y2 y3 y10 := hide (by kernel_rfl)
theorem f12z28_f12e41 (y0 : Int) (y1 : Int) (y2 : Option (Nat × Nat)) (y3 : Option (Nat × Nat)) : Ann.clr f12a28 (f12e41 y0 y1 y2 y3) = f12e41 y0 y1 y2 y3 := hide (by kernel_rfl)
theorem f12n30 {R : Type} (call : Bool → CallF R) (dem : Bool) (N : Nat) (J : KF R) (e : Env) (σ : St) : runK Try.prog call dem N f12c30 f12a30 J e σ = runK Try.prog call dem N f12c37 f12a37 (seqC (fun K e σ => runK Try.prog call dem N f12c38 f12a38 K e σ) f12a30 J) e σ := runK_seq' (by kernel_rfl) (by kernel_rfl) (by kernel_rfl)
theorem f12r37_f12e41 {R : Type} (call : Bool → CallF R) (dem : Bool) (N : Nat) (y0 : Int) (y1 : Int) (y2 : Option (Nat × Nat)) (y3 : Option (Nat × Nat)) (J : KF R) (σ : St) :
    runK Try.prog call dem N f12c37 f12a37 J (f12e41 y0 y1 y2 y3) σ =
call dem (26 : Nat) [AV.ptr y3] σ fun v0 v1 =>
  Option.bind (AV.toTuple v0) fun v2 =>
    if List.length v2 = (2 : Nat) then
      Option.bind (List.head? v2) fun v3 =>
        Option.bind (AV.toStr v3) fun v4 =>
          Option.bind (List.head? (List.tail v2)) fun v5 =>
            Option.bind (AV.toBool v5) fun v6 => J Ex.normal (f12e42 y0 y1 y2 y3 v4 v6 v4 v6 y3 v4 v6 v4 v6) v1
    else none := hide (by kernel_rfl)
theorem f12z30_f12e42 (y0 : Int) (y1 : Int) (y2 : Option (Nat × Nat)) (y3 : Option (Nat × Nat)) (y4 : ByteArray) (y5 : Bool) (y6 : ByteArray) (y7 : Bool) (y8 : Option (Nat × Nat)) (y9 : ByteArray) (y10 : Bool) (y11 : ByteArray) (y12 : Bool) : Ann.clr f12a30 (f12e42 y0 y1 y2 y3 y4 y5 y6 y7 y8 y9 y10 y11 y12) = f12e43 y0 y1 y2 y4 y5 := hide (by kernel_rfl)
theorem f12n38 {R : Type} (call : Bool → CallF R) (dem : Bool) (N : Nat) (J : KF R) (e : Env) (σ : St) : runK Try.prog call dem N f12c38 f12a38 J e σ = runK Try.prog call dem N f12c39 f12a39 (seqC (fun K e σ => runK Try.prog call dem N f12c40 f12a40 K e σ) f12a38 J) e σ := runK_seq' (by kernel_rfl) (by kernel_rfl) (by kernel_rfl)
theorem f12r39_f12e43 {R : Type} (call : Bool → CallF R) (dem : Bool) (N : Nat) (y0 : Int) (y1 : Int) (y2 : Option (Nat × Nat)) (y3 : ByteArray) (y4 : Bool) (J : KF R) (σ : St) :
    runK Try.prog call dem N f12c39 f12a39 J (f12e43 y0 y1 y2 y3 y4) σ =
call dem (40 : Nat) [AV.ptr y2, AV.int IntKind.i64 y0] σ fun v0 v1 =>
  Option.bind (AV.toInt IntKind.i64 v0) fun v2 => J Ex.normal (f12e44 y0 y1 y2 y3 y4 y2 y0 v2) v1 := hide (by kernel_rfl)
theorem f12z38_f12e44 (y0 : Int) (y1 : Int) (y2 : Option (Nat × Nat)) (y3 : ByteArray) (y4 : Bool) (y5 : Option (Nat × Nat)) (y6 : Int) (y7 : Int) : Ann.clr f12a38 (f12e44 y0 y1 y2 y3 y4 y5 y6 y7) = f12e43 y0 y1 y2 y3 y4 := hide (by kernel_rfl)
theorem f12n40 {R : Type} (call : Bool → CallF R) (dem : Bool) (N : Nat) (J : KF R) (e : Env) (σ : St) : runK Try.prog call dem N f12c40 f12a40 J e σ = runK Try.prog call dem N f12c41 f12a41 (seqC (fun K e σ => runK Try.prog call dem N f12c42 f12a42 K e σ) f12a40 J) e σ := runK_seq' (by kernel_rfl) (by kernel_rfl) (by kernel_rfl)
theorem f12r41_f12e43 {R : Type} (call : Bool → CallF R) (dem : Bool) (N : Nat) (y0 : Int) (y1 : Int) (y2 : Option (Nat × Nat)) (y3 : ByteArray) (y4 : Bool) (J : KF R) (σ : St) :
    runK Try.prog call dem N f12c41 f12a41 J (f12e43 y0 y1 y2 y3 y4) σ =
call dem (17 : Nat) [AV.ptr y2, AV.int IntKind.i64 y0, AV.int IntKind.i64 y1] σ fun v0 v1 =>
  Option.bind (AV.toTuple v0) fun v2 =>
    if List.length v2 = (2 : Nat) then
      Option.bind (List.head? v2) fun v3 =>
        Option.bind (AV.toPtr v3) fun v4 =>
          Option.bind (List.head? (List.tail v2)) fun v5 =>
            Option.bind (AV.toInt IntKind.i64 v5) fun v6 => J Ex.normal (f12e45 y0 y1 y2 y3 y4 v4 v6 v4 v6 y2 y0 y1 v4 v6 v4 v6) v1
    else none := hide (by kernel_rfl)
theorem f12z40_f12e45 (y0 : Int) (y1 : Int) (y2 : Option (Nat × Nat)) (y3 : ByteArray) (y4 : Bool) (y5 : Option (Nat × Nat)) (y6 : Int) (y7 : Option (Nat × Nat)) (y8 : Int) (y9 : Option (Nat × Nat)) (y10 : Int) (y11 : Int) (y12 : Option (Nat × Nat)) (y13 : Int) (y14 : Option (Nat × Nat)) (y15 : Int) : Ann.clr f12a40 (f12e45 y0 y1 y2 y3 y4 y5 y6 y7 y8 y9 y10 y11 y12 y13 y14 y15) = f12e46 y0 y1 y2 y3 y4 y5 y6 := hide (by kernel_rfl)
theorem f12n42 {R : Type} (call : Bool → CallF R) (dem : Bool) (N : Nat) (J : KF R) (e : Env) (σ : St) : runK Try.prog call dem N f12c42 f12a42 J e σ = runK Try.prog call dem N f12c43 f12a43 (seqC (fun K e σ => runK Try.prog call dem N f12c44 f12a44 K e σ) f12a42 J) e σ := runK_seq' (by kernel_rfl) (by kernel_rfl) (by kernel_rfl)
theorem f12n43 {R : Type} (call : Bool → CallF R) (dem : Bool) (N : Nat) (J : KF R) (e : Env) (σ : St) : runK Try.prog call dem N f12c43 f12a43 J e σ = runK Try.prog call dem N f12c45 f12a45 (seqC (fun K e σ => runK Try.prog call dem N f12c46 f12a46 K e σ) f12a43 J) e σ := runK_seq' (by kernel_rfl) (by kernel_rfl) (by kernel_rfl)
theorem f12r45_f12e46 {R : Type} (call : Bool → CallF R) (dem : Bool) (N : Nat) (y0 : Int) (y1 : Int) (y2 : Option (Nat × Nat)) (y3 : ByteArray) (y4 : Bool) (y5 : Option (Nat × Nat)) (y6 : Int) (J : KF R) (σ : St) :
    runK Try.prog call dem N f12c45 f12a45 J (f12e46 y0 y1 y2 y3 y4 y5 y6) σ =
if (y6 != (0 : Int)) = true then J Ex.normal (f12e47 y0 y1 y2 y3 y4 y5 y6 y6 (y6 != (0 : Int)) true true true true) σ
else
  if Option.isNone y5 = true then
    J Ex.normal (f12e48 y0 y1 y2 y3 y4 y5 y6 y6 (y6 != (0 : Int)) false y5 (Option.isNone y5) (Option.isNone y5) true true) σ
  else
    call dem (31 : Nat) [AV.ptr y5, AV.int IntKind.i64 (1 : Int)] σ fun v0 v1 =>
      Option.bind (AV.toInt IntKind.i64 v0) fun v2 =>
        J Ex.normal
          (f12e49 y0 y1 y2 y3 y4 y5 y6 y6 (y6 != (0 : Int)) false y5 (Option.isNone y5) (Option.isNone y5) false y5 v2 (v2 != (1 : Int))
            (v2 != (1 : Int)))
          v1 := hide (by kernel_rfl)
theorem f12z43_f12e47 (y0 : Int) (y1 : Int) (y2 : Option (Nat × Nat)) (y3 : ByteArray) (y4 : Bool) (y5 : Option (Nat × Nat)) (y6 : Int) (y7 : Int) (y8 : Bool) (y9 : Bool) (y10 : Bool) (y11 : Bool) (y12 : Bool) : Ann.clr f12a43 (f12e47 y0 y1 y2 y3 y4 y5 y6 y7 y8 y9 y10 y11 y12) = f12e50 y0 y1 y2 y3 y4 y12 := hide (by kernel_rfl)
theorem f12x46_f12e50 {R : Type} (call : Bool → CallF R) (dem : Bool) (N : Nat) (y0 : Int) (y1 : Int) (y2 : Option (Nat × Nat)) (y3 : ByteArray) (y4 : Bool) (y5 : Bool) (J : KF R) (σ : St) : runK Try.prog call dem N f12c46 f12a46 J (f12e50 y0 y1 y2 y3 y4 y5) σ = if y5 = true then runK Try.prog call dem N f12c47 f12a47 (condC f12a46 J) (f12e50 y0 y1 y2 y3 y4 y5) σ else runK Try.prog call dem N f12c48 f12a48 (condC f12a46 J) (f12e50 y0 y1 y2 y3 y4 y5) σ := runK_cond' (o := Operand.tmp (110 : Nat)) (by kernel_rfl) (by kernel_rfl) (by kernel_rfl) (by kernel_rfl)
theorem f12n47 {R : Type} (call : Bool → CallF R) (dem : Bool) (N : Nat) (J : KF R) (e : Env) (σ : St) : runK Try.prog call dem N f12c47 f12a47 J e σ = runK Try.prog call dem N f12c49 f12a49 (seqC (fun K e σ => runK Try.prog call dem N f12c50 f12a50 K e σ) f12a47 J) e σ := runK_seq' (by kernel_rfl) (by kernel_rfl) (by kernel_rfl)
theorem f12r49_f12e50 {R : Type} (call : Bool → CallF R) (dem : Bool) (N : Nat) (y0 : Int) (y1 : Int) (y2 : Option (Nat × Nat)) (y3 : ByteArray) (y4 : Bool) (y5 : Bool) (J : KF R) (σ : St) :
    runK Try.prog call dem N f12c49 f12a49 J (f12e50 y0 y1 y2 y3 y4 y5) σ =
J Ex.normal (f12e51 y0 y1 false y2 y3 y4 y5) σ := hide (by kernel_rfl)
theorem f12z47_f12e51 (y0 : Int) (y1 : Int) (y2 : Bool) (y3 : Option (Nat × Nat)) (y4 : ByteArray) (y5 : Bool) (y6 : Bool) : Ann.clr f12a47 (f12e51 y0 y1 y2 y3 y4 y5 y6) = f12e9 y2 := hide (by kernel_rfl)
theorem f12y50_f12e9 {R : Type} (call : Bool → CallF R) (dem : Bool) (N : Nat) (y0 : Bool) (J : KF R) (σ : St) : runK Try.prog call dem N f12c50 f12a50 J (f12e9 y0) σ = J .ret (f12e9 y0) σ := runK_ret' (by kernel_rfl) (by kernel_rfl)
theorem f12n48 {R : Type} (call : Bool → CallF R) (dem : Bool) (N : Nat) (J : KF R) (e : Env) (σ : St) : runK Try.prog call dem N f12c48 f12a48 J e σ = J .normal e σ := runK_skip' (by kernel_rfl)
theorem f12z46_f12e50 (y0 : Int) (y1 : Int) (y2 : Option (Nat × Nat)) (y3 : ByteArray) (y4 : Bool) (y5 : Bool) : Ann.clr f12a46 (f12e50 y0 y1 y2 y3 y4 y5) = f12e43 y0 y1 y2 y3 y4 := hide (by kernel_rfl)
theorem f12z43_f12e48 (y0 : Int) (y1 : Int) (y2 : Option (Nat × Nat)) (y3 : ByteArray) (y4 : Bool) (y5 : Option (Nat × Nat)) (y6 : Int) (y7 : Int) (y8 : Bool) (y9 : Bool) (y10 : Option (Nat × Nat)) (y11 : Bool) (y12 : Bool) (y13 : Bool) (y14 : Bool) : Ann.clr f12a43 (f12e48 y0 y1 y2 y3 y4 y5 y6 y7 y8 y9 y10 y11 y12 y13 y14) = f12e50 y0 y1 y2 y3 y4 y14 := hide (by kernel_rfl)
theorem f12z43_f12e49 (y0 : Int) (y1 : Int) (y2 : Option (Nat × Nat)) (y3 : ByteArray) (y4 : Bool) (y5 : Option (Nat × Nat)) (y6 : Int) (y7 : Int) (y8 : Bool) (y9 : Bool) (y10 : Option (Nat × Nat)) (y11 : Bool) (y12 : Bool) (y13 : Bool) (y14 : Option (Nat × Nat)) (y15 : Int) (y16 : Bool) (y17 : Bool) : Ann.clr f12a43 (f12e49 y0 y1 y2 y3 y4 y5 y6 y7 y8 y9 y10 y11 y12 y13 y14 y15 y16 y17) = f12e50 y0 y1 y2 y3 y4 y17 := hide (by kernel_rfl)
theorem f12z42_f12e43 (y0 : Int) (y1 : Int) (y2 : Option (Nat × Nat)) (y3 : ByteArray) (y4 : Bool) : Ann.clr f12a42 (f12e43 y0 y1 y2 y3 y4) = f12e43 y0 y1 y2 y3 y4 := hide (by kernel_rfl)
theorem f12n44 {R : Type} (call : Bool → CallF R) (dem : Bool) (N : Nat) (J : KF R) (e : Env) (σ : St) : runK Try.prog call dem N f12c44 f12a44 J e σ = runK Try.prog call dem N f12c51 f12a51 (seqC (fun K e σ => runK Try.prog call dem N f12c52 f12a52 K e σ) f12a44 J) e σ := runK_seq' (by kernel_rfl) (by kernel_rfl) (by kernel_rfl)
theorem f12r51_f12e43 {R : Type} (call : Bool → CallF R) (dem : Bool) (N : Nat) (y0 : Int) (y1 : Int) (y2 : Option (Nat × Nat)) (y3 : ByteArray) (y4 : Bool) (J : KF R) (σ : St) :
    runK Try.prog call dem N f12c51 f12a51 J (f12e43 y0 y1 y2 y3 y4) σ =
J Ex.normal (f12e52 y0 y1 y2 y3 y4 (0 : Int)) σ := hide (by kernel_rfl)
theorem f12z44_f12e52 (y0 : Int) (y1 : Int) (y2 : Option (Nat × Nat)) (y3 : ByteArray) (y4 : Bool) (y5 : Int) : Ann.clr f12a44 (f12e52 y0 y1 y2 y3 y4 y5) = f12e52 y0 y1 y2 y3 y4 y5 := hide (by kernel_rfl)
theorem f12n52 {R : Type} (call : Bool → CallF R) (dem : Bool) (N : Nat) (J : KF R) (e : Env) (σ : St) : runK Try.prog call dem N f12c52 f12a52 J e σ = runK Try.prog call dem N f12c53 f12a53 (seqC (fun K e σ => runK Try.prog call dem N f12c54 f12a54 K e σ) f12a52 J) e σ := runK_seq' (by kernel_rfl) (by kernel_rfl) (by kernel_rfl)
theorem f12n53 {R : Type} (call : Bool → CallF R) (dem : Bool) (N : Nat) (J : KF R) (e : Env) (σ : St) : runK Try.prog call dem N f12c53 f12a53 J e σ = runK Try.prog call dem N f12c55 f12a55 (seqC (fun K e σ => runK Try.prog call dem N f12c56 f12a56 K e σ) f12a53 J) e σ := runK_seq' (by kernel_rfl) (by kernel_rfl) (by kernel_rfl)
theorem f12r55_f12e52 {R : Type} (call : Bool → CallF R) (dem : Bool) (N : Nat) (y0 : Int) (y1 : Int) (y2 : Option (Nat × Nat)) (y3 : ByteArray) (y4 : Bool) (y5 : Int) (J : KF R) (σ : St) :
    runK Try.prog call dem N f12c55 f12a55 J (f12e52 y0 y1 y2 y3 y4 y5) σ =
J Ex.normal (f12e53 y0 y1 y2 y3 y4 y5 y0 (decide (y0 < (1099511627776 : Int)))) σ := hide (by kernel_rfl)
theorem f12z53_f12e53 (y0 : Int) (y1 : Int) (y2 : Option (Nat × Nat)) (y3 : ByteArray) (y4 : Bool) (y5 : Int) (y6 : Int) (y7 : Bool) : Ann.clr f12a53 (f12e53 y0 y1 y2 y3 y4 y5 y6 y7) = f12e54 y0 y1 y2 y3 y4 y5 y7 := hide (by kernel_rfl)
theorem f12x56_f12e54 {R : Type} (call : Bool → CallF R) (dem : Bool) (N : Nat) (y0 : Int) (y1 : Int) (y2 : Option (Nat × Nat)) (y3 : ByteArray) (y4 : Bool) (y5 : Int) (y6 : Bool) (J : KF R) (σ : St) : runK Try.prog call dem N f12c56 f12a56 J (f12e54 y0 y1 y2 y3 y4 y5 y6) σ = if y6 = true then runK Try.prog call dem N f12c57 f12a57 (condC f12a56 J) (f12e54 y0 y1 y2 y3 y4 y5 y6) σ else runK Try.prog call dem N f12c58 f12a58 (condC f12a56 J) (f12e54 y0 y1 y2 y3 y4 y5 y6) σ := runK_cond' (o := Operand.tmp (112 : Nat)) (by kernel_rfl) (by kernel_rfl) (by kernel_rfl) (by kernel_rfl)
theorem f12r57_f12e54 {R : Type} (call : Bool → CallF R) (dem : Bool) (N : Nat) (y0 : Int) (y1 : Int) (y2 : Option (Nat × Nat)) (y3 : ByteArray) (y4 : Bool) (y5 : Int) (y6 : Bool) (J : KF R) (σ : St) :
    runK Try.prog call dem N f12c57 f12a57 J (f12e54 y0 y1 y2 y3 y4 y5 y6) σ =
call dem (40 : Nat) [AV.ptr y2, AV.int IntKind.i64 (IntKind.wrap IntKind.i64 (y0 + (1 : Int)))] σ fun v0 v1 =>
  Option.bind (AV.toInt IntKind.i64 v0) fun v2 => J Ex.normal (f12e55 y0 y1 y2 y3 y4 v2 y6 y2 y0 (IntKind.wrap IntKind.i64 (y0 + (1 : Int))) v2) v1 := hide (by kernel_rfl)
theorem f12z56_f12e55 (y0 : Int) (y1 : Int) (y2 : Option (Nat × Nat)) (y3 : ByteArray) (y4 : Bool) (y5 : Int) (y6 : Bool) (y7 : Option (Nat × Nat)) (y8 : Int) (y9 : Int) (y10 : Int) : Ann.clr f12a56 (f12e55 y0 y1 y2 y3 y4 y5 y6 y7 y8 y9 y10) = f12e52 y0 y1 y2 y3 y4 y5 := hide (by kernel_rfl)
theorem f12n58 {R : Type} (call : Bool → CallF R) (dem : Bool) (N : Nat) (J : KF R) (e : Env) (σ : St) : runK Try.prog call dem N f12c58 f12a58 J e σ = J .normal e σ := runK_skip' (by kernel_rfl)
theorem f12z56_f12e54 (y0 : Int) (y1 : Int) (y2 : Option (Nat × Nat)) (y3 : ByteArray) (y4 : Bool) (y5 : Int) (y6 : Bool) : Ann.clr f12a56 (f12e54 y0 y1 y2 y3 y4 y5 y6) = f12e52 y0 y1 y2 y3 y4 y5 := hide (by kernel_rfl)
theorem f12z52_f12e52 (y0 : Int) (y1 : Int) (y2 : Option (Nat × Nat)) (y3 : ByteArray) (y4 : Bool) (y5 : Int) : Ann.clr f12a52 (f12e52 y0 y1 y2 y3 y4 y5) = f12e52 y0 y1 y2 y3 y4 y5 := hide (by kernel_rfl)
theorem f12n54 {R : Type} (call : Bool → CallF R) (dem : Bool) (N : Nat) (J : KF R) (e : Env) (σ : St) : runK Try.prog call dem N f12c54 f12a54 J e σ = runK Try.prog call dem N f12c59 f12a59 (seqC (fun K e σ => runK Try.prog call dem N f12c60 f12a60 K e σ) f12a54 J) e σ := runK_seq' (by kernel_rfl) (by kernel_rfl) (by kernel_rfl)
theorem f12r59_f12e52 {R : Type} (call : Bool → CallF R) (dem : Bool) (N : Nat) (y0 : Int) (y1 : Int) (y2 : Option (Nat × Nat)) (y3 : ByteArray) (y4 : Bool) (y5 : Int) (J : KF R) (σ : St) :
    runK Try.prog call dem N f12c59 f12a59 J (f12e52 y0 y1 y2 y3 y4 y5) σ =
call dem (17 : Nat) [AV.ptr y2, AV.int IntKind.i64 y0, AV.int IntKind.i64 y1] σ fun v0 v1 =>
  Option.bind (AV.toTuple v0) fun v2 =>
    if List.length v2 = (2 : Nat) then
      Option.bind (List.head? v2) fun v3 =>
        Option.bind (AV.toPtr v3) fun v4 =>
          Option.bind (List.head? (List.tail v2)) fun v5 =>
            Option.bind (AV.toInt IntKind.i64 v5) fun v6 => J Ex.normal (f12e56 y0 y1 y2 y3 y4 y5 v4 v6 v4 v6 y2 y0 y1 v4 v6 v4 v6) v1
    else none := hide (by kernel_rfl)
theorem f12z54_f12e56 (y0 : Int) (y1 : Int) (y2 : Option (Nat × Nat)) (y3 : ByteArray) (y4 : Bool) (y5 : Int) (y6 : Option (Nat × Nat)) (y7 : Int) (y8 : Option (Nat × Nat)) (y9 : Int) (y10 : Option (Nat × Nat)) (y11 : Int) (y12 : Int) (y13 : Option (Nat × Nat)) (y14 : Int) (y15 : Option (Nat × Nat)) (y16 : Int) : Ann.clr f12a54 (f12e56 y0 y1 y2 y3 y4 y5 y6 y7 y8 y9 y10 y11 y12 y13 y14 y15 y16) = f12e57 y0 y3 y4 y5 y6 y7 := hide (by kernel_rfl)
theorem f12n60 {R : Type} (call : Bool → CallF R) (dem : Bool) (N : Nat) (J : KF R) (e : Env) (σ : St) : runK Try.prog call dem N f12c60 f12a60 J e σ = runK Try.prog call dem N f12c61 f12a61 (seqC (fun K e σ => runK Try.prog call dem N f12c62 f12a62 K e σ) f12a60 J) e σ := runK_seq' (by kernel_rfl) (by kernel_rfl) (by kernel_rfl)
theorem f12n61 {R : Type} (call : Bool → CallF R) (dem : Bool) (N : Nat) (J : KF R) (e : Env) (σ : St) : runK Try.prog call dem N f12c61 f12a61 J e σ = runK Try.prog call dem N f12c63 f12a63 (seqC (fun K e σ => runK Try.prog call dem N f12c64 f12a64 K e σ) f12a61 J) e σ := runK_seq' (by kernel_rfl) (by kernel_rfl) (by kernel_rfl)
theorem f12r63_f12e57_p {R : Type} (call : Bool → CallF R) (dem : Bool) (N : Nat) (y0 : Int) (y1 : ByteArray) (y2 : Bool) (y3 : Int) (y4 : Option (Nat × Nat)) (y5 : Int) (Q : Env → St → Option R) (σ : St) :
    opsK Try.prog dem (call dem) (opsOf f12c63) (((opsOf f12c63).toList.drop 0).take 8) Q (f12e57 y0 y1 y2 y3 y4 y5) σ =
if (y5 != (0 : Int)) = true then Q (f12e58 y0 y1 y2 y3 y4 y5 y5 (y5 != (0 : Int)) true true true) σ
else
  if Option.isNone y4 = true then Q (f12e59 y0 y1 y2 y3 y4 y5 y5 (y5 != (0 : Int)) false y4 (Option.isNone y4) (Option.isNone y4) true) σ
  else Q (f12e60 y0 y1 y2 y3 y4 y5 y5 (y5 != (0 : Int)) false y4 (Option.isNone y4) (Option.isNone y4) false y3) σ := hide (by kernel_rfl)
theorem f12r63_f12e57 {R : Type} (call : Bool → CallF R) (dem : Bool) (N : Nat) (y0 : Int) (y1 : ByteArray) (y2 : Bool) (y3 : Int) (y4 : Option (Nat × Nat)) (y5 : Int) (J : KF R) (σ : St) :
    runK Try.prog call dem N f12c63 f12a63 J (f12e57 y0 y1 y2 y3 y4 y5) σ =
if (y5 != (0 : Int)) = true then f12q63_1 call dem N J (f12e58 y0 y1 y2 y3 y4 y5 y5 (y5 != (0 : Int)) true true true) σ
else
  if Option.isNone y4 = true then f12q63_1 call dem N J (f12e59 y0 y1 y2 y3 y4 y5 y5 (y5 != (0 : Int)) false y4 (Option.isNone y4) (Option.isNone y4) true) σ
  else f12q63_1 call dem N J (f12e60 y0 y1 y2 y3 y4 y5 y5 (y5 != (0 : Int)) false y4 (Option.isNone y4) (Option.isNone y4) false y3) σ := hide ((runK_cut 8 (by kernel_rfl)).trans (f12r63_f12e57_p call dem N y0 y1 y2 y3 y4 y5 (f12q63_1 call dem N J) σ))
theorem f12q63_1_f12e58_p {R : Type} (call : Bool → CallF R) (dem : Bool) (N : Nat) (y0 : Int) (y1 : ByteArray) (y2 : Bool) (y3 : Int) (y4 : Option (Nat × Nat)) (y5 : Int) (y6 : Int) (y7 : Bool) (y8 : Bool) (y9 : Bool) (y10 : Bool) (Q : Env → St → Option R) (σ : St) :
    opsK Try.prog dem (call dem) (opsOf f12c63) (((opsOf f12c63).toList.drop 8).take 8) Q (f12e58 y0 y1 y2 y3 y4 y5 y6 y7 y8 y9 y10) σ =
if y10 = true then Q (f12e61 y0 y1 y2 y3 y4 y5 y6 y7 y8 y9 true true true) σ else none := hide (by kernel_rfl)
theorem f12q63_1_f12e58 {R : Type} (call : Bool → CallF R) (dem : Bool) (N : Nat) (y0 : Int) (y1 : ByteArray) (y2 : Bool) (y3 : Int) (y4 : Option (Nat × Nat)) (y5 : Int) (y6 : Int) (y7 : Bool) (y8 : Bool) (y9 : Bool) (y10 : Bool) (J : KF R) (σ : St) :
    f12q63_1 call dem N J (f12e58 y0 y1 y2 y3 y4 y5 y6 y7 y8 y9 y10) σ =
if y10 = true then f12q63_2 call dem N J (f12e61 y0 y1 y2 y3 y4 y5 y6 y7 y8 y9 true true true) σ else none := hide ((opsK_cut 8 8).trans (f12q63_1_f12e58_p call dem N y0 y1 y2 y3 y4 y5 y6 y7 y8 y9 y10 (f12q63_2 call dem N J) σ))
theorem f12q63_1_f12e59_p {R : Type} (call : Bool → CallF R) (dem : Bool) (N : Nat) (y0 : Int) (y1 : ByteArray) (y2 : Bool) (y3 : Int) (y4 : Option (Nat × Nat)) (y5 : Int) (y6 : Int) (y7 : Bool) (y8 : Bool) (y9 : Option (Nat × Nat)) (y10 : Bool) (y11 : Bool) (y12 : Bool) (Q : Env → St → Option R) (σ : St) :
    opsK Try.prog dem (call dem) (opsOf f12c63) (((opsOf f12c63).toList.drop 8).take 8) Q (f12e59 y0 y1 y2 y3 y4 y5 y6 y7 y8 y9 y10 y11 y12) σ =
if y12 = true then Q (f12e62 y0 y1 y2 y3 y4 y5 y6 y7 y8 y9 y10 y11 true true true) σ else none := hide (by kernel_rfl)
theorem f12q63_1_f12e59 {R : Type} (call : Bool → CallF R) (dem : Bool) (N : Nat) (y0 : Int) (y1 : ByteArray) (y2 : Bool) (y3 : Int) (y4 : Option (Nat × Nat)) (y5 : Int) (y6 : Int) (y7 : Bool) (y8 : Bool) (y9 : Option (Nat × Nat)) (y10 : Bool) (y11 : Bool) (y12 : Bool) (J : KF R) (σ : St) :
    f12q63_1 call dem N J (f12e59 y0 y1 y2 y3 y4 y5 y6 y7 y8 y9 y10 y11 y12) σ =
if y12 = true then f12q63_2 call dem N J (f12e62 y0 y1 y2 y3 y4 y5 y6 y7 y8 y9 y10 y11 true true true) σ else none := hide ((opsK_cut 8 8).trans (f12q63_1_f12e59_p call dem N y0 y1 y2 y3 y4 y5 y6 y7 y8 y9 y10 y11 y12 (f12q63_2 call dem N J) σ))
theorem f12q63_1_f12e60_p {R : Type} (call : Bool → CallF R) (dem : Bool) (N : Nat) (y0 : Int) (y1 : ByteArray) (y2 : Bool) (y3 : Int) (y4 : Option (Nat × Nat)) (y5 : Int) (y6 : Int) (y7 : Bool) (y8 : Bool) (y9 : Option (Nat × Nat)) (y10 : Bool) (y11 : Bool) (y12 : Bool) (y13 : Int) (Q : Env → St → Option R) (σ : St) :
    opsK Try.prog dem (call dem) (opsOf f12c63) (((opsOf f12c63).toList.drop 8).take 8) Q (f12e60 y0 y1 y2 y3 y4 y5 y6 y7 y8 y9 y10 y11 y12 y13) σ =
if y12 = true then Q (f12e63 y0 y1 y2 y3 y4 y5 y6 y7 y8 y9 y10 y11 true y13 true true) σ
else
  if (y13 != (1 : Int)) = true then
    if decide (y0 < (1099511627776 : Int)) = true then
      Q
        (f12e64 y0 y1 y2 y3 y4 y5 y6 y7 y8 y9 y10 y11 false y13 (y13 != (1 : Int)) true y0 (decide (y0 < (1099511627776 : Int)))
          (decide (y0 < (1099511627776 : Int))) (decide (y0 < (1099511627776 : Int))) true)
        σ
    else
      Q
        (f12e65 y0 y1 y2 y3 y4 y5 y6 y7 y8 y9 y10 y11 false y13 (y13 != (1 : Int)) true y0 (decide (y0 < (1099511627776 : Int)))
          (decide (y0 < (1099511627776 : Int))) (decide (y0 < (1099511627776 : Int))) false y3)
        σ
  else Q (f12e66 y0 y1 y2 y3 y4 y5 y6 y7 y8 y9 y10 y11 false y13 (y13 != (1 : Int)) false false false false y3) σ := hide (by kernel_rfl)
theorem f12q63_1_f12e60 {R : Type} (call : Bool → CallF R) (dem : Bool) (N : Nat) (y0 : Int) (y1 : ByteArray) (y2 : Bool) (y3 : Int) (y4 : Option (Nat × Nat)) (y5 : Int) (y6 : Int) (y7 : Bool) (y8 : Bool) (y9 : Option (Nat × Nat)) (y10 : Bool) (y11 : Bool) (y12 : Bool) (y13 : Int) (J : KF R) (σ : St) :
    f12q63_1 call dem N J (f12e60 y0 y1 y2 y3 y4 y5 y6 y7 y8 y9 y10 y11 y12 y13) σ =
if y12 = true then f12q63_2 call dem N J (f12e63 y0 y1 y2 y3 y4 y5 y6 y7 y8 y9 y10 y11 true y13 true true) σ
else
  if (y13 != (1 : Int)) = true then
    if decide (y0 < (1099511627776 : Int)) = true then
      f12q63_2 call dem N J
        (f12e64 y0 y1 y2 y3 y4 y5 y6 y7 y8 y9 y10 y11 false y13 (y13 != (1 : Int)) true y0 (decide (y0 < (1099511627776 : Int)))
          (decide (y0 < (1099511627776 : Int))) (decide (y0 < (1099511627776 : Int))) true)
        σ
    else
      f12q63_2 call dem N J
        (f12e65 y0 y1 y2 y3 y4 y5 y6 y7 y8 y9 y10 y11 false y13 (y13 != (1 : Int)) true y0 (decide (y0 < (1099511627776 : Int)))
          (decide (y0 < (1099511627776 : Int))) (decide (y0 < (1099511627776 : Int))) false y3)
        σ
  else f12q63_2 call dem N J (f12e66 y0 y1 y2 y3 y4 y5 y6 y7 y8 y9 y10 y11 false y13 (y13 != (1 : Int)) false false false false y3) σ := hide ((opsK_cut 8 8).trans (f12q63_1_f12e60_p call dem N y0 y1 y2 y3 y4 y5 y6 y7 y8 y9 y10 y11 y12 y13 (f12q63_2 call dem N J) σ))
theorem f12q63_2_f12e61_p {R : Type} (call : Bool → CallF R) (dem : Bool) (N : Nat) (y0 : Int) (y1 : ByteArray) (y2 : Bool) (y3 : Int) (y4 : Option (Nat × Nat)) (y5 : Int) (y6 : Int) (y7 : Bool) (y8 : Bool) (y9 : Bool) (y10 : Bool) (y11 : Bool) (y12 : Bool) (Q : Env → St → Option R) (σ : St) :
    opsK Try.prog dem (call dem) (opsOf f12c63) ((opsOf f12c63).toList.drop 16) Q (f12e61 y0 y1 y2 y3 y4 y5 y6 y7 y8 y9 y10 y11 y12) σ =
if y12 = true then Q (f12e67 y0 y1 y2 y3 y4 y5 y6 y7 y8 y9 y10 y11 true true) σ else none := hide (by kernel_rfl)
theorem f12q63_2_f12e61 {R : Type} (call : Bool → CallF R) (dem : Bool) (N : Nat) (y0 : Int) (y1 : ByteArray) (y2 : Bool) (y3 : Int) (y4 : Option (Nat × Nat)) (y5 : Int) (y6 : Int) (y7 : Bool) (y8 : Bool) (y9 : Bool) (y10 : Bool) (y11 : Bool) (y12 : Bool) (J : KF R) (σ : St) :
    f12q63_2 call dem N J (f12e61 y0 y1 y2 y3 y4 y5 y6 y7 y8 y9 y10 y11 y12) σ =
if y12 = true then J Ex.normal (f12e67 y0 y1 y2 y3 y4 y5 y6 y7 y8 y9 y10 y11 true true) σ else none := hide (f12q63_2_f12e61_p call dem N y0 y1 y2 y3 y4 y5 y6 y7 y8 y9 y10 y11 y12 (fun e σ => J .normal e σ) σ)
theorem f12q63_2_f12e62_p {R : Type} (call : Bool → CallF R) (dem : Bool) (N : Nat) (y0 : Int) (y1 : ByteArray) (y2 : Bool) (y3 : Int) (y4 : Option (Nat × Nat)) (y5 : Int) (y6 : Int) (y7 : Bool) (y8 : Bool) (y9 : Option (Nat × Nat)) (y10 : Bool) (y11 : Bool) (y12 : Bool) (y13 : Bool) (y14 : Bool) (Q : Env → St → Option R) (σ : St) :
    opsK Try.prog dem (call dem) (opsOf f12c63) ((opsOf f12c63).toList.drop 16) Q (f12e62 y0 y1 y2 y3 y4 y5 y6 y7 y8 y9 y10 y11 y12 y13 y14) σ =
if y14 = true then Q (f12e68 y0 y1 y2 y3 y4 y5 y6 y7 y8 y9 y10 y11 y12 y13 true true) σ else none := hide (by kernel_rfl)
theorem f12q63_2_f12e62 {R : Type} (call : Bool → CallF R) (dem : Bool) (N : Nat) (y0 : Int) (y1 : ByteArray) (y2 : Bool) (y3 : Int) (y4 : Option (Nat × Nat)) (y5 : Int) (y6 : Int) (y7 : Bool) (y8 : Bool) (y9 : Option (Nat × Nat)) (y10 : Bool) (y11 : Bool) (y12 : Bool) (y13 : Bool) (y14 : Bool) (J : KF R) (σ : St) :
    f12q63_2 call dem N J (f12e62 y0 y1 y2 y3 y4 y5 y6 y7 y8 y9 y10 y11 y12 y13 y14) σ =
if y14 = true then J Ex.normal (f12e68 y0 y1 y2 y3 y4 y5 y6 y7 y8 y9 y10 y11 y12 y13 true true) σ else none := hide (f12q63_2_f12e62_p call dem N y0 y1 y2 y3 y4 y5 y6 y7 y8 y9 y10 y11 y12 y13 y14 (fun e σ => J .normal e σ) σ)
theorem f12q63_2_f12e63_p {R : Type} (call : Bool → CallF R) (dem : Bool) (N : Nat) (y0 : Int) (y1 : ByteArray) (y2 : Bool) (y3 : Int) (y4 : Option (Nat × Nat)) (y5 : Int) (y6 : Int) (y7 : Bool) (y8 : Bool) (y9 : Option (Nat × Nat)) (y10 : Bool) (y11 : Bool) (y12 : Bool) (y13 : Int) (y14 : Bool) (y15 : Bool) (Q : Env → St → Option R) (σ : St) :
    opsK Try.prog dem (call dem) (opsOf f12c63) ((opsOf f12c63).toList.drop 16) Q (f12e63 y0 y1 y2 y3 y4 y5 y6 y7 y8 y9 y10 y11 y12 y13 y14 y15) σ =
if y15 = true then Q (f12e69 y0 y1 y2 y3 y4 y5 y6 y7 y8 y9 y10 y11 y12 y13 y14 true true) σ else none := hide (by kernel_rfl)
theorem f12q63_2_f12e63 {R : Type} (call : Bool → CallF R) (dem : Bool) (N : Nat) (y0 : Int) (y1 : ByteArray) (y2 : Bool) (y3 : Int) (y4 : Option (Nat × Nat)) (y5 : Int) (y6 : Int) (y7 : Bool) (y8 : Bool) (y9 : Option (Nat × Nat)) (y10 : Bool) (y11 : Bool) (y12 : Bool) (y13 : Int) (y14 : Bool) (y15 : Bool) (J : KF R) (σ : St) :
    f12q63_2 call dem N J (f12e63 y0 y1 y2 y3 y4 y5 y6 y7 y8 y9 y10 y11 y12 y13 y14 y15) σ =
if y15 = true then J Ex.normal (f12e69 y0 y1 y2 y3 y4 y5 y6 y7 y8 y9 y10 y11 y12 y13 y14 true true) σ else none := hide (f12q63_2_f12e63_p call dem N y0 y1 y2 y3 y4 y5 y6 y7 y8 y9 y10 y11 y12 y13 y14 y15 (fun e σ => J .normal e σ) σ)
theorem f12q63_2_f12e64_p {R : Type} (call : Bool → CallF R) (dem : Bool) (N : Nat) (y0 : Int) (y1 : ByteArray) (y2 : Bool) (y3 : Int) (y4 : Option (Nat × Nat)) (y5 : Int) (y6 : Int) (y7 : Bool) (y8 : Bool) (y9 : Option (Nat × Nat)) (y10 : Bool) (y11 : Bool) (y12 : Bool) (y13 : Int) (y14 : Bool) (y15 : Bool) (y16 : Int) (y17 : Bool) (y18 : Bool) (y19 : Bool) (y20 : Bool) (Q : Env → St → Option R) (σ : St) :
    opsK Try.prog dem (call dem) (opsOf f12c63) ((opsOf f12c63).toList.drop 16) Q (f12e64 y0 y1 y2 y3 y4 y5 y6 y7 y8 y9 y10 y11 y12 y13 y14 y15 y16 y17 y18 y19 y20) σ =
if y20 = true then Q (f12e70 y0 y1 y2 y3 y4 y5 y6 y7 y8 y9 y10 y11 y12 y13 y14 y15 y16 y17 y18 y19 true true) σ else none := hide (by kernel_rfl)
theorem f12q63_2_f12e64 {R : Type} (call : Bool → CallF R) (dem : Bool) (N : Nat) (y0 : Int) (y1 : ByteArray) (y2 : Bool) (y3 : Int) (y4 : Option (Nat × Nat)) (y5 : Int) (y6 : Int) (y7 : Bool) (y8 : Bool) (y9 : Option (Nat × Nat)) (y10 : Bool) (y11 : Bool) (y12 : Bool) (y13 : Int) (y14 : Bool) (y15 : Bool) (y16 : Int) (y17 : Bool) (y18 : Bool) (y19 : Bool) (y20 : Bool) (J : KF R) (σ : St) :
    f12q63_2 call dem N J (f12e64 y0 y1 y2 y3 y4 y5 y6 y7 y8 y9 y10 y11 y12 y13 y14 y15 y16 y17 y18 y19 y20) σ =
if y20 = true then J Ex.normal (f12e70 y0 y1 y2 y3 y4 y5 y6 y7 y8 y9 y10 y11 y12 y13 y14 y15 y16 y17 y18 y19 true true) σ else none := hide (f12q63_2_f12e64_p call dem N y0 y1 y2 y3 y4 y5 y6 y7 y8 y9 y10 y11 y12 y13 y14 y15 y16 y17 y18 y19 y20 (fun e σ => J .normal e σ) σ)
theorem f12q63_2_f12e65_p {R : Type} (call : Bool → CallF R) (dem : Bool) (N : Nat) (y0 : Int) (y1 : ByteArray) (y2 : Bool) (y3 : Int) (y4 : Option (Nat × Nat)) (y5 : Int) (y6 : Int) (y7 : Bool) (y8 : Bool) (y9 : Option (Nat × Nat)) (y10 : Bool) (y11 : Bool) (y12 : Bool) (y13 : Int) (y14 : Bool) (y15 : Bool) (y16 : Int) (y17 : Bool) (y18 : Bool) (y19 : Bool) (y20 : Bool) (y21 : Int) (Q : Env → St → Option R) (σ : St) :
    opsK Try.prog dem (call dem) (opsOf f12c63) ((opsOf f12c63).toList.drop 16) Q (f12e65 y0 y1 y2 y3 y4 y5 y6 y7 y8 y9 y10 y11 y12 y13 y14 y15 y16 y17 y18 y19 y20 y21) σ =
if y20 = true then Q (f12e71 y0 y1 y2 y3 y4 y5 y6 y7 y8 y9 y10 y11 y12 y13 y14 y15 y16 y17 y18 y19 true y21 true) σ
else
  if (y21 == (1 : Int)) = true then
    call dem (31 : Nat) [AV.ptr y4, AV.int IntKind.i64 (1 : Int)] σ fun v0 v1 =>
      Option.bind (AV.toInt IntKind.i64 v0) fun v2 =>
        Q
          (f12e72 y0 y1 y2 y3 y4 y5 y6 y7 y8 y9 y10 y11 y12 y13 y14 y15 y16 y17 y18 y19 false y21 (y21 == (1 : Int)) true y4 v2 (v2 != (0 : Int))
            (v2 != (0 : Int)) (v2 != (0 : Int)))
          v1
  else Q (f12e73 y0 y1 y2 y3 y4 y5 y6 y7 y8 y9 y10 y11 y12 y13 y14 y15 y16 y17 y18 y19 false y21 (y21 == (1 : Int)) false false false) σ := hide (by kernel_rfl)
theorem f12q63_2_f12e65 {R : Type} (call : Bool → CallF R) (dem : Bool) (N : Nat) (y0 : Int) (y1 : ByteArray) (y2 : Bool) (y3 : Int) (y4 : Option (Nat × Nat)) (y5 : Int) (y6 : Int) (y7 : Bool) (y8 : Bool) (y9 : Option (Nat × Nat)) (y10 : Bool) (y11 : Bool) (y12 : Bool) (y13 : Int) (y14 : Bool) (y15 : Bool) (y16 : Int) (y17 : Bool) (y18 : Bool) (y19 : Bool) (y20 : Bool) (y21 : Int) (J : KF R) (σ : St) :
    f12q63_2 call dem N J (f12e65 y0 y1 y2 y3 y4 y5 y6 y7 y8 y9 y10 y11 y12 y13 y14 y15 y16 y17 y18 y19 y20 y21) σ =
if y20 = true then J Ex.normal (f12e71 y0 y1 y2 y3 y4 y5 y6 y7 y8 y9 y10 y11 y12 y13 y14 y15 y16 y17 y18 y19 true y21 true) σ
else
  if (y21 == (1 : Int)) = true then
    call dem (31 : Nat) [AV.ptr y4, AV.int IntKind.i64 (1 : Int)] σ fun v0 v1 =>
      Option.bind (AV.toInt IntKind.i64 v0) fun v2 =>
        J Ex.normal
          (f12e72 y0 y1 y2 y3 y4 y5 y6 y7 y8 y9 y10 y11 y12 y13 y14 y15 y16 y17 y18 y19 false y21 (y21 == (1 : Int)) true y4 v2 (v2 != (0 : Int))
            (v2 != (0 : Int)) (v2 != (0 : Int)))
          v1
  else J Ex.normal (f12e73 y0 y1 y2 y3 y4 y5 y6 y7 y8 y9 y10 y11 y12 y13 y14 y15 y16 y17 y18 y19 false y21 (y21 == (1 : Int)) false false false) σ := hide (f12q63_2_f12e65_p call dem N y0 y1 y2 y3 y4 y5 y6 y7 y8 y9 y10 y11 y12 y13 y14 y15 y16 y17 y18 y19 y20 y21 (fun e σ => J .normal e σ) σ)
theorem f12q63_2_f12e66_p {R : Type} (call : Bool → CallF R) (dem : Bool) (N : Nat) (y0 : Int) (y1 : ByteArray) (y2 : Bool) (y3 : Int) (y4 : Option (Nat × Nat)) (y5 : Int) (y6 : Int) (y7 : Bool) (y8 : Bool) (y9 : Option (Nat × Nat)) (y10 : Bool) (y11 : Bool) (y12 : Bool) (y13 : Int) (y14 : Bool) (y15 : Bool) (y16 : Bool) (y17 : Bool) (y18 : Bool) (y19 : Int) (Q : Env → St → Option R) (σ : St) :
    opsK Try.prog dem (call dem) (opsOf f12c63) ((opsOf f12c63).toList.drop 16) Q (f12e66 y0 y1 y2 y3 y4 y5 y6 y7 y8 y9 y10 y11 y12 y13 y14 y15 y16 y17 y18 y19) σ =
if y18 = true then Q (f12e74 y0 y1 y2 y3 y4 y5 y6 y7 y8 y9 y10 y11 y12 y13 y14 y15 y16 y17 true y19 true) σ
else
  if (y19 == (1 : Int)) = true then
    call dem (31 : Nat) [AV.ptr y4, AV.int IntKind.i64 (1 : Int)] σ fun v0 v1 =>
      Option.bind (AV.toInt IntKind.i64 v0) fun v2 =>
        Q
          (f12e75 y0 y1 y2 y3 y4 y5 y6 y7 y8 y9 y10 y11 y12 y13 y14 y15 y16 y17 false y19 (y19 == (1 : Int)) true y4 v2 (v2 != (0 : Int))
            (v2 != (0 : Int)) (v2 != (0 : Int)))
          v1
  else Q (f12e76 y0 y1 y2 y3 y4 y5 y6 y7 y8 y9 y10 y11 y12 y13 y14 y15 y16 y17 false y19 (y19 == (1 : Int)) false false false) σ := hide (by kernel_rfl)
theorem f12q63_2_f12e66 {R : Type} (call : Bool → CallF R) (dem : Bool) (N : Nat) (y0 : Int) (y1 : ByteArray) (y2 : Bool) (y3 : Int) (y4 : Option (Nat × Nat)) (y5 : Int) (y6 : Int) (y7 : Bool) (y8 : Bool) (y9 : Option (Nat × Nat)) (y10 : Bool) (y11 : Bool) (y12 : Bool) (y13 : Int) (y14 : Bool) (y15 : Bool) (y16 : Bool) (y17 : Bool) (y18 : Bool) (y19 : Int) (J : KF R) (σ : St) :
    f12q63_2 call dem N J (f12e66 y0 y1 y2 y3 y4 y5 y6 y7 y8 y9 y10 y11 y12 y13 y14 y15 y16 y17 y18 y19) σ =
if y18 = true then J Ex.normal (f12e74 y0 y1 y2 y3 y4 y5 y6 y7 y8 y9 y10 y11 y12 y13 y14 y15 y16 y17 true y19 true) σ
else
  if (y19 == (1 : Int)) = true then
    call dem (31 : Nat) [AV.ptr y4, AV.int IntKind.i64 (1 : Int)] σ fun v0 v1 =>
      Option.bind (AV.toInt IntKind.i64 v0) fun v2 =>
        J Ex.normal
          (f12e75 y0 y1 y2 y3 y4 y5 y6 y7 y8 y9 y10 y11 y12 y13 y14 y15 y16 y17 false y19 (y19 == (1 : Int)) true y4 v2 (v2 != (0 : Int))
            (v2 != (0 : Int)) (v2 != (0 : Int)))
          v1
  else J Ex.normal (f12e76 y0 y1 y2 y3 y4 y5 y6 y7 y8 y9 y10 y11 y12 y13 y14 y15 y16 y17 false y19 (y19 == (1 : Int)) false false false) σ := hide (f12q63_2_f12e66_p call dem N y0 y1 y2 y3 y4 y5 y6 y7 y8 y9 y10 y11 y12 y13 y14 y15 y16 y17 y18 y19 (fun e σ => J .normal e σ) σ)
theorem f12z61_f12e67 (y0 : Int) (y1 : ByteArray) (y2 : Bool) (y3 : Int) (y4 : Option (Nat × Nat)) (y5 : Int) (y6 : Int) (y7 : Bool) (y8 : Bool) (y9 : Bool) (y10 : Bool) (y11 : Bool) (y12 : Bool) (y13 : Bool) : Ann.clr f12a61 (f12e67 y0 y1 y2 y3 y4 y5 y6 y7 y8 y9 y10 y11 y12 y13) = f12e77 y1 y2 y13 := hide (by kernel_rfl)
theorem f12x64_f12e77 {R : Type} (call : Bool → CallF R) (dem : Bool) (N : Nat) (y0 : ByteArray) (y1 : Bool) (y2 : Bool) (J : KF R) (σ : St) : runK Try.prog call dem N f12c64 f12a64 J (f12e77 y0 y1 y2) σ = if y2 = true then runK Try.prog call dem N f12c65 f12a65 (condC f12a64 J) (f12e77 y0 y1 y2) σ else runK Try.prog call dem N f12c66 f12a66 (condC f12a64 J) (f12e77 y0 y1 y2) σ := runK_cond' (o := Operand.tmp (146 : Nat)) (by kernel_rfl) (by kernel_rfl) (by kernel_rfl) (by kernel_rfl)
theorem f12n65 {R : Type} (call : Bool → CallF R) (dem : Bool) (N : Nat) (J : KF R) (e : Env) (σ : St) : runK Try.prog call dem N f12c65 f12a65 J e σ = runK Try.prog call dem N f12c67 f12a67 (seqC (fun K e σ => runK Try.prog call dem N f12c68 f12a68 K e σ) f12a65 J) e σ := runK_seq' (by kernel_rfl) (by kernel_rfl) (by kernel_rfl)
theorem f12r67_f12e77 {R : Type} (call : Bool → CallF R) (dem : Bool) (N : Nat) (y0 : ByteArray) (y1 : Bool) (y2 : Bool) (J : KF R) (σ : St) :
    runK Try.prog call dem N f12c67 f12a67 J (f12e77 y0 y1 y2) σ =
J Ex.normal (f12e78 false y0 y1 y2) σ := hide (by kernel_rfl)
theorem f12z65_f12e78 (y0 : Bool) (y1 : ByteArray) (y2 : Bool) (y3 : Bool) : Ann.clr f12a65 (f12e78 y0 y1 y2 y3) = f12e9 y0 := hide (by kernel_rfl)
theorem f12y68_f12e9 {R : Type} (call : Bool → CallF R) (dem : Bool) (N : Nat) (y0 : Bool) (J : KF R) (σ : St) : runK Try.prog call dem N f12c68 f12a68 J (f12e9 y0) σ = J .ret (f12e9 y0) σ := runK_ret' (by kernel_rfl) (by kernel_rfl)
theorem f12n66 {R : Type} (call : Bool → CallF R) (dem : Bool) (N : Nat) (J : KF R) (e : Env) (σ : St) : runK Try.prog call dem N f12c66 f12a66 J e σ = J .normal e σ := runK_skip' (by kernel_rfl)
theorem f12z64_f12e77 (y0 : ByteArray) (y1 : Bool) (y2 : Bool) : Ann.clr f12a64 (f12e77 y0 y1 y2) = f12e79 y0 y1 := hide (by kernel_rfl)
theorem f12z61_f12e68 (y0 : Int) (y1 : ByteArray) (y2 : Bool) (y3 : Int) (y4 : Option (Nat × Nat)) (y5 : Int) (y6 : Int) (y7 : Bool) (y8 : Bool) (y9 : Option (Nat × Nat)) (y10 : Bool) (y11 : Bool) (y12 : Bool) (y13 : Bool) (y14 : Bool) (y15 : Bool) : Ann.clr f12a61 (f12e68 y0 y1 y2 y3 y4 y5 y6 y7 y8 y9 y10 y11 y12 y13 y14 y15) = f12e77 y1 y2 y15 := hide (by kernel_rfl)
theorem f12z61_f12e69 (y0 : Int) (y1 : ByteArray) (y2 : Bool) (y3 : Int) (y4 : Option (Nat × Nat)) (y5 : Int) (y6 : Int) (y7 : Bool) (y8 : Bool) (y9 : Option (Nat × Nat)) (y10 : Bool) (y11 : Bool) (y12 : Bool) (y13 : Int) (y14 : Bool) (y15 : Bool) (y16 : Bool) : Ann.clr f12a61 (f12e69 y0 y1 y2 y3 y4 y5 y6 y7 y8 y9 y10 y11 y12 y13 y14 y15 y16) = f12e77 y1 y2 y16 := hide (by kernel_rfl)
theorem f12z61_f12e70 (y0 : Int) (y1 : ByteArray) (y2 : Bool) (y3 : Int) (y4 : Option (Nat × Nat)) (y5 : Int) (y6 : Int) (y7 : Bool) (y8 : Bool) (y9 : Option (Nat × Nat)) (y10 : Bool) (y11 : Bool) (y12 : Bool) (y13 : Int) (y14 : Bool) (y15 : Bool) (y16 : Int) (y17 : Bool) (y18 : Bool) (y19 : Bool) (y20 : Bool) (y21 : Bool) : Ann.clr f12a61 (f12e70 y0 y1 y2 y3 y4 y5 y6 y7 y8 y9 y10 y11 y12 y13 y14 y15 y16 y17 y18 y19 y20 y21) = f12e77 y1 y2 y21 := hide (by kernel_rfl)
theorem f12z61_f12e71 (y0 : Int) (y1 : ByteArray) (y2 : Bool) (y3 : Int) (y4 : Option (Nat × Nat)) (y5 : Int) (y6 : Int) (y7 : Bool) (y8 : Bool) (y9 : Option (Nat × Nat)) (y10 : Bool) (y11 : Bool) (y12 : Bool) (y13 : Int) (y14 : Bool) (y15 : Bool) (y16 : Int) (y17 : Bool) (y18 : Bool) (y19 : Bool) (y20 : Bool) (y21 : Int) (y22 : Bool) : Ann.clr f12a61 (f12e71 y0 y1 y2 y3 y4 y5 y6 y7 y8 y9 y10 y11 y12 y13 y14 y15 y16 y17 y18 y19 y20 y21 y22) = f12e77 y1 y2 y22 := hide (by kernel_rfl)
theorem f12z61_f12e72 (y0 : Int) (y1 : ByteArray) (y2 : Bool) (y3 : Int) (y4 : Option (Nat × Nat)) (y5 : Int) (y6 : Int) (y7 : Bool) (y8 : Bool) (y9 : Option (Nat × Nat)) (y10 : Bool) (y11 : Bool) (y12 : Bool) (y13 : Int) (y14 : Bool) (y15 : Bool) (y16 : Int) (y17 : Bool) (y18 : Bool) (y19 : Bool) (y20 : Bool) (y21 : Int) (y22 : Bool) (y23 : Bool) (y24 : Option (Nat × Nat)) (y25 : Int) (y26 : Bool) (y27 : Bool) (y28 : Bool) : Ann.clr f12a61 (f12e72 y0 y1 y2 y3 y4 y5 y6 y7 y8 y9 y10 y11 y12 y13 y14 y15 y16 y17 y18 y19 y20 y21 y22 y23 y24 y25 y26 y27 y28) = f12e77 y1 y2 y28 := hide (by kernel_rfl)
theorem f12z61_f12e73 (y0 : Int) (y1 : ByteArray) (y2 : Bool) (y3 : Int) (y4 : Option (Nat × Nat)) (y5 : Int) (y6 : Int) (y7 : Bool) (y8 : Bool) (y9 : Option (Nat × Nat)) (y10 : Bool) (y11 : Bool) (y12 : Bool) (y13 : Int) (y14 : Bool) (y15 : Bool) (y16 : Int) (y17 : Bool) (y18 : Bool) (y19 : Bool) (y20 : Bool) (y21 : Int) (y22 : Bool) (y23 : Bool) (y24 : Bool) (y25 : Bool) : Ann.clr f12a61 (f12e73 y0 y1 y2 y3 y4 y5 y6 y7 y8 y9 y10 y11 y12 y13 y14 y15 y16 y17 y18 y19 y20 y21 y22 y23 y24 y25) = f12e77 y1 y2 y25 := hide (by kernel_rfl)
theorem f12z61_f12e74 (y0 : Int) (y1 : ByteArray) (y2 : Bool) (y3 : Int) (y4 : Option (Nat × Nat)) (y5 : Int) (y6 : Int) (y7 : Bool) (y8 : Bool) (y9 : Option (Nat × Nat)) (y10 : Bool) (y11 : Bool) (y12 : Bool) (y13 : Int) (y14 : Bool) (y15 : Bool) (y16 : Bool) (y17 : Bool) (y18 : Bool) (y19 : Int) (y20 : Bool) : Ann.clr f12a61 (f12e74 y0 y1 y2 y3 y4 y5 y6 y7 y8 y9 y10 y11 y12 y13 y14 y15 y16 y17 y18 y19 y20) = f12e77 y1 y2 y20 := hide (by kernel_rfl)
theorem f12z61_f12e75 (y0 : Int) (y1 : ByteArray) (y2 : Bool) (y3 : Int) (y4 : Option (Nat × Nat)) (y5 : Int) (y6 : Int) (y7 : Bool) (y8 : Bool) (y9 : Option (Nat × Nat)) (y10 : Bool) (y11 : Bool) (y12 : Bool) (y13 : Int) (y14 : Bool) (y15 : Bool) (y16 : Bool) (y17 : Bool) (y18 : Bool) (y19 : Int) (y20 : Bool) (y21 : Bool) (y22 : Option (Nat × Nat)) (y23 : Int) (y24 : Bool) (y25 : Bool) (y26 : Bool) : Ann.clr f12a61 (f12e75 y0 y1 y2 y3 y4 y5 y6 y7 y8 y9 y10 y11 y12 y13 y14 y15 y16 y17 y18 y19 y20 y21 y22 y23 y24 y25 y26) = f12e77 y1 y2 y26 := hide (by kernel_rfl)
theorem f12z61_f12e76 (y0 : Int) (y1 : ByteArray) (y2 : Bool) (y3 : Int) (y4 : Option (Nat × Nat)) (y5 : Int) (y6 : Int) (y7 : Bool) (y8 : Bool) (y9 : Option (Nat × Nat)) (y10 : Bool) (y11 : Bool) (y12 : Bool) (y13 : Int) (y14 : Bool) (y15 : Bool) (y16 : Bool) (y17 : Bool) (y18 : Bool) (y19 : Int) (y20 : Bool) (y21 : Bool) (y22 : Bool) (y23 : Bool) : Ann.clr f12a61 (f12e76 y0 y1 y2 y3 y4 y5 y6 y7 y8 y9 y10 y11 y12 y13 y14 y15 y16 y17 y18 y19 y20 y21 y22 y23) = f12e77 y1 y2 y23 := hide (by kernel_rfl)
theorem f12z60_f12e79 (y0 : ByteArray) (y1 : Bool) : Ann.clr f12a60 (f12e79 y0 y1) = f12e79 y0 y1 := hide (by kernel_rfl)
theorem f12n62 {R : Type} (call : Bool → CallF R) (dem : Bool) (N : Nat) (J : KF R) (e : Env) (σ : St) : runK Try.prog call dem N f12c62 f12a62 J e σ = runK Try.prog call dem N f12c69 f12a69 (seqC (fun K e σ => runK Try.prog call dem N f12c70 f12a70 K e σ) f12a62 J) e σ := runK_seq' (by kernel_rfl) (by kernel_rfl) (by kernel_rfl)
theorem f12r69_f12e79 {R : Type} (call : Bool → CallF R) (dem : Bool) (N : Nat) (y0 : ByteArray) (y1 : Bool) (J : KF R) (σ : St) :
    runK Try.prog call dem N f12c69 f12a69 J (f12e79 y0 y1) σ =
if y1 = true then
  if decide (y0 = ByteArray.mk #[(97 : UInt8)]) = true then
    call dem (15 : Nat) [] σ fun v0 v1 =>
      Option.bind (AV.toBool v0) fun v2 =>
        J Ex.normal (f12e80 v2 y0 y1 y1 true y0 (decide (y0 = ByteArray.mk #[(97 : UInt8)])) (decide (y0 = ByteArray.mk #[(97 : UInt8)])) true v2 v2)
          v1
  else
    J Ex.normal (f12e81 false y0 y1 y1 true y0 (decide (y0 = ByteArray.mk #[(97 : UInt8)])) (decide (y0 = ByteArray.mk #[(97 : UInt8)])) false false)
      σ
else J Ex.normal (f12e82 false y0 y1 y1 false false false false) σ := hide (by kernel_rfl)
theorem f12z62_f12e80 (y0 : Bool) (y1 : ByteArray) (y2 : Bool) (y3 : Bool) (y4 : Bool) (y5 : ByteArray) (y6 : Bool) (y7 : Bool) (y8 : Bool) (y9 : Bool) (y10 : Bool) : Ann.clr f12a62 (f12e80 y0 y1 y2 y3 y4 y5 y6 y7 y8 y9 y10) = f12e9 y0 := hide (by kernel_rfl)
theorem f12y70_f12e9 {R : Type} (call : Bool → CallF R) (dem : Bool) (N : Nat) (y0 : Bool) (J : KF R) (σ : St) : runK Try.prog call dem N f12c70 f12a70 J (f12e9 y0) σ = J .ret (f12e9 y0) σ := runK_ret' (by kernel_rfl) (by kernel_rfl)
theorem f12z62_f12e81 (y0 : Bool) (y1 : ByteArray) (y2 : Bool) (y3 : Bool) (y4 : Bool) (y5 : ByteArray) (y6 : Bool) (y7 : Bool) (y8 : Bool) (y9 : Bool) : Ann.clr f12a62 (f12e81 y0 y1 y2 y3 y4 y5 y6 y7 y8 y9) = f12e9 y0 := hide (by kernel_rfl)
theorem f12z62_f12e82 (y0 : Bool) (y1 : ByteArray) (y2 : Bool) (y3 : Bool) (y4 : Bool) (y5 : Bool) (y6 : Bool) (y7 : Bool) : Ann.clr f12a62 (f12e82 y0 y1 y2 y3 y4 y5 y6 y7) = f12e9 y0 := hide (by kernel_rfl)
theorem f12b_f12e9_r {R : Type} (y0 : Bool) (σ : St) (K : AV → St → Option R) : bodyC Try.prog f12rs K (Ex.ret) (f12e9 y0) σ =
K (AV.bool y0) σ := hide (by kernel_rfl)
attribute [go_sem] f12_eq f12n0 f12r1_f12e0 f12z0_f12e1 f12n2 f12r3_f12e0 f12z2_f12e2 f12n4 f12n5 f12r7_f12e3 f12z5_f12e4 f12x8_f12e6 f12n9 f12r11_f12e6 f12z9_f12e7 f12y12_f12e9 f12z9_f12e8 f12n10 f12z8_f12e6 f12z5_f12e5 f12z4_f12e10 f12n6 f12r13_f12e10 f12z6_f12e11 f12n14 f12n15 f12r17_f12e12 f12z15_f12e13 f12x18_f12e14 f12n19 f12r21_f12e14_p f12r21_f12e14 f12q21_1_f12e15_p f12q21_1_f12e15 f12q21_1_f12e16_p f12q21_1_f12e16 f12q21_1_f12e17_p f12q21_1_f12e17 f12q21_2_f12e18_p f12q21_2_f12e18 f12q21_2_f12e19_p f12q21_2_f12e19 f12q21_2_f12e20_p f12q21_2_f12e20 f12q21_2_f12e21_p f12q21_2_f12e21 f12q21_2_f12e22_p f12q21_2_f12e22 f12q21_2_f12e23_p f12q21_2_f12e23 f12z19_f12e24 f12y22_f12e9 f12z19_f12e25 f12z19_f12e26 f12z19_f12e27 f12z19_f12e28 f12z19_f12e29 f12n20 f12z18_f12e14 f12z14_f12e30 f12n16 f12r23_f12e30 f12z16_f12e31 f12n24 f12r25_f12e32 f12z24_f12e33 f12n26 f12r27_f12e34 f12z26_f12e35 f12n28 f12n29 f12r31_f12e36 f12z29_f12e37 f12x32_f12e39 f12n33 f12r35_f12e39 f12z33_f12e40 f12y36_f12e9 f12n34 f12z32_f12e39 f12z29_f12e38 f12z28_f12e41 f12n30 f12r37_f12e41 f12z30_f12e42 f12n38 f12r39_f12e43 f12z38_f12e44 f12n40 f12r41_f12e43 f12z40_f12e45 f12n42 f12n43 f12r45_f12e46 f12z43_f12e47 f12x46_f12e50 f12n47 f12r49_f12e50 f12z47_f12e51 f12y50_f12e9 f12n48 f12z46_f12e50 f12z43_f12e48 f12z43_f12e49 f12z42_f12e43 f12n44 f12r51_f12e43 f12z44_f12e52 f12n52 f12n53 f12r55_f12e52 f12z53_f12e53 f12x56_f12e54 f12r57_f12e54 f12z56_f12e55 f12n58 f12z56_f12e54 f12z52_f12e52 f12n54 f12r59_f12e52 f12z54_f12e56 f12n60 f12n61 f12r63_f12e57_p f12r63_f12e57 f12q63_1_f12e58_p f12q63_1_f12e58 f12q63_1_f12e59_p f12q63_1_f12e59 f12q63_1_f12e60_p f12q63_1_f12e60 f12q63_2_f12e61_p f12q63_2_f12e61 f12q63_2_f12e62_p f12q63_2_f12e62 f12q63_2_f12e63_p f12q63_2_f12e63 f12q63_2_f12e64_p f12q63_2_f12e64 f12q63_2_f12e65_p f12q63_2_f12e65 f12q63_2_f12e66_p f12q63_2_f12e66 f12z61_f12e67 f12x64_f12e77 f12n65 f12r67_f12e77 f12z65_f12e78 f12y68_f12e9 f12n66 f12z64_f12e77 f12z61_f12e68 f12z61_f12e69 f12z61_f12e70 f12z61_f12e71 f12z61_f12e72 f12z61_f12e73 f12z61_f12e74 f12z61_f12e75 f12z61_f12e76 f12z60_f12e79 f12n62 f12r69_f12e79 f12z62_f12e80 f12y70_f12e9 f12z62_f12e81 f12z62_f12e82 f12b_f12e9_r

end Go.Proofs.Ytmgacgonoodkfaa
