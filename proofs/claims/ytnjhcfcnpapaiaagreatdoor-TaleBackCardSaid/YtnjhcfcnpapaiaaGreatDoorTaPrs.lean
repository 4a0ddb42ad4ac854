/- What the machine does with each piece of code, in plain text. PRINTED by a program of this workplace; Lean checks it. -/
import Derived.Test.YtnjhcfcnpapaiaaGreatDoorTaAnn
import Derived.Test.YtnjhcfcnpapaiaaGreatDoorProg
import Derived.KernelRfl
import Derived.Attr
namespace Go.Proofs.YtnjhcfcnpapaiaaGreatDoor
open Go.AM
set_option maxRecDepth 100000
set_option linter.unusedVariables false
noncomputable def f8rs : List ResultVar := [ResultVar.cell (2 : Nat) (27 : Nat), ResultVar.tmp (3 : Nat), ResultVar.tmp (4 : Nat)]
noncomputable def f8c0 : Code := subCode [] (bodyOf Tryz.prog 8)
def f8a0 : Ann := subAnn [] ann8
noncomputable def f8c1 : Code := subCode [0] (bodyOf Tryz.prog 8)
def f8a1 : Ann := subAnn [0] ann8
noncomputable def f8c2 : Code := subCode [1] (bodyOf Tryz.prog 8)
def f8a2 : Ann := subAnn [1] ann8
noncomputable def f8c3 : Code := subCode [1, 0] (bodyOf Tryz.prog 8)
def f8a3 : Ann := subAnn [1, 0] ann8
noncomputable def f8c4 : Code := subCode [1, 1] (bodyOf Tryz.prog 8)
def f8a4 : Ann := subAnn [1, 1] ann8
noncomputable def f8c5 : Code := subCode [1, 1, 0] (bodyOf Tryz.prog 8)
def f8a5 : Ann := subAnn [1, 1, 0] ann8
noncomputable def f8c6 : Code := subCode [1, 1, 1] (bodyOf Tryz.prog 8)
def f8a6 : Ann := subAnn [1, 1, 1] ann8
noncomputable def f8c7 : Code := subCode [1, 1, 0, 0] (bodyOf Tryz.prog 8)
def f8a7 : Ann := subAnn [1, 1, 0, 0] ann8
noncomputable def f8c8 : Code := subCode [1, 1, 0, 1] (bodyOf Tryz.prog 8)
def f8a8 : Ann := subAnn [1, 1, 0, 1] ann8
noncomputable def f8c9 : Code := subCode [1, 1, 0, 1, 0] (bodyOf Tryz.prog 8)
def f8a9 : Ann := subAnn [1, 1, 0, 1, 0] ann8
noncomputable def f8c10 : Code := subCode [1, 1, 0, 1, 1] (bodyOf Tryz.prog 8)
def f8a10 : Ann := subAnn [1, 1, 0, 1, 1] ann8
noncomputable def f8c11 : Code := subCode [1, 1, 0, 1, 0, 0] (bodyOf Tryz.prog 8)
def f8a11 : Ann := subAnn [1, 1, 0, 1, 0, 0] ann8
noncomputable def f8c12 : Code := subCode [1, 1, 0, 1, 0, 1] (bodyOf Tryz.prog 8)
def f8a12 : Ann := subAnn [1, 1, 0, 1, 0, 1] ann8
noncomputable def f8c13 : Code := subCode [1, 1, 1, 0] (bodyOf Tryz.prog 8)
def f8a13 : Ann := subAnn [1, 1, 1, 0] ann8
noncomputable def f8c14 : Code := subCode [1, 1, 1, 1] (bodyOf Tryz.prog 8)
def f8a14 : Ann := subAnn [1, 1, 1, 1] ann8
noncomputable def f8c15 : Code := subCode [1, 1, 1, 1, 0] (bodyOf Tryz.prog 8)
def f8a15 : Ann := subAnn [1, 1, 1, 1, 0] ann8
noncomputable def f8c16 : Code := subCode [1, 1, 1, 1, 1] (bodyOf Tryz.prog 8)
def f8a16 : Ann := subAnn [1, 1, 1, 1, 1] ann8
noncomputable def f8c17 : Code := subCode [1, 1, 1, 1, 0, 0] (bodyOf Tryz.prog 8)
def f8a17 : Ann := subAnn [1, 1, 1, 1, 0, 0] ann8
noncomputable def f8c18 : Code := subCode [1, 1, 1, 1, 0, 1] (bodyOf Tryz.prog 8)
def f8a18 : Ann := subAnn [1, 1, 1, 1, 0, 1] ann8
noncomputable def f8c19 : Code := subCode [1, 1, 1, 1, 0, 1, 0] (bodyOf Tryz.prog 8)
def f8a19 : Ann := subAnn [1, 1, 1, 1, 0, 1, 0] ann8
noncomputable def f8c20 : Code := subCode [1, 1, 1, 1, 0, 1, 1] (bodyOf Tryz.prog 8)
def f8a20 : Ann := subAnn [1, 1, 1, 1, 0, 1, 1] ann8
noncomputable def f8c21 : Code := subCode [1, 1, 1, 1, 0, 1, 0, 0] (bodyOf Tryz.prog 8)
def f8a21 : Ann := subAnn [1, 1, 1, 1, 0, 1, 0, 0] ann8
noncomputable def f8c22 : Code := subCode [1, 1, 1, 1, 0, 1, 0, 1] (bodyOf Tryz.prog 8)
def f8a22 : Ann := subAnn [1, 1, 1, 1, 0, 1, 0, 1] ann8
noncomputable def f8c23 : Code := subCode [1, 1, 1, 1, 1, 0] (bodyOf Tryz.prog 8)
def f8a23 : Ann := subAnn [1, 1, 1, 1, 1, 0] ann8
noncomputable def f8c24 : Code := subCode [1, 1, 1, 1, 1, 1] (bodyOf Tryz.prog 8)
def f8a24 : Ann := subAnn [1, 1, 1, 1, 1, 1] ann8
noncomputable def f8c25 : Code := subCode [1, 1, 1, 1, 1, 0, 0] (bodyOf Tryz.prog 8)
def f8a25 : Ann := subAnn [1, 1, 1, 1, 1, 0, 0] ann8
noncomputable def f8c26 : Code := subCode [1, 1, 1, 1, 1, 0, 1] (bodyOf Tryz.prog 8)
def f8a26 : Ann := subAnn [1, 1, 1, 1, 1, 0, 1] ann8
noncomputable def f8c27 : Code := subCode [1, 1, 1, 1, 1, 0, 1, 0] (bodyOf Tryz.prog 8)
def f8a27 : Ann := subAnn [1, 1, 1, 1, 1, 0, 1, 0] ann8
noncomputable def f8c28 : Code := subCode [1, 1, 1, 1, 1, 0, 1, 0, 0] (bodyOf Tryz.prog 8)
def f8a28 : Ann := subAnn [1, 1, 1, 1, 1, 0, 1, 0, 0] ann8
noncomputable def f8c29 : Code := subCode [1, 1, 1, 1, 1, 0, 1, 0, 0, 0] (bodyOf Tryz.prog 8)
def f8a29 : Ann := subAnn [1, 1, 1, 1, 1, 0, 1, 0, 0, 0] ann8
noncomputable def f8c30 : Code := subCode [1, 1, 1, 1, 1, 0, 1, 0, 0, 1] (bodyOf Tryz.prog 8)
def f8a30 : Ann := subAnn [1, 1, 1, 1, 1, 0, 1, 0, 0, 1] ann8
noncomputable def f8c31 : Code := subCode [1, 1, 1, 1, 1, 0, 1, 0, 0, 1, 0] (bodyOf Tryz.prog 8)
def f8a31 : Ann := subAnn [1, 1, 1, 1, 1, 0, 1, 0, 0, 1, 0] ann8
noncomputable def f8c32 : Code := subCode [1, 1, 1, 1, 1, 0, 1, 0, 0, 1, 1] (bodyOf Tryz.prog 8)
def f8a32 : Ann := subAnn [1, 1, 1, 1, 1, 0, 1, 0, 0, 1, 1] ann8
noncomputable def f8c33 : Code := subCode [1, 1, 1, 1, 1, 0, 1, 0, 0, 1, 0, 0] (bodyOf Tryz.prog 8)
def f8a33 : Ann := subAnn [1, 1, 1, 1, 1, 0, 1, 0, 0, 1, 0, 0] ann8
noncomputable def f8c34 : Code := subCode [1, 1, 1, 1, 1, 0, 1, 0, 0, 1, 0, 1] (bodyOf Tryz.prog 8)
def f8a34 : Ann := subAnn [1, 1, 1, 1, 1, 0, 1, 0, 0, 1, 0, 1] ann8
noncomputable def f8c35 : Code := subCode [1, 1, 1, 1, 1, 0, 1, 0, 0, 1, 1, 0] (bodyOf Tryz.prog 8)
def f8a35 : Ann := subAnn [1, 1, 1, 1, 1, 0, 1, 0, 0, 1, 1, 0] ann8
noncomputable def f8c36 : Code := subCode [1, 1, 1, 1, 1, 0, 1, 0, 0, 1, 1, 1] (bodyOf Tryz.prog 8)
def f8a36 : Ann := subAnn [1, 1, 1, 1, 1, 0, 1, 0, 0, 1, 1, 1] ann8
noncomputable def f8c37 : Code := subCode [1, 1, 1, 1, 1, 0, 1, 0, 0, 1, 1, 0, 0] (bodyOf Tryz.prog 8)
def f8a37 : Ann := subAnn [1, 1, 1, 1, 1, 0, 1, 0, 0, 1, 1, 0, 0] ann8
noncomputable def f8c38 : Code := subCode [1, 1, 1, 1, 1, 0, 1, 0, 0, 1, 1, 0, 0, 0] (bodyOf Tryz.prog 8)
def f8a38 : Ann := subAnn [1, 1, 1, 1, 1, 0, 1, 0, 0, 1, 1, 0, 0, 0] ann8
noncomputable def f8c39 : Code := subCode [1, 1, 1, 1, 1, 0, 1, 0, 0, 1, 1, 0, 0, 1] (bodyOf Tryz.prog 8)
def f8a39 : Ann := subAnn [1, 1, 1, 1, 1, 0, 1, 0, 0, 1, 1, 0, 0, 1] ann8
noncomputable def f8c40 : Code := subCode [1, 1, 1, 1, 1, 0, 1, 0, 0, 1, 1, 0, 0, 1, 0] (bodyOf Tryz.prog 8)
def f8a40 : Ann := subAnn [1, 1, 1, 1, 1, 0, 1, 0, 0, 1, 1, 0, 0, 1, 0] ann8
noncomputable def f8c41 : Code := subCode [1, 1, 1, 1, 1, 0, 1, 0, 0, 1, 1, 0, 0, 1, 1] (bodyOf Tryz.prog 8)
def f8a41 : Ann := subAnn [1, 1, 1, 1, 1, 0, 1, 0, 0, 1, 1, 0, 0, 1, 1] ann8
noncomputable def f8c42 : Code := subCode [1, 1, 1, 1, 1, 0, 1, 0, 0, 1, 1, 0, 0, 1, 0, 0] (bodyOf Tryz.prog 8)
def f8a42 : Ann := subAnn [1, 1, 1, 1, 1, 0, 1, 0, 0, 1, 1, 0, 0, 1, 0, 0] ann8
noncomputable def f8c43 : Code := subCode [1, 1, 1, 1, 1, 0, 1, 0, 0, 1, 1, 0, 0, 1, 0, 1] (bodyOf Tryz.prog 8)
def f8a43 : Ann := subAnn [1, 1, 1, 1, 1, 0, 1, 0, 0, 1, 1, 0, 0, 1, 0, 1] ann8
noncomputable def f8c44 : Code := subCode [1, 1, 1, 1, 1, 0, 1, 0, 0, 1, 1, 0, 0, 1, 0, 1, 0] (bodyOf Tryz.prog 8)
def f8a44 : Ann := subAnn [1, 1, 1, 1, 1, 0, 1, 0, 0, 1, 1, 0, 0, 1, 0, 1, 0] ann8
noncomputable def f8c45 : Code := subCode [1, 1, 1, 1, 1, 0, 1, 0, 0, 1, 1, 0, 0, 1, 0, 1, 1] (bodyOf Tryz.prog 8)
def f8a45 : Ann := subAnn [1, 1, 1, 1, 1, 0, 1, 0, 0, 1, 1, 0, 0, 1, 0, 1, 1] ann8
noncomputable def f8c46 : Code := subCode [1, 1, 1, 1, 1, 0, 1, 0, 0, 1, 1, 0, 0, 1, 0, 1, 0, 0] (bodyOf Tryz.prog 8)
def f8a46 : Ann := subAnn [1, 1, 1, 1, 1, 0, 1, 0, 0, 1, 1, 0, 0, 1, 0, 1, 0, 0] ann8
noncomputable def f8c47 : Code := subCode [1, 1, 1, 1, 1, 0, 1, 0, 0, 1, 1, 0, 0, 1, 0, 1, 0, 1] (bodyOf Tryz.prog 8)
def f8a47 : Ann := subAnn [1, 1, 1, 1, 1, 0, 1, 0, 0, 1, 1, 0, 0, 1, 0, 1, 0, 1] ann8
noncomputable def f8c48 : Code := subCode [1, 1, 1, 1, 1, 0, 1, 0, 0, 1, 1, 0, 0, 1, 1, 0] (bodyOf Tryz.prog 8)
def f8a48 : Ann := subAnn [1, 1, 1, 1, 1, 0, 1, 0, 0, 1, 1, 0, 0, 1, 1, 0] ann8
noncomputable def f8c49 : Code := subCode [1, 1, 1, 1, 1, 0, 1, 0, 0, 1, 1, 0, 0, 1, 1, 1] (bodyOf Tryz.prog 8)
def f8a49 : Ann := subAnn [1, 1, 1, 1, 1, 0, 1, 0, 0, 1, 1, 0, 0, 1, 1, 1] ann8
noncomputable def f8c50 : Code := subCode [1, 1, 1, 1, 1, 0, 1, 0, 0, 1, 1, 0, 0, 1, 1, 1, 0] (bodyOf Tryz.prog 8)
def f8a50 : Ann := subAnn [1, 1, 1, 1, 1, 0, 1, 0, 0, 1, 1, 0, 0, 1, 1, 1, 0] ann8
noncomputable def f8c51 : Code := subCode [1, 1, 1, 1, 1, 0, 1, 0, 0, 1, 1, 0, 0, 1, 1, 1, 1] (bodyOf Tryz.prog 8)
def f8a51 : Ann := subAnn [1, 1, 1, 1, 1, 0, 1, 0, 0, 1, 1, 0, 0, 1, 1, 1, 1] ann8
noncomputable def f8c52 : Code := subCode [1, 1, 1, 1, 1, 0, 1, 0, 0, 1, 1, 0, 0, 1, 1, 1, 0, 0] (bodyOf Tryz.prog 8)
def f8a52 : Ann := subAnn [1, 1, 1, 1, 1, 0, 1, 0, 0, 1, 1, 0, 0, 1, 1, 1, 0, 0] ann8
noncomputable def f8c53 : Code := subCode [1, 1, 1, 1, 1, 0, 1, 0, 0, 1, 1, 0, 0, 1, 1, 1, 0, 1] (bodyOf Tryz.prog 8)
def f8a53 : Ann := subAnn [1, 1, 1, 1, 1, 0, 1, 0, 0, 1, 1, 0, 0, 1, 1, 1, 0, 1] ann8
noncomputable def f8c54 : Code := subCode [1, 1, 1, 1, 1, 0, 1, 0, 0, 1, 1, 0, 0, 1, 1, 1, 0, 1, 0] (bodyOf Tryz.prog 8)
def f8a54 : Ann := subAnn [1, 1, 1, 1, 1, 0, 1, 0, 0, 1, 1, 0, 0, 1, 1, 1, 0, 1, 0] ann8
noncomputable def f8c55 : Code := subCode [1, 1, 1, 1, 1, 0, 1, 0, 0, 1, 1, 0, 0, 1, 1, 1, 0, 1, 1] (bodyOf Tryz.prog 8)
def f8a55 : Ann := subAnn [1, 1, 1, 1, 1, 0, 1, 0, 0, 1, 1, 0, 0, 1, 1, 1, 0, 1, 1] ann8
noncomputable def f8c56 : Code := subCode [1, 1, 1, 1, 1, 0, 1, 0, 0, 1, 1, 0, 0, 1, 1, 1, 0, 1, 0, 0] (bodyOf Tryz.prog 8)
def f8a56 : Ann := subAnn [1, 1, 1, 1, 1, 0, 1, 0, 0, 1, 1, 0, 0, 1, 1, 1, 0, 1, 0, 0] ann8
noncomputable def f8c57 : Code := subCode [1, 1, 1, 1, 1, 0, 1, 0, 0, 1, 1, 0, 0, 1, 1, 1, 0, 1, 0, 1] (bodyOf Tryz.prog 8)
def f8a57 : Ann := subAnn [1, 1, 1, 1, 1, 0, 1, 0, 0, 1, 1, 0, 0, 1, 1, 1, 0, 1, 0, 1] ann8
noncomputable def f8c58 : Code := subCode [1, 1, 1, 1, 1, 1, 0] (bodyOf Tryz.prog 8)
def f8a58 : Ann := subAnn [1, 1, 1, 1, 1, 1, 0] ann8
noncomputable def f8c59 : Code := subCode [1, 1, 1, 1, 1, 1, 1] (bodyOf Tryz.prog 8)
def f8a59 : Ann := subAnn [1, 1, 1, 1, 1, 1, 1] ann8
noncomputable def f8L27 {R : Type} (call : Bool → CallF R) (dem : Bool) (N : Nat) : KF R → Env → St → Option R := fun K e σ => runK Tryz.prog call dem N f8c28 f8a28 K e σ
def f8e0 (y0 : ByteArray) : Env := AV.str y0 :: Env.sp 66 []
def f8e1 (y0 : ByteArray) (y1 : Nat) (y2 : Int) (y3 : Int) : Env := AV.str y0 :: Env.sp 1 (AV.ptr (some (y1, (0 : Nat))) :: AV.int IntKind.i64 y2 :: AV.int IntKind.i64 y3 :: Env.sp 62 [])
def f8e2 (y0 : ByteArray) (y1 : Nat) : Env := AV.str y0 :: Env.sp 1 (AV.ptr (some (y1, (0 : Nat))) :: Env.sp 64 [])
def f8e3 (y0 : ByteArray) (y1 : Nat) (y2 : Option (Nat × Nat)) (y3 : Nat) (y4 : Option Nat) (y5 : Int) (y6 : Option (Nat × Nat)) (y7 : Nat) (y8 : Option Nat) (y9 : Int) (y10 : ByteArray) (y11 : Option (Nat × Nat)) (y12 : Nat) (y13 : Option Nat) (y14 : Int) (y15 : Option (Nat × Nat)) (y16 : Nat) (y17 : Option Nat) (y18 : Int) : Env := AV.str y0 :: Env.sp 1 (AV.ptr (some (y1, (0 : Nat))) :: Env.sp 2 (AV.slice y2 y3 y4 (1 : Nat) :: AV.int IntKind.i64 y5 :: Env.sp 6 (AV.tuple [AV.slice y6 y7 y8 (1 : Nat), AV.int IntKind.i64 y9] :: AV.str y10 :: AV.tuple [AV.slice y11 y12 y13 (1 : Nat), AV.int IntKind.i64 y14] :: AV.slice y15 y16 y17 (1 : Nat) :: AV.int IntKind.i64 y18 :: Env.sp 49 [])))
def f8e4 (y0 : Nat) (y1 : Option (Nat × Nat)) (y2 : Nat) (y3 : Option Nat) (y4 : Int) : Env := Env.sp 2 (AV.ptr (some (y0, (0 : Nat))) :: Env.sp 2 (AV.slice y1 y2 y3 (1 : Nat) :: AV.int IntKind.i64 y4 :: Env.sp 60 []))
def f8e5 (y0 : Nat) (y1 : Option (Nat × Nat)) (y2 : Nat) (y3 : Option Nat) (y4 : Int) (y5 : Int) (y6 : Bool) (y7 : Bool) (y8 : Bool) : Env := Env.sp 2 (AV.ptr (some (y0, (0 : Nat))) :: Env.sp 2 (AV.slice y1 y2 y3 (1 : Nat) :: AV.int IntKind.i64 y4 :: Env.sp 11 (AV.int IntKind.i64 y5 :: AV.bool y6 :: AV.bool y7 :: AV.tuple [] :: AV.tuple [] :: AV.tuple [] :: AV.bool y8 :: Env.sp 42 [])))
def f8e6 (y0 : Nat) (y1 : Option (Nat × Nat)) (y2 : Nat) (y3 : Option Nat) (y4 : Int) (y5 : Int) (y6 : Bool) (y7 : Bool) (y8 : Option (Nat × Nat)) (y9 : Nat) (y10 : Option Nat) (y11 : Int) (y12 : Bool) (y13 : Bool) : Env := Env.sp 2 (AV.ptr (some (y0, (0 : Nat))) :: Env.sp 2 (AV.slice y1 y2 y3 (1 : Nat) :: AV.int IntKind.i64 y4 :: Env.sp 11 (AV.int IntKind.i64 y5 :: AV.bool y6 :: AV.bool y7 :: AV.slice y8 y9 y10 (1 : Nat) :: AV.int IntKind.i64 y11 :: AV.bool y12 :: AV.bool y13 :: Env.sp 42 [])))
def f8e7 (y0 : Nat) (y1 : Option (Nat × Nat)) (y2 : Nat) (y3 : Option Nat) (y4 : Bool) : Env := Env.sp 2 (AV.ptr (some (y0, (0 : Nat))) :: Env.sp 2 (AV.slice y1 y2 y3 (1 : Nat) :: Env.sp 18 (AV.bool y4 :: Env.sp 42 [])))
def f8e8 (y0 : Nat) (y1 : Int) (y2 : Int) (y3 : Option (Nat × Nat)) (y4 : Nat) (y5 : Option Nat) (y6 : Bool) (y7 : Int) (y8 : Int) (y9 : Int) (y10 : ByteArray) (y11 : Option (Nat × Nat)) (y12 : Nat) (y13 : Option Nat) (y14 : Option (Nat × Nat)) (y15 : Nat) (y16 : Option Nat) : Env := Env.sp 2 (AV.ptr (some (y0, (0 : Nat))) :: AV.int IntKind.i64 y1 :: AV.int IntKind.i64 y2 :: AV.slice y3 y4 y5 (1 : Nat) :: Env.sp 18 (AV.bool y6 :: AV.agg
  [AV.int IntKind.i64 y7, AV.int IntKind.i64 y8, AV.int IntKind.i64 y9, AV.str y10, AV.slice y11 y12 y13 (1 : Nat), AV.slice y14 y15 y16 (12 : Nat)] :: Env.sp 41 []))
def f8e9 (y0 : Nat) (y1 : Int) (y2 : Int) : Env := Env.sp 2 (AV.ptr (some (y0, (0 : Nat))) :: AV.int IntKind.i64 y1 :: AV.int IntKind.i64 y2 :: Env.sp 62 [])
def f8e10 (y0 : Nat) (y1 : Option (Nat × Nat)) (y2 : Nat) (y3 : Option Nat) : Env := Env.sp 2 (AV.ptr (some (y0, (0 : Nat))) :: Env.sp 2 (AV.slice y1 y2 y3 (1 : Nat) :: Env.sp 61 []))
def f8e11 (y0 : Nat) (y1 : Option (Nat × Nat)) (y2 : Nat) (y3 : Option Nat) (y4 : Nat) (y5 : Bool) (y6 : Int) (y7 : Int) (y8 : Int) (y9 : ByteArray) (y10 : Option (Nat × Nat)) (y11 : Nat) (y12 : Option Nat) (y13 : Option (Nat × Nat)) (y14 : Nat) (y15 : Option Nat) (y16 : Bool) (y17 : Option (Nat × Nat)) (y18 : Nat) (y19 : Option Nat) (y20 : Option (Nat × Nat)) (y21 : ByteArray) (y22 : Int) (y23 : Int) (y24 : Int) (y25 : ByteArray) (y26 : Option (Nat × Nat)) (y27 : Nat) (y28 : Option Nat) (y29 : Option (Nat × Nat)) (y30 : Nat) (y31 : Option Nat) (y32 : Bool) (y33 : Int) (y34 : Int) (y35 : Int) (y36 : ByteArray) (y37 : Option (Nat × Nat)) (y38 : Nat) (y39 : Option Nat) (y40 : Option (Nat × Nat)) (y41 : Nat) (y42 : Option Nat) (y43 : Bool) : Env := Env.sp 2 (AV.ptr (some (y0, (0 : Nat))) :: Env.sp 2 (AV.slice y1 y2 y3 (1 : Nat) :: Env.sp 1 (AV.ptr (some (y4, (0 : Nat))) :: AV.bool y5 :: Env.sp 17 (AV.tuple
  [AV.agg
      [AV.int IntKind.i64 y6, AV.int IntKind.i64 y7, AV.int IntKind.i64 y8, AV.str y9, AV.slice y10 y11 y12 (1 : Nat),
        AV.slice y13 y14 y15 (12 : Nat)],
    AV.bool y16] :: AV.slice y17 y18 y19 (1 : Nat) :: AV.ptr y20 :: AV.str y21 :: AV.tuple
  [AV.agg
      [AV.int IntKind.i64 y22, AV.int IntKind.i64 y23, AV.int IntKind.i64 y24, AV.str y25, AV.slice y26 y27 y28 (1 : Nat),
        AV.slice y29 y30 y31 (12 : Nat)],
    AV.bool y32] :: AV.agg
  [AV.int IntKind.i64 y33, AV.int IntKind.i64 y34, AV.int IntKind.i64 y35, AV.str y36, AV.slice y37 y38 y39 (1 : Nat),
    AV.slice y40 y41 y42 (12 : Nat)] :: AV.bool y43 :: Env.sp 34 []))))
def f8e12 (y0 : Nat) (y1 : Option (Nat × Nat)) (y2 : Nat) (y3 : Option Nat) (y4 : Nat) (y5 : Bool) : Env := Env.sp 2 (AV.ptr (some (y0, (0 : Nat))) :: Env.sp 2 (AV.slice y1 y2 y3 (1 : Nat) :: Env.sp 1 (AV.ptr (some (y4, (0 : Nat))) :: AV.bool y5 :: Env.sp 58 [])))
def f8e13 (y0 : Nat) (y1 : Option (Nat × Nat)) (y2 : Nat) (y3 : Option Nat) (y4 : Nat) (y5 : Bool) (y6 : Bool) (y7 : Bool) : Env := Env.sp 2 (AV.ptr (some (y0, (0 : Nat))) :: Env.sp 2 (AV.slice y1 y2 y3 (1 : Nat) :: Env.sp 1 (AV.ptr (some (y4, (0 : Nat))) :: AV.bool y5 :: Env.sp 24 (AV.bool y6 :: AV.bool y7 :: Env.sp 32 []))))
def f8e14 (y0 : Nat) (y1 : Option (Nat × Nat)) (y2 : Nat) (y3 : Option Nat) (y4 : Nat) (y5 : Bool) : Env := Env.sp 2 (AV.ptr (some (y0, (0 : Nat))) :: Env.sp 2 (AV.slice y1 y2 y3 (1 : Nat) :: Env.sp 1 (AV.ptr (some (y4, (0 : Nat))) :: Env.sp 26 (AV.bool y5 :: Env.sp 32 []))))
def f8e15 (y0 : Nat) (y1 : Int) (y2 : Int) (y3 : Option (Nat × Nat)) (y4 : Nat) (y5 : Option Nat) (y6 : Nat) (y7 : Bool) (y8 : Int) (y9 : Int) (y10 : Int) (y11 : ByteArray) (y12 : Option (Nat × Nat)) (y13 : Nat) (y14 : Option Nat) (y15 : Option (Nat × Nat)) (y16 : Nat) (y17 : Option Nat) : Env := Env.sp 2 (AV.ptr (some (y0, (0 : Nat))) :: AV.int IntKind.i64 y1 :: AV.int IntKind.i64 y2 :: AV.slice y3 y4 y5 (1 : Nat) :: Env.sp 1 (AV.ptr (some (y6, (0 : Nat))) :: Env.sp 26 (AV.bool y7 :: AV.agg
  [AV.int IntKind.i64 y8, AV.int IntKind.i64 y9, AV.int IntKind.i64 y10, AV.str y11, AV.slice y12 y13 y14 (1 : Nat), AV.slice y15 y16 y17 (12 : Nat)] :: Env.sp 31 [])))
def f8e16 (y0 : Nat) (y1 : Option (Nat × Nat)) (y2 : Nat) (y3 : Option Nat) (y4 : Nat) : Env := Env.sp 2 (AV.ptr (some (y0, (0 : Nat))) :: Env.sp 2 (AV.slice y1 y2 y3 (1 : Nat) :: Env.sp 1 (AV.ptr (some (y4, (0 : Nat))) :: Env.sp 59 [])))
def f8e17 (y0 : Nat) (y1 : Option (Nat × Nat)) (y2 : Nat) (y3 : Option Nat) (y4 : Nat) (y5 : Option (Nat × Nat)) (y6 : Nat) (y7 : Option Nat) (y8 : Option (Nat × Nat)) (y9 : Nat) (y10 : Option Nat) (y11 : Int) (y12 : Int) : Env := Env.sp 2 (AV.ptr (some (y0, (0 : Nat))) :: Env.sp 2 (AV.slice y1 y2 y3 (1 : Nat) :: Env.sp 1 (AV.ptr (some (y4, (0 : Nat))) :: Env.sp 28 (AV.slice y5 y6 y7 (1 : Nat) :: AV.slice y8 y9 y10 (1 : Nat) :: AV.int IntKind.i64 y11 :: AV.int IntKind.i64 y12 :: Env.sp 27 []))))
def f8e18 (y0 : Nat) (y1 : Nat) (y2 : Option (Nat × Nat)) (y3 : Nat) (y4 : Option Nat) (y5 : Int) (y6 : Int) : Env := Env.sp 2 (AV.ptr (some (y0, (0 : Nat))) :: Env.sp 4 (AV.ptr (some (y1, (0 : Nat))) :: Env.sp 29 (AV.slice y2 y3 y4 (1 : Nat) :: AV.int IntKind.i64 y5 :: AV.int IntKind.i64 y6 :: Env.sp 27 [])))
def f8e19 (y0 : Nat) (y1 : Nat) (y2 : Option (Nat × Nat)) (y3 : Nat) (y4 : Option Nat) (y5 : Int) (y6 : Int) (y7 : Bool) : Env := Env.sp 2 (AV.ptr (some (y0, (0 : Nat))) :: Env.sp 4 (AV.ptr (some (y1, (0 : Nat))) :: Env.sp 29 (AV.slice y2 y3 y4 (1 : Nat) :: AV.int IntKind.i64 y5 :: AV.int IntKind.i64 y6 :: AV.bool y7 :: Env.sp 26 [])))
def f8e20 (y0 : Nat) (y1 : Nat) : Env := Env.sp 2 (AV.ptr (some (y0, (0 : Nat))) :: Env.sp 4 (AV.ptr (some (y1, (0 : Nat))) :: Env.sp 59 []))
def f8e21 (y0 : Nat) (y1 : Nat) (y2 : Int) (y3 : ByteArray) (y4 : Option (Nat × Nat)) (y5 : Nat) (y6 : Option Nat) (y7 : Int) (y8 : Int) (y9 : Int) (y10 : Option (Nat × Nat)) (y11 : ByteArray) : Env := Env.sp 2 (AV.ptr (some (y0, (0 : Nat))) :: Env.sp 4 (AV.ptr (some (y1, (0 : Nat))) :: Env.sp 1 (AV.int IntKind.i64 y2 :: AV.str y3 :: Env.sp 26 (AV.slice y4 y5 y6 (1 : Nat) :: AV.int IntKind.i64 y7 :: AV.int IntKind.i64 y8 :: Env.sp 1 (AV.int IntKind.i64 y9 :: AV.ptr y10 :: AV.str y11 :: Env.sp 23 [])))))
def f8e22 (y0 : Nat) (y1 : Nat) (y2 : Int) (y3 : ByteArray) (y4 : Option (Nat × Nat)) (y5 : Nat) (y6 : Option Nat) (y7 : Int) (y8 : Int) : Env := Env.sp 2 (AV.ptr (some (y0, (0 : Nat))) :: Env.sp 4 (AV.ptr (some (y1, (0 : Nat))) :: Env.sp 1 (AV.int IntKind.i64 y2 :: AV.str y3 :: Env.sp 26 (AV.slice y4 y5 y6 (1 : Nat) :: AV.int IntKind.i64 y7 :: AV.int IntKind.i64 y8 :: Env.sp 27 []))))
def f8e23 (y0 : Nat) (y1 : Nat) (y2 : Int) (y3 : ByteArray) (y4 : Option (Nat × Nat)) (y5 : Nat) (y6 : Option Nat) (y7 : Int) (y8 : Int) (y9 : Int) (y10 : Bool) : Env := Env.sp 2 (AV.ptr (some (y0, (0 : Nat))) :: Env.sp 4 (AV.ptr (some (y1, (0 : Nat))) :: Env.sp 1 (AV.int IntKind.i64 y2 :: AV.str y3 :: Env.sp 26 (AV.slice y4 y5 y6 (1 : Nat) :: AV.int IntKind.i64 y7 :: AV.int IntKind.i64 y8 :: Env.sp 4 (AV.int IntKind.i64 y9 :: AV.bool y10 :: Env.sp 21 [])))))
def f8e24 (y0 : Nat) (y1 : Nat) (y2 : Int) (y3 : ByteArray) (y4 : Option (Nat × Nat)) (y5 : Nat) (y6 : Option Nat) (y7 : Int) (y8 : Int) (y9 : Bool) : Env := Env.sp 2 (AV.ptr (some (y0, (0 : Nat))) :: Env.sp 4 (AV.ptr (some (y1, (0 : Nat))) :: Env.sp 1 (AV.int IntKind.i64 y2 :: AV.str y3 :: Env.sp 26 (AV.slice y4 y5 y6 (1 : Nat) :: AV.int IntKind.i64 y7 :: AV.int IntKind.i64 y8 :: Env.sp 5 (AV.bool y9 :: Env.sp 21 [])))))
def f8e25 (y0 : Nat) (y1 : Int) (y2 : Int) (y3 : Nat) (y4 : Int) (y5 : ByteArray) (y6 : Option (Nat × Nat)) (y7 : Nat) (y8 : Option Nat) (y9 : Int) (y10 : Int) (y11 : Bool) (y12 : Int) (y13 : Int) (y14 : Int) (y15 : ByteArray) (y16 : Option (Nat × Nat)) (y17 : Nat) (y18 : Option Nat) (y19 : Option (Nat × Nat)) (y20 : Nat) (y21 : Option Nat) (y22 : Int) (y23 : Int) : Env := Env.sp 2 (AV.ptr (some (y0, (0 : Nat))) :: AV.int IntKind.i64 y1 :: AV.int IntKind.i64 y2 :: Env.sp 2 (AV.ptr (some (y3, (0 : Nat))) :: Env.sp 1 (AV.int IntKind.i64 y4 :: AV.str y5 :: Env.sp 26 (AV.slice y6 y7 y8 (1 : Nat) :: AV.int IntKind.i64 y9 :: AV.int IntKind.i64 y10 :: Env.sp 5 (AV.bool y11 :: AV.agg
  [AV.int IntKind.i64 y12, AV.int IntKind.i64 y13, AV.int IntKind.i64 y14, AV.str y15, AV.slice y16 y17 y18 (1 : Nat),
    AV.slice y19 y20 y21 (12 : Nat)] :: AV.int IntKind.i64 y22 :: AV.int IntKind.i64 y23 :: Env.sp 18 [])))))
def f8e26 (y0 : Nat) (y1 : Nat) (y2 : Int) (y3 : ByteArray) (y4 : Nat) (y5 : Bool) (y6 : Option (Nat × Nat)) (y7 : Nat) (y8 : Option Nat) (y9 : Int) (y10 : Int) (y11 : Int) (y12 : Int) (y13 : Int) (y14 : Int) (y15 : Int) (y16 : Int) (y17 : Int) (y18 : Int) (y19 : ByteArray) (y20 : ByteArray) (y21 : ByteArray) (y22 : ByteArray) (y23 : Bool) (y24 : ByteArray) (y25 : Int) (y26 : Int) (y27 : Int) (y28 : Int) (y29 : Int) (y30 : Int) (y31 : Int) (y32 : Int) (y33 : ByteArray) (y34 : ByteArray) (y35 : ByteArray) (y36 : ByteArray) (y37 : Bool) (y38 : Int) (y39 : Int) (y40 : Int) (y41 : Int) (y42 : Int) (y43 : Int) (y44 : Int) (y45 : Int) (y46 : ByteArray) (y47 : ByteArray) (y48 : ByteArray) (y49 : ByteArray) (y50 : Bool) : Env := Env.sp 2 (AV.ptr (some (y0, (0 : Nat))) :: Env.sp 4 (AV.ptr (some (y1, (0 : Nat))) :: Env.sp 1 (AV.int IntKind.i64 y2 :: AV.str y3 :: AV.ptr (some (y4, (0 : Nat))) :: AV.bool y5 :: Env.sp 24 (AV.slice y6 y7 y8 (1 : Nat) :: AV.int IntKind.i64 y9 :: AV.int IntKind.i64 y10 :: Env.sp 9 (AV.tuple
  [AV.agg
      [AV.int IntKind.i64 y11, AV.int IntKind.i64 y12, AV.int IntKind.i64 y13, AV.int IntKind.i64 y14, AV.int IntKind.i64 y15, AV.int IntKind.i64 y16,
        AV.int IntKind.i64 y17, AV.int IntKind.i64 y18, AV.str y19, AV.str y20, AV.str y21, AV.str y22],
    AV.bool y23] :: AV.str y24 :: AV.tuple
  [AV.agg
      [AV.int IntKind.i64 y25, AV.int IntKind.i64 y26, AV.int IntKind.i64 y27, AV.int IntKind.i64 y28, AV.int IntKind.i64 y29, AV.int IntKind.i64 y30,
        AV.int IntKind.i64 y31, AV.int IntKind.i64 y32, AV.str y33, AV.str y34, AV.str y35, AV.str y36],
    AV.bool y37] :: AV.agg
  [AV.int IntKind.i64 y38, AV.int IntKind.i64 y39, AV.int IntKind.i64 y40, AV.int IntKind.i64 y41, AV.int IntKind.i64 y42, AV.int IntKind.i64 y43,
    AV.int IntKind.i64 y44, AV.int IntKind.i64 y45, AV.str y46, AV.str y47, AV.str y48, AV.str y49] :: AV.bool y50 :: Env.sp 13 [])))))
def f8e27 (y0 : Nat) (y1 : Nat) (y2 : Int) (y3 : Nat) (y4 : Bool) (y5 : Option (Nat × Nat)) (y6 : Nat) (y7 : Option Nat) (y8 : Int) (y9 : Int) : Env := Env.sp 2 (AV.ptr (some (y0, (0 : Nat))) :: Env.sp 4 (AV.ptr (some (y1, (0 : Nat))) :: Env.sp 1 (AV.int IntKind.i64 y2 :: Env.sp 1 (AV.ptr (some (y3, (0 : Nat))) :: AV.bool y4 :: Env.sp 24 (AV.slice y5 y6 y7 (1 : Nat) :: AV.int IntKind.i64 y8 :: AV.int IntKind.i64 y9 :: Env.sp 27 [])))))
def f8e28 (y0 : Nat) (y1 : Nat) (y2 : Int) (y3 : Nat) (y4 : Bool) (y5 : Option (Nat × Nat)) (y6 : Nat) (y7 : Option Nat) (y8 : Int) (y9 : Int) (y10 : Bool) (y11 : Bool) : Env := Env.sp 2 (AV.ptr (some (y0, (0 : Nat))) :: Env.sp 4 (AV.ptr (some (y1, (0 : Nat))) :: Env.sp 1 (AV.int IntKind.i64 y2 :: Env.sp 1 (AV.ptr (some (y3, (0 : Nat))) :: AV.bool y4 :: Env.sp 24 (AV.slice y5 y6 y7 (1 : Nat) :: AV.int IntKind.i64 y8 :: AV.int IntKind.i64 y9 :: Env.sp 14 (AV.bool y10 :: AV.bool y11 :: Env.sp 11 []))))))
def f8e29 (y0 : Nat) (y1 : Nat) (y2 : Int) (y3 : Nat) (y4 : Option (Nat × Nat)) (y5 : Nat) (y6 : Option Nat) (y7 : Int) (y8 : Int) (y9 : Bool) : Env := Env.sp 2 (AV.ptr (some (y0, (0 : Nat))) :: Env.sp 4 (AV.ptr (some (y1, (0 : Nat))) :: Env.sp 1 (AV.int IntKind.i64 y2 :: Env.sp 1 (AV.ptr (some (y3, (0 : Nat))) :: Env.sp 25 (AV.slice y4 y5 y6 (1 : Nat) :: AV.int IntKind.i64 y7 :: AV.int IntKind.i64 y8 :: Env.sp 15 (AV.bool y9 :: Env.sp 11 []))))))
def f8e30 (y0 : Nat) (y1 : Int) (y2 : Int) (y3 : Nat) (y4 : Int) (y5 : Nat) (y6 : Option (Nat × Nat)) (y7 : Nat) (y8 : Option Nat) (y9 : Int) (y10 : Int) (y11 : Bool) (y12 : Int) (y13 : Int) (y14 : Int) (y15 : ByteArray) (y16 : Option (Nat × Nat)) (y17 : Nat) (y18 : Option Nat) (y19 : Option (Nat × Nat)) (y20 : Nat) (y21 : Option Nat) (y22 : Int) (y23 : Int) : Env := Env.sp 2 (AV.ptr (some (y0, (0 : Nat))) :: AV.int IntKind.i64 y1 :: AV.int IntKind.i64 y2 :: Env.sp 2 (AV.ptr (some (y3, (0 : Nat))) :: Env.sp 1 (AV.int IntKind.i64 y4 :: Env.sp 1 (AV.ptr (some (y5, (0 : Nat))) :: Env.sp 25 (AV.slice y6 y7 y8 (1 : Nat) :: AV.int IntKind.i64 y9 :: AV.int IntKind.i64 y10 :: Env.sp 15 (AV.bool y11 :: AV.agg
  [AV.int IntKind.i64 y12, AV.int IntKind.i64 y13, AV.int IntKind.i64 y14, AV.str y15, AV.slice y16 y17 y18 (1 : Nat),
    AV.slice y19 y20 y21 (12 : Nat)] :: AV.int IntKind.i64 y22 :: AV.int IntKind.i64 y23 :: Env.sp 8 []))))))
def f8e31 (y0 : Nat) (y1 : Nat) (y2 : Nat) (y3 : Option (Nat × Nat)) (y4 : Nat) (y5 : Option Nat) (y6 : Int) (y7 : Int) : Env := Env.sp 2 (AV.ptr (some (y0, (0 : Nat))) :: Env.sp 4 (AV.ptr (some (y1, (0 : Nat))) :: Env.sp 3 (AV.ptr (some (y2, (0 : Nat))) :: Env.sp 25 (AV.slice y3 y4 y5 (1 : Nat) :: AV.int IntKind.i64 y6 :: AV.int IntKind.i64 y7 :: Env.sp 27 []))))
def f8e32 (y0 : Nat) (y1 : Nat) (y2 : Nat) (y3 : Option (Nat × Nat)) (y4 : Nat) (y5 : Option Nat) (y6 : Int) (y7 : Int) (y8 : Nat) (y9 : Option (Nat × Nat)) (y10 : Nat) (y11 : Option Nat) (y12 : Int) (y13 : Int) (y14 : Int) (y15 : Int) (y16 : Int) (y17 : Int) (y18 : Int) (y19 : Int) (y20 : ByteArray) (y21 : ByteArray) (y22 : ByteArray) (y23 : ByteArray) (y24 : Option (Nat × Nat)) (y25 : Nat) (y26 : Option Nat) (y27 : Option (Nat × Nat)) (y28 : Nat) (y29 : Option Nat) (y30 : Nat) : Env := Env.sp 2 (AV.ptr (some (y0, (0 : Nat))) :: Env.sp 4 (AV.ptr (some (y1, (0 : Nat))) :: Env.sp 3 (AV.ptr (some (y2, (0 : Nat))) :: Env.sp 25 (AV.slice y3 y4 y5 (1 : Nat) :: AV.int IntKind.i64 y6 :: AV.int IntKind.i64 y7 :: Env.sp 19 (AV.ptr (some (y8, (5 : Nat))) :: AV.slice y9 y10 y11 (12 : Nat) :: AV.agg
  [AV.int IntKind.i64 y12, AV.int IntKind.i64 y13, AV.int IntKind.i64 y14, AV.int IntKind.i64 y15, AV.int IntKind.i64 y16, AV.int IntKind.i64 y17,
    AV.int IntKind.i64 y18, AV.int IntKind.i64 y19, AV.str y20, AV.str y21, AV.str y22, AV.str y23] :: AV.slice y24 y25 y26 (12 : Nat) :: AV.slice y27 y28 y29 (12 : Nat) :: AV.ptr (some (y30, (5 : Nat))) :: Env.sp 2 [])))))
def f8e33 (y0 : Nat) (y1 : Nat) (y2 : Option (Nat × Nat)) (y3 : Nat) (y4 : Option Nat) (y5 : Int) (y6 : Int) (y7 : Int) : Env := Env.sp 2 (AV.ptr (some (y0, (0 : Nat))) :: Env.sp 4 (AV.ptr (some (y1, (0 : Nat))) :: Env.sp 29 (AV.slice y2 y3 y4 (1 : Nat) :: AV.int IntKind.i64 y5 :: AV.int IntKind.i64 y6 :: Env.sp 25 (AV.int IntKind.i64 y7 :: Env.sp 1 []))))
def f8e34 (y0 : Nat) (y1 : Int) (y2 : Int) (y3 : Nat) (y4 : Int) (y5 : Int) (y6 : Int) (y7 : ByteArray) (y8 : Option (Nat × Nat)) (y9 : Nat) (y10 : Option Nat) (y11 : Option (Nat × Nat)) (y12 : Nat) (y13 : Option Nat) : Env := Env.sp 2 (AV.ptr (some (y0, (0 : Nat))) :: AV.int IntKind.i64 y1 :: AV.int IntKind.i64 y2 :: Env.sp 2 (AV.ptr (some (y3, (0 : Nat))) :: Env.sp 58 (AV.agg [AV.int IntKind.i64 y4, AV.int IntKind.i64 y5, AV.int IntKind.i64 y6, AV.str y7, AV.slice y8 y9 y10 (1 : Nat), AV.slice y11 y12 y13 (12 : Nat)] :: [])))

/- function 8 -/
theorem f8_eq {R : Type} (call : Bool → CallF R) (dem : Bool) (N : Nat) (y0 : ByteArray) (σ : St) (K : AV → St → Option R) :
    bodyK Tryz.prog call dem N ann 8 [AV.str y0] σ K = runK Tryz.prog call dem N f8c0 f8a0 (bodyC Tryz.prog f8rs K) (f8e0 y0) σ := bodyK_of (fn := ((Tryz.prog.funcs[8]?).get rfl)) (by kernel_rfl) (by kernel_rfl) (by kernel_rfl) (by kernel_rfl) (by kernel_rfl) (by kernel_rfl)
theorem f8n0 {R : Type} (call : Bool → CallF R) (dem : Bool) (N : Nat) (J : KF R) (e : Env) (σ : St) : runK Tryz.prog call dem N f8c0 f8a0 J e σ = runK Tryz.prog call dem N f8c1 f8a1 (seqC (fun K e σ => runK Tryz.prog call dem N f8c2 f8a2 K e σ) f8a0 J) e σ := runK_seq' (by kernel_rfl) (by kernel_rfl) (by kernel_rfl)
theorem f8r1_f8e0 {R : Type} (call : Bool → CallF R) (dem : Bool) (N : Nat) (y0 : ByteArray) (J : KF R) (σ : St) :
    runK Tryz.prog call dem N f8c1 f8a1 J (f8e0 y0) σ =
J Ex.normal (f8e1 y0 (St.next σ) (0 : Int) (0 : Int))
  (St.new σ
    (Blk.cells
      [AV.int IntKind.i64 (0 : Int), AV.int IntKind.i64 (0 : Int), AV.int IntKind.i64 (0 : Int), AV.str (ByteArray.mk #[]),
        AV.slice none (0 : Nat) (some (0 : Nat)) (1 : Nat), AV.slice none (0 : Nat) (some (0 : Nat)) (12 : Nat)]
      true)) := hide (by kernel_rfl)
theorem f8z0_f8e1 (y0 : ByteArray) (y1 : Nat) (y2 : Int) (y3 : Int) : Ann.clr f8a0 (f8e1 y0 y1 y2 y3) = f8e2 y0 y1 := hide (by kernel_rfl)
theorem f8n2 {R : Type} (call : Bool → CallF R) (dem : Bool) (N : Nat) (J : KF R) (e : Env) (σ : St) : runK Tryz.prog call dem N f8c2 f8a2 J e σ = runK Tryz.prog call dem N f8c3 f8a3 (seqC (fun K e σ => runK Tryz.prog call dem N f8c4 f8a4 K e σ) f8a2 J) e σ := runK_seq' (by kernel_rfl) (by kernel_rfl) (by kernel_rfl)
theorem f8r3_f8e2 {R : Type} (call : Bool → CallF R) (dem : Bool) (N : Nat) (y0 : ByteArray) (y1 : Nat) (J : KF R) (σ : St) :
    runK Tryz.prog call dem N f8c3 f8a3 J (f8e2 y0 y1) σ =
call dem (16 : Nat) [AV.str y0] σ fun v0 v1 =>
  Option.bind (AV.toTuple v0) fun v2 =>
    if List.length v2 = (2 : Nat) then
      Option.bind (List.head? v2) fun v3 =>
        Option.bind (AV.toSl (1 : Nat) v3) fun v4 =>
          Option.bind (List.head? (List.tail v2)) fun v5 =>
            Option.bind (AV.toInt IntKind.i64 v5) fun v6 =>
              J Ex.normal
                (f8e3 y0 y1 (Sl.o v4) (Sl.len v4) (Sl.cap v4) v6 (Sl.o v4) (Sl.len v4) (Sl.cap v4) v6 y0 (Sl.o v4) (Sl.len v4) (Sl.cap v4) v6
                  (Sl.o v4) (Sl.len v4) (Sl.cap v4) v6)
                v1
    else none := hide (by kernel_rfl)
theorem f8z2_f8e3 (y0 : ByteArray) (y1 : Nat) (y2 : Option (Nat × Nat)) (y3 : Nat) (y4 : Option Nat) (y5 : Int) (y6 : Option (Nat × Nat)) (y7 : Nat) (y8 : Option Nat) (y9 : Int) (y10 : ByteArray) (y11 : Option (Nat × Nat)) (y12 : Nat) (y13 : Option Nat) (y14 : Int) (y15 : Option (Nat × Nat)) (y16 : Nat) (y17 : Option Nat) (y18 : Int) : Ann.clr f8a2 (f8e3 y0 y1 y2 y3 y4 y5 y6 y7 y8 y9 y10 y11 y12 y13 y14 y15 y16 y17 y18) = f8e4 y1 y2 y3 y4 y5 := hide (by kernel_rfl)
theorem f8n4 {R : Type} (call : Bool → CallF R) (dem : Bool) (N : Nat) (J : KF R) (e : Env) (σ : St) : runK Tryz.prog call dem N f8c4 f8a4 J e σ = runK Tryz.prog call dem N f8c5 f8a5 (seqC (fun K e σ => runK Tryz.prog call dem N f8c6 f8a6 K e σ) f8a4 J) e σ := runK_seq' (by kernel_rfl) (by kernel_rfl) (by kernel_rfl)
theorem f8n5 {R : Type} (call : Bool → CallF R) (dem : Bool) (N : Nat) (J : KF R) (e : Env) (σ : St) : runK Tryz.prog call dem N f8c5 f8a5 J e σ = runK Tryz.prog call dem N f8c7 f8a7 (seqC (fun K e σ => runK Tryz.prog call dem N f8c8 f8a8 K e σ) f8a5 J) e σ := runK_seq' (by kernel_rfl) (by kernel_rfl) (by kernel_rfl)
theorem f8r7_f8e4 {R : Type} (call : Bool → CallF R) (dem : Bool) (N : Nat) (y0 : Nat) (y1 : Option (Nat × Nat)) (y2 : Nat) (y3 : Option Nat) (y4 : Int) (J : KF R) (σ : St) :
    runK Tryz.prog call dem N f8c7 f8a7 J (f8e4 y0 y1 y2 y3 y4) σ =
if (y4 != (0 : Int)) = true then J Ex.normal (f8e5 y0 y1 y2 y3 y4 y4 (y4 != (0 : Int)) true true) σ
else J Ex.normal (f8e6 y0 y1 y2 y3 y4 y4 (y4 != (0 : Int)) false y1 y2 y3 (↑y2 : Int) ((↑y2 : Int) == (0 : Int)) ((↑y2 : Int) == (0 : Int))) σ := hide (by kernel_rfl)
theorem f8z5_f8e5 (y0 : Nat) (y1 : Option (Nat × Nat)) (y2 : Nat) (y3 : Option Nat) (y4 : Int) (y5 : Int) (y6 : Bool) (y7 : Bool) (y8 : Bool) : Ann.clr f8a5 (f8e5 y0 y1 y2 y3 y4 y5 y6 y7 y8) = f8e7 y0 y1 y2 y3 y8 := hide (by kernel_rfl)
theorem f8x8_f8e7 {R : Type} (call : Bool → CallF R) (dem : Bool) (N : Nat) (y0 : Nat) (y1 : Option (Nat × Nat)) (y2 : Nat) (y3 : Option Nat) (y4 : Bool) (J : KF R) (σ : St) : runK Tryz.prog call dem N f8c8 f8a8 J (f8e7 y0 y1 y2 y3 y4) σ = if y4 = true then runK Tryz.prog call dem N f8c9 f8a9 (condC f8a8 J) (f8e7 y0 y1 y2 y3 y4) σ else runK Tryz.prog call dem N f8c10 f8a10 (condC f8a8 J) (f8e7 y0 y1 y2 y3 y4) σ := runK_cond' (o := Operand.tmp (24 : Nat)) (by kernel_rfl) (by kernel_rfl) (by kernel_rfl) (by kernel_rfl)
theorem f8n9 {R : Type} (call : Bool → CallF R) (dem : Bool) (N : Nat) (J : KF R) (e : Env) (σ : St) : runK Tryz.prog call dem N f8c9 f8a9 J e σ = runK Tryz.prog call dem N f8c11 f8a11 (seqC (fun K e σ => runK Tryz.prog call dem N f8c12 f8a12 K e σ) f8a9 J) e σ := runK_seq' (by kernel_rfl) (by kernel_rfl) (by kernel_rfl)
theorem f8r11_f8e7 {R : Type} (call : Bool → CallF R) (dem : Bool) (N : Nat) (y0 : Nat) (y1 : Option (Nat × Nat)) (y2 : Nat) (y3 : Option Nat) (y4 : Bool) (J : KF R) (σ : St) :
    runK Tryz.prog call dem N f8c11 f8a11 J (f8e7 y0 y1 y2 y3 y4) σ =
Option.bind
  (St.st σ y0 (0 : Nat)
    [AV.int IntKind.i64 (0 : Int), AV.int IntKind.i64 (0 : Int), AV.int IntKind.i64 (0 : Int), AV.str (ByteArray.mk #[]),
      AV.slice none (0 : Nat) (some (0 : Nat)) (1 : Nat), AV.slice none (0 : Nat) (some (0 : Nat)) (12 : Nat)])
  fun v0 =>
  J Ex.normal
    (f8e8 y0 (0 : Int) (4 : Int) y1 y2 y3 y4 (0 : Int) (0 : Int) (0 : Int) (ByteArray.mk #[]) none (0 : Nat) (some (0 : Nat)) none (0 : Nat)
      (some (0 : Nat)))
    v0 := hide (by kernel_rfl)
theorem f8z9_f8e8 (y0 : Nat) (y1 : Int) (y2 : Int) (y3 : Option (Nat × Nat)) (y4 : Nat) (y5 : Option Nat) (y6 : Bool) (y7 : Int) (y8 : Int) (y9 : Int) (y10 : ByteArray) (y11 : Option (Nat × Nat)) (y12 : Nat) (y13 : Option Nat) (y14 : Option (Nat × Nat)) (y15 : Nat) (y16 : Option Nat) : Ann.clr f8a9 (f8e8 y0 y1 y2 y3 y4 y5 y6 y7 y8 y9 y10 y11 y12 y13 y14 y15 y16) = f8e9 y0 y1 y2 := hide (by kernel_rfl)
theorem f8y12_f8e9 {R : Type} (call : Bool → CallF R) (dem : Bool) (N : Nat) (y0 : Nat) (y1 : Int) (y2 : Int) (J : KF R) (σ : St) : runK Tryz.prog call dem N f8c12 f8a12 J (f8e9 y0 y1 y2) σ = J .ret (f8e9 y0 y1 y2) σ := runK_ret' (by kernel_rfl) (by kernel_rfl)
theorem f8n10 {R : Type} (call : Bool → CallF R) (dem : Bool) (N : Nat) (J : KF R) (e : Env) (σ : St) : runK Tryz.prog call dem N f8c10 f8a10 J e σ = J .normal e σ := runK_skip' (by kernel_rfl)
theorem f8z8_f8e7 (y0 : Nat) (y1 : Option (Nat × Nat)) (y2 : Nat) (y3 : Option Nat) (y4 : Bool) : Ann.clr f8a8 (f8e7 y0 y1 y2 y3 y4) = f8e10 y0 y1 y2 y3 := hide (by kernel_rfl)
theorem f8z5_f8e6 (y0 : Nat) (y1 : Option (Nat × Nat)) (y2 : Nat) (y3 : Option Nat) (y4 : Int) (y5 : Int) (y6 : Bool) (y7 : Bool) (y8 : Option (Nat × Nat)) (y9 : Nat) (y10 : Option Nat) (y11 : Int) (y12 : Bool) (y13 : Bool) : Ann.clr f8a5 (f8e6 y0 y1 y2 y3 y4 y5 y6 y7 y8 y9 y10 y11 y12 y13) = f8e7 y0 y1 y2 y3 y13 := hide (by kernel_rfl)
theorem f8z4_f8e10 (y0 : Nat) (y1 : Option (Nat × Nat)) (y2 : Nat) (y3 : Option Nat) : Ann.clr f8a4 (f8e10 y0 y1 y2 y3) = f8e10 y0 y1 y2 y3 := hide (by kernel_rfl)
theorem f8n6 {R : Type} (call : Bool → CallF R) (dem : Bool) (N : Nat) (J : KF R) (e : Env) (σ : St) : runK Tryz.prog call dem N f8c6 f8a6 J e σ = runK Tryz.prog call dem N f8c13 f8a13 (seqC (fun K e σ => runK Tryz.prog call dem N f8c14 f8a14 K e σ) f8a6 J) e σ := runK_seq' (by kernel_rfl) (by kernel_rfl) (by kernel_rfl)
theorem f8r13_f8e10 {R : Type} (call : Bool → CallF R) (dem : Bool) (N : Nat) (y0 : Nat) (y1 : Option (Nat × Nat)) (y2 : Nat) (y3 : Option Nat) (J : KF R) (σ : St) :
    runK Tryz.prog call dem N f8c13 f8a13 J (f8e10 y0 y1 y2 y3) σ =
if (0 : Int) ≤ (0 : Int) ∧ (0 : Int) < (↑y2 : Int) then
  Option.bind y1 fun v0 =>
    Option.bind (St.ld σ (Prod.fst v0) (Prod.snd v0)) fun v1 =>
      Option.bind (AV.toStr v1) fun v2 =>
        call dem (17 : Nat) [AV.str v2] σ fun v3 v4 =>
          Option.bind (AV.toTuple v3) fun v5 =>
            if List.length v5 = (2 : Nat) then
              Option.bind (List.head? v5) fun v6 =>
                Option.bind (AV.toAgg v6) fun v7 =>
                  if List.length v7 = (6 : Nat) then
                    Option.bind (List.head? v7) fun v8 =>
                      Option.bind (AV.toInt IntKind.i64 v8) fun v9 =>
                        Option.bind (List.head? (List.tail v7)) fun v10 =>
                          Option.bind (AV.toInt IntKind.i64 v10) fun v11 =>
                            Option.bind (List.head? (List.tail (List.tail v7))) fun v12 =>
                              Option.bind (AV.toInt IntKind.i64 v12) fun v13 =>
                                Option.bind (List.head? (List.tail (List.tail (List.tail v7)))) fun v14 =>
                                  Option.bind (AV.toStr v14) fun v15 =>
                                    Option.bind (List.head? (List.tail (List.tail (List.tail (List.tail v7))))) fun v16 =>
                                      Option.bind (AV.toSl (1 : Nat) v16) fun v17 =>
                                        Option.bind (List.head? (List.tail (List.tail (List.tail (List.tail (List.tail v7)))))) fun v18 =>
                                          Option.bind (AV.toSl (12 : Nat) v18) fun v19 =>
                                            Option.bind (List.head? (List.tail v5)) fun v20 =>
                                              Option.bind (AV.toBool v20) fun v21 =>
                                                Option.bind
                                                  (St.st
                                                    (St.new v4
                                                      (Blk.cells
                                                        [AV.int IntKind.i64 (0 : Int), AV.int IntKind.i64 (0 : Int), AV.int IntKind.i64 (0 : Int),
                                                          AV.str (ByteArray.mk #[]), AV.slice none (0 : Nat) (some (0 : Nat)) (1 : Nat),
                                                          AV.slice none (0 : Nat) (some (0 : Nat)) (12 : Nat)]
                                                        true))
                                                    (St.next v4) (0 : Nat)
                                                    [AV.int IntKind.i64 v9, AV.int IntKind.i64 v11, AV.int IntKind.i64 v13, AV.str v15,
                                                      AV.slice (Sl.o v17) (Sl.len v17) (Sl.cap v17) (1 : Nat),
                                                      AV.slice (Sl.o v19) (Sl.len v19) (Sl.cap v19) (12 : Nat)])
                                                  fun v22 =>
                                                  J Ex.normal
                                                    (f8e11 y0 y1 y2 y3 (St.next v4) v21 v9 v11 v13 v15 (Sl.o v17) (Sl.len v17) (Sl.cap v17) (Sl.o v19)
                                                      (Sl.len v19) (Sl.cap v19) v21 y1 y2 y3 (some (Prod.fst v0, Prod.snd v0)) v2 v9 v11 v13 v15
                                                      (Sl.o v17) (Sl.len v17) (Sl.cap v17) (Sl.o v19) (Sl.len v19) (Sl.cap v19) v21 v9 v11 v13 v15
                                                      (Sl.o v17) (Sl.len v17) (Sl.cap v17) (Sl.o v19) (Sl.len v19) (Sl.cap v19) v21)
                                                    v22
                  else none
            else none
else none := hide (by kernel_rfl)
theorem f8z6_f8e11 (y0 : Nat) (y1 : Option (Nat × Nat)) (y2 : Nat) (y3 : Option Nat) (y4 : Nat) (y5 : Bool) (y6 : Int) (y7 : Int) (y8 : Int) (y9 : ByteArray) (y10 : Option (Nat × Nat)) (y11 : Nat) (y12 : Option Nat) (y13 : Option (Nat × Nat)) (y14 : Nat) (y15 : Option Nat) (y16 : Bool) (y17 : Option (Nat × Nat)) (y18 : Nat) (y19 : Option Nat) (y20 : Option (Nat × Nat)) (y21 : ByteArray) (y22 : Int) (y23 : Int) (y24 : Int) (y25 : ByteArray) (y26 : Option (Nat × Nat)) (y27 : Nat) (y28 : Option Nat) (y29 : Option (Nat × Nat)) (y30 : Nat) (y31 : Option Nat) (y32 : Bool) (y33 : Int) (y34 : Int) (y35 : Int) (y36 : ByteArray) (y37 : Option (Nat × Nat)) (y38 : Nat) (y39 : Option Nat) (y40 : Option (Nat × Nat)) (y41 : Nat) (y42 : Option Nat) (y43 : Bool) : Ann.clr f8a6 (f8e11 y0 y1 y2 y3 y4 y5 y6 y7 y8 y9 y10 y11 y12 y13 y14 y15 y16 y17 y18 y19 y20 y21 y22 y23 y24 y25 y26 y27 y28 y29 y30 y31 y32 y33 y34 y35 y36 y37
  y38 y39 y40 y41 y42 y43) = f8e12 y0 y1 y2 y3 y4 y5 := hide (by kernel_rfl)
theorem f8n14 {R : Type} (call : Bool → CallF R) (dem : Bool) (N : Nat) (J : KF R) (e : Env) (σ : St) : runK Tryz.prog call dem N f8c14 f8a14 J e σ = runK Tryz.prog call dem N f8c15 f8a15 (seqC (fun K e σ => runK Tryz.prog call dem N f8c16 f8a16 K e σ) f8a14 J) e σ := runK_seq' (by kernel_rfl) (by kernel_rfl) (by kernel_rfl)
theorem f8n15 {R : Type} (call : Bool → CallF R) (dem : Bool) (N : Nat) (J : KF R) (e : Env) (σ : St) : runK Tryz.prog call dem N f8c15 f8a15 J e σ = runK Tryz.prog call dem N f8c17 f8a17 (seqC (fun K e σ => runK Tryz.prog call dem N f8c18 f8a18 K e σ) f8a15 J) e σ := runK_seq' (by kernel_rfl) (by kernel_rfl) (by kernel_rfl)
theorem f8r17_f8e12 {R : Type} (call : Bool → CallF R) (dem : Bool) (N : Nat) (y0 : Nat) (y1 : Option (Nat × Nat)) (y2 : Nat) (y3 : Option Nat) (y4 : Nat) (y5 : Bool) (J : KF R) (σ : St) :
    runK Tryz.prog call dem N f8c17 f8a17 J (f8e12 y0 y1 y2 y3 y4 y5) σ =
J Ex.normal (f8e13 y0 y1 y2 y3 y4 y5 y5 !y5) σ := hide (by kernel_rfl)
theorem f8z15_f8e13 (y0 : Nat) (y1 : Option (Nat × Nat)) (y2 : Nat) (y3 : Option Nat) (y4 : Nat) (y5 : Bool) (y6 : Bool) (y7 : Bool) : Ann.clr f8a15 (f8e13 y0 y1 y2 y3 y4 y5 y6 y7) = f8e14 y0 y1 y2 y3 y4 y7 := hide (by kernel_rfl)
theorem f8x18_f8e14 {R : Type} (call : Bool → CallF R) (dem : Bool) (N : Nat) (y0 : Nat) (y1 : Option (Nat × Nat)) (y2 : Nat) (y3 : Option Nat) (y4 : Nat) (y5 : Bool) (J : KF R) (σ : St) : runK Tryz.prog call dem N f8c18 f8a18 J (f8e14 y0 y1 y2 y3 y4 y5) σ = if y5 = true then runK Tryz.prog call dem N f8c19 f8a19 (condC f8a18 J) (f8e14 y0 y1 y2 y3 y4 y5) σ else runK Tryz.prog call dem N f8c20 f8a20 (condC f8a18 J) (f8e14 y0 y1 y2 y3 y4 y5) σ := runK_cond' (o := Operand.tmp (34 : Nat)) (by kernel_rfl) (by kernel_rfl) (by kernel_rfl) (by kernel_rfl)
theorem f8n19 {R : Type} (call : Bool → CallF R) (dem : Bool) (N : Nat) (J : KF R) (e : Env) (σ : St) : runK Tryz.prog call dem N f8c19 f8a19 J e σ = runK Tryz.prog call dem N f8c21 f8a21 (seqC (fun K e σ => runK Tryz.prog call dem N f8c22 f8a22 K e σ) f8a19 J) e σ := runK_seq' (by kernel_rfl) (by kernel_rfl) (by kernel_rfl)
theorem f8r21_f8e14 {R : Type} (call : Bool → CallF R) (dem : Bool) (N : Nat) (y0 : Nat) (y1 : Option (Nat × Nat)) (y2 : Nat) (y3 : Option Nat) (y4 : Nat) (y5 : Bool) (J : KF R) (σ : St) :
    runK Tryz.prog call dem N f8c21 f8a21 J (f8e14 y0 y1 y2 y3 y4 y5) σ =
Option.bind
  (St.st σ y0 (0 : Nat)
    [AV.int IntKind.i64 (0 : Int), AV.int IntKind.i64 (0 : Int), AV.int IntKind.i64 (0 : Int), AV.str (ByteArray.mk #[]),
      AV.slice none (0 : Nat) (some (0 : Nat)) (1 : Nat), AV.slice none (0 : Nat) (some (0 : Nat)) (12 : Nat)])
  fun v0 =>
  J Ex.normal
    (f8e15 y0 (0 : Int) (4 : Int) y1 y2 y3 y4 y5 (0 : Int) (0 : Int) (0 : Int) (ByteArray.mk #[]) none (0 : Nat) (some (0 : Nat)) none (0 : Nat)
      (some (0 : Nat)))
    v0 := hide (by kernel_rfl)
theorem f8z19_f8e15 (y0 : Nat) (y1 : Int) (y2 : Int) (y3 : Option (Nat × Nat)) (y4 : Nat) (y5 : Option Nat) (y6 : Nat) (y7 : Bool) (y8 : Int) (y9 : Int) (y10 : Int) (y11 : ByteArray) (y12 : Option (Nat × Nat)) (y13 : Nat) (y14 : Option Nat) (y15 : Option (Nat × Nat)) (y16 : Nat) (y17 : Option Nat) : Ann.clr f8a19 (f8e15 y0 y1 y2 y3 y4 y5 y6 y7 y8 y9 y10 y11 y12 y13 y14 y15 y16 y17) = f8e9 y0 y1 y2 := hide (by kernel_rfl)
theorem f8y22_f8e9 {R : Type} (call : Bool → CallF R) (dem : Bool) (N : Nat) (y0 : Nat) (y1 : Int) (y2 : Int) (J : KF R) (σ : St) : runK Tryz.prog call dem N f8c22 f8a22 J (f8e9 y0 y1 y2) σ = J .ret (f8e9 y0 y1 y2) σ := runK_ret' (by kernel_rfl) (by kernel_rfl)
theorem f8n20 {R : Type} (call : Bool → CallF R) (dem : Bool) (N : Nat) (J : KF R) (e : Env) (σ : St) : runK Tryz.prog call dem N f8c20 f8a20 J e σ = J .normal e σ := runK_skip' (by kernel_rfl)
theorem f8z18_f8e14 (y0 : Nat) (y1 : Option (Nat × Nat)) (y2 : Nat) (y3 : Option Nat) (y4 : Nat) (y5 : Bool) : Ann.clr f8a18 (f8e14 y0 y1 y2 y3 y4 y5) = f8e16 y0 y1 y2 y3 y4 := hide (by kernel_rfl)
theorem f8z14_f8e16 (y0 : Nat) (y1 : Option (Nat × Nat)) (y2 : Nat) (y3 : Option Nat) (y4 : Nat) : Ann.clr f8a14 (f8e16 y0 y1 y2 y3 y4) = f8e16 y0 y1 y2 y3 y4 := hide (by kernel_rfl)
theorem f8n16 {R : Type} (call : Bool → CallF R) (dem : Bool) (N : Nat) (J : KF R) (e : Env) (σ : St) : runK Tryz.prog call dem N f8c16 f8a16 J e σ = runK Tryz.prog call dem N f8c23 f8a23 (seqC (fun K e σ => runK Tryz.prog call dem N f8c24 f8a24 K e σ) f8a16 J) e σ := runK_seq' (by kernel_rfl) (by kernel_rfl) (by kernel_rfl)
theorem f8n23 {R : Type} (call : Bool → CallF R) (dem : Bool) (N : Nat) (J : KF R) (e : Env) (σ : St) : runK Tryz.prog call dem N f8c23 f8a23 J e σ = runK Tryz.prog call dem N f8c25 f8a25 (seqC (fun K e σ => runK Tryz.prog call dem N f8c26 f8a26 K e σ) f8a23 J) e σ := runK_seq' (by kernel_rfl) (by kernel_rfl) (by kernel_rfl)
theorem f8r25_f8e16 {R : Type} (call : Bool → CallF R) (dem : Bool) (N : Nat) (y0 : Nat) (y1 : Option (Nat × Nat)) (y2 : Nat) (y3 : Option Nat) (y4 : Nat) (J : KF R) (σ : St) :
    runK Tryz.prog call dem N f8c25 f8a25 J (f8e16 y0 y1 y2 y3 y4) σ =
Option.bind (Sl.sub (1 : Nat) (Sl.mk y1 y2 y3) (some (1 : Int)) none none) fun v0 =>
  J Ex.normal (f8e17 y0 y1 y2 y3 y4 y1 y2 y3 (Sl.o v0) (Sl.len v0) (Sl.cap v0) (↑(Sl.len v0) : Int) (0 : Int)) σ := hide (by kernel_rfl)
theorem f8z23_f8e17 (y0 : Nat) (y1 : Option (Nat × Nat)) (y2 : Nat) (y3 : Option Nat) (y4 : Nat) (y5 : Option (Nat × Nat)) (y6 : Nat) (y7 : Option Nat) (y8 : Option (Nat × Nat)) (y9 : Nat) (y10 : Option Nat) (y11 : Int) (y12 : Int) : Ann.clr f8a23 (f8e17 y0 y1 y2 y3 y4 y5 y6 y7 y8 y9 y10 y11 y12) = f8e18 y0 y4 y8 y9 y10 y11 y12 := hide (by kernel_rfl)
theorem f8n26 {R : Type} (call : Bool → CallF R) (dem : Bool) (N : Nat) (J : KF R) (e : Env) (σ : St) : runK Tryz.prog call dem N f8c26 f8a26 J e σ = runK Tryz.prog call dem N f8c27 f8a27 (blockC 0 f8a26 J) e σ := runK_block' (by kernel_rfl) (by kernel_rfl)
theorem f8L27_eq {R : Type} (call : Bool → CallF R) (dem : Bool) (N : Nat) (J : KF R) (e : Env) (σ : St) : f8L27 call dem N J e σ = runK Tryz.prog call dem N f8c28 f8a28 J e σ := hide rfl
theorem f8z27_f8e18 (y0 : Nat) (y1 : Nat) (y2 : Option (Nat × Nat)) (y3 : Nat) (y4 : Option Nat) (y5 : Int) (y6 : Int) : Ann.clr f8a27 (f8e18 y0 y1 y2 y3 y4 y5 y6) = f8e18 y0 y1 y2 y3 y4 y5 y6 := hide (by kernel_rfl)
theorem f8l27_f8e18 {R : Type} (call : Bool → CallF R) (dem : Bool) (N : Nat) (y0 : Nat) (y1 : Nat) (y2 : Option (Nat × Nat)) (y3 : Nat) (y4 : Option Nat) (y5 : Int) (y6 : Int) (J : KF R) (σ : St) : runK Tryz.prog call dem N f8c27 f8a27 J (f8e18 y0 y1 y2 y3 y4 y5 y6) σ = loopK (f8L27 call dem N) f8a27 N J (f8e18 y0 y1 y2 y3 y4 y5 y6) σ := runK_loop' (by kernel_rfl) (by kernel_rfl) (by kernel_rfl)
theorem f8n28 {R : Type} (call : Bool → CallF R) (dem : Bool) (N : Nat) (J : KF R) (e : Env) (σ : St) : runK Tryz.prog call dem N f8c28 f8a28 J e σ = runK Tryz.prog call dem N f8c29 f8a29 (seqC (fun K e σ => runK Tryz.prog call dem N f8c30 f8a30 K e σ) f8a28 J) e σ := runK_seq' (by kernel_rfl) (by kernel_rfl) (by kernel_rfl)
theorem f8r29_f8e18 {R : Type} (call : Bool → CallF R) (dem : Bool) (N : Nat) (y0 : Nat) (y1 : Nat) (y2 : Option (Nat × Nat)) (y3 : Nat) (y4 : Option Nat) (y5 : Int) (y6 : Int) (J : KF R) (σ : St) :
    runK Tryz.prog call dem N f8c29 f8a29 J (f8e18 y0 y1 y2 y3 y4 y5 y6) σ =
J Ex.normal (f8e19 y0 y1 y2 y3 y4 y5 y6 (decide (y6 < y5))) σ := hide (by kernel_rfl)
theorem f8z28_f8e19 (y0 : Nat) (y1 : Nat) (y2 : Option (Nat × Nat)) (y3 : Nat) (y4 : Option Nat) (y5 : Int) (y6 : Int) (y7 : Bool) : Ann.clr f8a28 (f8e19 y0 y1 y2 y3 y4 y5 y6 y7) = f8e19 y0 y1 y2 y3 y4 y5 y6 y7 := hide (by kernel_rfl)
theorem f8n30 {R : Type} (call : Bool → CallF R) (dem : Bool) (N : Nat) (J : KF R) (e : Env) (σ : St) : runK Tryz.prog call dem N f8c30 f8a30 J e σ = runK Tryz.prog call dem N f8c31 f8a31 (seqC (fun K e σ => runK Tryz.prog call dem N f8c32 f8a32 K e σ) f8a30 J) e σ := runK_seq' (by kernel_rfl) (by kernel_rfl) (by kernel_rfl)
theorem f8x31_f8e19 {R : Type} (call : Bool → CallF R) (dem : Bool) (N : Nat) (y0 : Nat) (y1 : Nat) (y2 : Option (Nat × Nat)) (y3 : Nat) (y4 : Option Nat) (y5 : Int) (y6 : Int) (y7 : Bool) (J : KF R) (σ : St) : runK Tryz.prog call dem N f8c31 f8a31 J (f8e19 y0 y1 y2 y3 y4 y5 y6 y7) σ = if y7 = true then runK Tryz.prog call dem N f8c33 f8a33 (condC f8a31 J) (f8e19 y0 y1 y2 y3 y4 y5 y6 y7) σ else runK Tryz.prog call dem N f8c34 f8a34 (condC f8a31 J) (f8e19 y0 y1 y2 y3 y4 y5 y6 y7) σ := runK_cond' (o := Operand.tmp (40 : Nat)) (by kernel_rfl) (by kernel_rfl) (by kernel_rfl) (by kernel_rfl)
theorem f8n33 {R : Type} (call : Bool → CallF R) (dem : Bool) (N : Nat) (J : KF R) (e : Env) (σ : St) : runK Tryz.prog call dem N f8c33 f8a33 J e σ = J .normal e σ := runK_skip' (by kernel_rfl)
theorem f8z31_f8e19 (y0 : Nat) (y1 : Nat) (y2 : Option (Nat × Nat)) (y3 : Nat) (y4 : Option Nat) (y5 : Int) (y6 : Int) (y7 : Bool) : Ann.clr f8a31 (f8e19 y0 y1 y2 y3 y4 y5 y6 y7) = f8e18 y0 y1 y2 y3 y4 y5 y6 := hide (by kernel_rfl)
theorem f8y34_f8e19 {R : Type} (call : Bool → CallF R) (dem : Bool) (N : Nat) (y0 : Nat) (y1 : Nat) (y2 : Option (Nat × Nat)) (y3 : Nat) (y4 : Option Nat) (y5 : Int) (y6 : Int) (y7 : Bool) (J : KF R) (σ : St) : runK Tryz.prog call dem N f8c34 f8a34 J (f8e19 y0 y1 y2 y3 y4 y5 y6 y7) σ = J (.exit 0) (f8e20 y0 y1) σ := runK_exit' (by kernel_rfl) (by kernel_rfl)
theorem f8z30_f8e18 (y0 : Nat) (y1 : Nat) (y2 : Option (Nat × Nat)) (y3 : Nat) (y4 : Option Nat) (y5 : Int) (y6 : Int) : Ann.clr f8a30 (f8e18 y0 y1 y2 y3 y4 y5 y6) = f8e18 y0 y1 y2 y3 y4 y5 y6 := hide (by kernel_rfl)
theorem f8n32 {R : Type} (call : Bool → CallF R) (dem : Bool) (N : Nat) (J : KF R) (e : Env) (σ : St) : runK Tryz.prog call dem N f8c32 f8a32 J e σ = runK Tryz.prog call dem N f8c35 f8a35 (seqC (fun K e σ => runK Tryz.prog call dem N f8c36 f8a36 K e σ) f8a32 J) e σ := runK_seq' (by kernel_rfl) (by kernel_rfl) (by kernel_rfl)
theorem f8n35 {R : Type} (call : Bool → CallF R) (dem : Bool) (N : Nat) (J : KF R) (e : Env) (σ : St) : runK Tryz.prog call dem N f8c35 f8a35 J e σ = runK Tryz.prog call dem N f8c37 f8a37 (blockC 1 f8a35 J) e σ := runK_block' (by kernel_rfl) (by kernel_rfl)
theorem f8n37 {R : Type} (call : Bool → CallF R) (dem : Bool) (N : Nat) (J : KF R) (e : Env) (σ : St) : runK Tryz.prog call dem N f8c37 f8a37 J e σ = runK Tryz.prog call dem N f8c38 f8a38 (seqC (fun K e σ => runK Tryz.prog call dem N f8c39 f8a39 K e σ) f8a37 J) e σ := runK_seq' (by kernel_rfl) (by kernel_rfl) (by kernel_rfl)
theorem f8r38_f8e18 {R : Type} (call : Bool → CallF R) (dem : Bool) (N : Nat) (y0 : Nat) (y1 : Nat) (y2 : Option (Nat × Nat)) (y3 : Nat) (y4 : Option Nat) (y5 : Int) (y6 : Int) (J : KF R) (σ : St) :
    runK Tryz.prog call dem N f8c38 f8a38 J (f8e18 y0 y1 y2 y3 y4 y5 y6) σ =
if (0 : Int) ≤ y6 ∧ y6 < (↑y3 : Int) then
  Option.bind y2 fun v0 =>
    Option.bind (St.ld σ (Prod.fst v0) (Prod.snd v0 + Int.toNat y6 * (1 : Nat))) fun v1 =>
      Option.bind (AV.toStr v1) fun v2 =>
        J Ex.normal (f8e21 y0 y1 y6 v2 y2 y3 y4 y5 y6 y6 (some (Prod.fst v0, Prod.snd v0 + Int.toNat y6 * (1 : Nat))) v2) σ
else none := hide (by kernel_rfl)
theorem f8z37_f8e21 (y0 : Nat) (y1 : Nat) (y2 : Int) (y3 : ByteArray) (y4 : Option (Nat × Nat)) (y5 : Nat) (y6 : Option Nat) (y7 : Int) (y8 : Int) (y9 : Int) (y10 : Option (Nat × Nat)) (y11 : ByteArray) : Ann.clr f8a37 (f8e21 y0 y1 y2 y3 y4 y5 y6 y7 y8 y9 y10 y11) = f8e22 y0 y1 y2 y3 y4 y5 y6 y7 y8 := hide (by kernel_rfl)
theorem f8n39 {R : Type} (call : Bool → CallF R) (dem : Bool) (N : Nat) (J : KF R) (e : Env) (σ : St) : runK Tryz.prog call dem N f8c39 f8a39 J e σ = runK Tryz.prog call dem N f8c40 f8a40 (seqC (fun K e σ => runK Tryz.prog call dem N f8c41 f8a41 K e σ) f8a39 J) e σ := runK_seq' (by kernel_rfl) (by kernel_rfl) (by kernel_rfl)
theorem f8n40 {R : Type} (call : Bool → CallF R) (dem : Bool) (N : Nat) (J : KF R) (e : Env) (σ : St) : runK Tryz.prog call dem N f8c40 f8a40 J e σ = runK Tryz.prog call dem N f8c42 f8a42 (seqC (fun K e σ => runK Tryz.prog call dem N f8c43 f8a43 K e σ) f8a40 J) e σ := runK_seq' (by kernel_rfl) (by kernel_rfl) (by kernel_rfl)
theorem f8r42_f8e22 {R : Type} (call : Bool → CallF R) (dem : Bool) (N : Nat) (y0 : Nat) (y1 : Nat) (y2 : Int) (y3 : ByteArray) (y4 : Option (Nat × Nat)) (y5 : Nat) (y6 : Option Nat) (y7 : Int) (y8 : Int) (J : KF R) (σ : St) :
    runK Tryz.prog call dem N f8c42 f8a42 J (f8e22 y0 y1 y2 y3 y4 y5 y6 y7 y8) σ =
J Ex.normal (f8e23 y0 y1 y2 y3 y4 y5 y6 y7 y8 y2 (y2 == (300 : Int))) σ := hide (by kernel_rfl)
theorem f8z40_f8e23 (y0 : Nat) (y1 : Nat) (y2 : Int) (y3 : ByteArray) (y4 : Option (Nat × Nat)) (y5 : Nat) (y6 : Option Nat) (y7 : Int) (y8 : Int) (y9 : Int) (y10 : Bool) : Ann.clr f8a40 (f8e23 y0 y1 y2 y3 y4 y5 y6 y7 y8 y9 y10) = f8e24 y0 y1 y2 y3 y4 y5 y6 y7 y8 y10 := hide (by kernel_rfl)
theorem f8x43_f8e24 {R : Type} (call : Bool → CallF R) (dem : Bool) (N : Nat) (y0 : Nat) (y1 : Nat) (y2 : Int) (y3 : ByteArray) (y4 : Option (Nat × Nat)) (y5 : Nat) (y6 : Option Nat) (y7 : Int) (y8 : Int) (y9 : Bool) (J : KF R) (σ : St) : runK Tryz.prog call dem N f8c43 f8a43 J (f8e24 y0 y1 y2 y3 y4 y5 y6 y7 y8 y9) σ = if y9 = true then runK Tryz.prog call dem N f8c44 f8a44 (condC f8a43 J) (f8e24 y0 y1 y2 y3 y4 y5 y6 y7 y8 y9) σ else runK Tryz.prog call dem N f8c45 f8a45 (condC f8a43 J) (f8e24 y0 y1 y2 y3 y4 y5 y6 y7 y8 y9) σ := runK_cond' (o := Operand.tmp (45 : Nat)) (by kernel_rfl) (by kernel_rfl) (by kernel_rfl) (by kernel_rfl)
theorem f8n44 {R : Type} (call : Bool → CallF R) (dem : Bool) (N : Nat) (J : KF R) (e : Env) (σ : St) : runK Tryz.prog call dem N f8c44 f8a44 J e σ = runK Tryz.prog call dem N f8c46 f8a46 (seqC (fun K e σ => runK Tryz.prog call dem N f8c47 f8a47 K e σ) f8a44 J) e σ := runK_seq' (by kernel_rfl) (by kernel_rfl) (by kernel_rfl)
theorem f8r46_f8e24 {R : Type} (call : Bool → CallF R) (dem : Bool) (N : Nat) (y0 : Nat) (y1 : Nat) (y2 : Int) (y3 : ByteArray) (y4 : Option (Nat × Nat)) (y5 : Nat) (y6 : Option Nat) (y7 : Int) (y8 : Int) (y9 : Bool) (J : KF R) (σ : St) :
    runK Tryz.prog call dem N f8c46 f8a46 J (f8e24 y0 y1 y2 y3 y4 y5 y6 y7 y8 y9) σ =
Option.bind
  (St.st σ y0 (0 : Nat)
    [AV.int IntKind.i64 (0 : Int), AV.int IntKind.i64 (0 : Int), AV.int IntKind.i64 (0 : Int), AV.str (ByteArray.mk #[]),
      AV.slice none (0 : Nat) (some (0 : Nat)) (1 : Nat), AV.slice none (0 : Nat) (some (0 : Nat)) (12 : Nat)])
  fun v0 =>
  J Ex.normal
    (f8e25 y0 (IntKind.wrap IntKind.i64 (y2 + (1 : Int))) (2 : Int) y1 y2 y3 y4 y5 y6 y7 y8 y9 (0 : Int) (0 : Int) (0 : Int) (ByteArray.mk #[]) none
      (0 : Nat) (some (0 : Nat)) none (0 : Nat) (some (0 : Nat)) y2 (IntKind.wrap IntKind.i64 (y2 + (1 : Int))))
    v0 := hide (by kernel_rfl)
theorem f8z44_f8e25 (y0 : Nat) (y1 : Int) (y2 : Int) (y3 : Nat) (y4 : Int) (y5 : ByteArray) (y6 : Option (Nat × Nat)) (y7 : Nat) (y8 : Option Nat) (y9 : Int) (y10 : Int) (y11 : Bool) (y12 : Int) (y13 : Int) (y14 : Int) (y15 : ByteArray) (y16 : Option (Nat × Nat)) (y17 : Nat) (y18 : Option Nat) (y19 : Option (Nat × Nat)) (y20 : Nat) (y21 : Option Nat) (y22 : Int) (y23 : Int) : Ann.clr f8a44 (f8e25 y0 y1 y2 y3 y4 y5 y6 y7 y8 y9 y10 y11 y12 y13 y14 y15 y16 y17 y18 y19 y20 y21 y22 y23) = f8e9 y0 y1 y2 := hide (by kernel_rfl)
theorem f8y47_f8e9 {R : Type} (call : Bool → CallF R) (dem : Bool) (N : Nat) (y0 : Nat) (y1 : Int) (y2 : Int) (J : KF R) (σ : St) : runK Tryz.prog call dem N f8c47 f8a47 J (f8e9 y0 y1 y2) σ = J .ret (f8e9 y0 y1 y2) σ := runK_ret' (by kernel_rfl) (by kernel_rfl)
theorem f8n45 {R : Type} (call : Bool → CallF R) (dem : Bool) (N : Nat) (J : KF R) (e : Env) (σ : St) : runK Tryz.prog call dem N f8c45 f8a45 J e σ = J .normal e σ := runK_skip' (by kernel_rfl)
theorem f8z43_f8e24 (y0 : Nat) (y1 : Nat) (y2 : Int) (y3 : ByteArray) (y4 : Option (Nat × Nat)) (y5 : Nat) (y6 : Option Nat) (y7 : Int) (y8 : Int) (y9 : Bool) : Ann.clr f8a43 (f8e24 y0 y1 y2 y3 y4 y5 y6 y7 y8 y9) = f8e22 y0 y1 y2 y3 y4 y5 y6 y7 y8 := hide (by kernel_rfl)
theorem f8z39_f8e22 (y0 : Nat) (y1 : Nat) (y2 : Int) (y3 : ByteArray) (y4 : Option (Nat × Nat)) (y5 : Nat) (y6 : Option Nat) (y7 : Int) (y8 : Int) : Ann.clr f8a39 (f8e22 y0 y1 y2 y3 y4 y5 y6 y7 y8) = f8e22 y0 y1 y2 y3 y4 y5 y6 y7 y8 := hide (by kernel_rfl)
theorem f8n41 {R : Type} (call : Bool → CallF R) (dem : Bool) (N : Nat) (J : KF R) (e : Env) (σ : St) : runK Tryz.prog call dem N f8c41 f8a41 J e σ = runK Tryz.prog call dem N f8c48 f8a48 (seqC (fun K e σ => runK Tryz.prog call dem N f8c49 f8a49 K e σ) f8a41 J) e σ := runK_seq' (by kernel_rfl) (by kernel_rfl) (by kernel_rfl)
theorem f8r48_f8e22 {R : Type} (call : Bool → CallF R) (dem : Bool) (N : Nat) (y0 : Nat) (y1 : Nat) (y2 : Int) (y3 : ByteArray) (y4 : Option (Nat × Nat)) (y5 : Nat) (y6 : Option Nat) (y7 : Int) (y8 : Int) (J : KF R) (σ : St) :
    runK Tryz.prog call dem N f8c48 f8a48 J (f8e22 y0 y1 y2 y3 y4 y5 y6 y7 y8) σ =
call dem (18 : Nat) [AV.str y3] σ fun v0 v1 =>
  Option.bind (AV.toTuple v0) fun v2 =>
    if List.length v2 = (2 : Nat) then
      Option.bind (List.head? v2) fun v3 =>
        Option.bind (AV.toAgg v3) fun v4 =>
          if List.length v4 = (12 : Nat) then
            Option.bind (List.head? v4) fun v5 =>
              Option.bind (AV.toInt IntKind.i64 v5) fun v6 =>
                Option.bind (List.head? (List.tail v4)) fun v7 =>
                  Option.bind (AV.toInt IntKind.i64 v7) fun v8 =>
                    Option.bind (List.head? (List.tail (List.tail v4))) fun v9 =>
                      Option.bind (AV.toInt IntKind.i64 v9) fun v10 =>
                        Option.bind (List.head? (List.tail (List.tail (List.tail v4)))) fun v11 =>
                          Option.bind (AV.toInt IntKind.i64 v11) fun v12 =>
                            Option.bind (List.head? (List.tail (List.tail (List.tail (List.tail v4))))) fun v13 =>
                              Option.bind (AV.toInt IntKind.i64 v13) fun v14 =>
                                Option.bind (List.head? (List.tail (List.tail (List.tail (List.tail (List.tail v4)))))) fun v15 =>
                                  Option.bind (AV.toInt IntKind.i64 v15) fun v16 =>
                                    Option.bind (List.head? (List.tail (List.tail (List.tail (List.tail (List.tail (List.tail v4))))))) fun v17 =>
                                      Option.bind (AV.toInt IntKind.i64 v17) fun v18 =>
                                        Option.bind
                                          (List.head? (List.tail (List.tail (List.tail (List.tail (List.tail (List.tail (List.tail v4))))))))
                                          fun v19 =>
                                          Option.bind (AV.toInt IntKind.i64 v19) fun v20 =>
                                            Option.bind
                                              (List.head?
                                                (List.tail (List.tail (List.tail (List.tail (List.tail (List.tail (List.tail (List.tail v4)))))))))
                                              fun v21 =>
                                              Option.bind (AV.toStr v21) fun v22 =>
                                                Option.bind
                                                  (List.head?
                                                    (List.tail
                                                      (List.tail
                                                        (List.tail (List.tail (List.tail (List.tail (List.tail (List.tail (List.tail v4))))))))))
                                                  fun v23 =>
                                                  Option.bind (AV.toStr v23) fun v24 =>
                                                    Option.bind
                                                      (List.head?
                                                        (List.tail
                                                          (List.tail
                                                            (List.tail
                                                              (List.tail
                                                                (List.tail (List.tail (List.tail (List.tail (List.tail (List.tail v4)))))))))))
                                                      fun v25 =>
                                                      Option.bind (AV.toStr v25) fun v26 =>
                                                        Option.bind
                                                          (List.head?
                                                            (List.tail
                                                              (List.tail
                                                                (List.tail
                                                                  (List.tail
                                                                    (List.tail
                                                                      (List.tail (List.tail (List.tail (List.tail (List.tail (List.tail v4))))))))))))
                                                          fun v27 =>
                                                          Option.bind (AV.toStr v27) fun v28 =>
                                                            Option.bind (List.head? (List.tail v2)) fun v29 =>
                                                              Option.bind (AV.toBool v29) fun v30 =>
                                                                Option.bind
                                                                  (St.st
                                                                    (St.new v1
                                                                      (Blk.cells
                                                                        [AV.int IntKind.i64 (0 : Int), AV.int IntKind.i64 (0 : Int),
                                                                          AV.int IntKind.i64 (0 : Int), AV.int IntKind.i64 (0 : Int),
                                                                          AV.int IntKind.i64 (0 : Int), AV.int IntKind.i64 (0 : Int),
                                                                          AV.int IntKind.i64 (0 : Int), AV.int IntKind.i64 (0 : Int),
                                                                          AV.str (ByteArray.mk #[]), AV.str (ByteArray.mk #[]),
                                                                          AV.str (ByteArray.mk #[]), AV.str (ByteArray.mk #[])]
                                                                        true))
                                                                    (St.next v1) (0 : Nat)
                                                                    [AV.int IntKind.i64 v6, AV.int IntKind.i64 v8, AV.int IntKind.i64 v10,
                                                                      AV.int IntKind.i64 v12, AV.int IntKind.i64 v14, AV.int IntKind.i64 v16,
                                                                      AV.int IntKind.i64 v18, AV.int IntKind.i64 v20, AV.str v22, AV.str v24,
                                                                      AV.str v26, AV.str v28])
                                                                  fun v31 =>
                                                                  J Ex.normal
                                                                    (f8e26 y0 y1 y2 y3 (St.next v1) v30 y4 y5 y6 y7 y8 v6 v8 v10 v12 v14 v16 v18 v20
                                                                      v22 v24 v26 v28 v30 y3 v6 v8 v10 v12 v14 v16 v18 v20 v22 v24 v26 v28 v30 v6 v8
                                                                      v10 v12 v14 v16 v18 v20 v22 v24 v26 v28 v30)
                                                                    v31
          else none
    else none := hide (by kernel_rfl)
theorem f8z41_f8e26 (y0 : Nat) (y1 : Nat) (y2 : Int) (y3 : ByteArray) (y4 : Nat) (y5 : Bool) (y6 : Option (Nat × Nat)) (y7 : Nat) (y8 : Option Nat) (y9 : Int) (y10 : Int) (y11 : Int) (y12 : Int) (y13 : Int) (y14 : Int) (y15 : Int) (y16 : Int) (y17 : Int) (y18 : Int) (y19 : ByteArray) (y20 : ByteArray) (y21 : ByteArray) (y22 : ByteArray) (y23 : Bool) (y24 : ByteArray) (y25 : Int) (y26 : Int) (y27 : Int) (y28 : Int) (y29 : Int) (y30 : Int) (y31 : Int) (y32 : Int) (y33 : ByteArray) (y34 : ByteArray) (y35 : ByteArray) (y36 : ByteArray) (y37 : Bool) (y38 : Int) (y39 : Int) (y40 : Int) (y41 : Int) (y42 : Int) (y43 : Int) (y44 : Int) (y45 : Int) (y46 : ByteArray) (y47 : ByteArray) (y48 : ByteArray) (y49 : ByteArray) (y50 : Bool) : Ann.clr f8a41 (f8e26 y0 y1 y2 y3 y4 y5 y6 y7 y8 y9 y10 y11 y12 y13 y14 y15 y16 y17 y18 y19 y20 y21 y22 y23 y24 y25 y26 y27 y28 y29 y30 y31 y32 y33 y34 y35 y36 y37
  y38 y39 y40 y41 y42 y43 y44 y45 y46 y47 y48 y49 y50) = f8e27 y0 y1 y2 y4 y5 y6 y7 y8 y9 y10 := hide (by kernel_rfl)
theorem f8n49 {R : Type} (call : Bool → CallF R) (dem : Bool) (N : Nat) (J : KF R) (e : Env) (σ : St) : runK Tryz.prog call dem N f8c49 f8a49 J e σ = runK Tryz.prog call dem N f8c50 f8a50 (seqC (fun K e σ => runK Tryz.prog call dem N f8c51 f8a51 K e σ) f8a49 J) e σ := runK_seq' (by kernel_rfl) (by kernel_rfl) (by kernel_rfl)
theorem f8n50 {R : Type} (call : Bool → CallF R) (dem : Bool) (N : Nat) (J : KF R) (e : Env) (σ : St) : runK Tryz.prog call dem N f8c50 f8a50 J e σ = runK Tryz.prog call dem N f8c52 f8a52 (seqC (fun K e σ => runK Tryz.prog call dem N f8c53 f8a53 K e σ) f8a50 J) e σ := runK_seq' (by kernel_rfl) (by kernel_rfl) (by kernel_rfl)
theorem f8r52_f8e27 {R : Type} (call : Bool → CallF R) (dem : Bool) (N : Nat) (y0 : Nat) (y1 : Nat) (y2 : Int) (y3 : Nat) (y4 : Bool) (y5 : Option (Nat × Nat)) (y6 : Nat) (y7 : Option Nat) (y8 : Int) (y9 : Int) (J : KF R) (σ : St) :
    runK Tryz.prog call dem N f8c52 f8a52 J (f8e27 y0 y1 y2 y3 y4 y5 y6 y7 y8 y9) σ =
J Ex.normal (f8e28 y0 y1 y2 y3 y4 y5 y6 y7 y8 y9 y4 !y4) σ := hide (by kernel_rfl)
theorem f8z50_f8e28 (y0 : Nat) (y1 : Nat) (y2 : Int) (y3 : Nat) (y4 : Bool) (y5 : Option (Nat × Nat)) (y6 : Nat) (y7 : Option Nat) (y8 : Int) (y9 : Int) (y10 : Bool) (y11 : Bool) : Ann.clr f8a50 (f8e28 y0 y1 y2 y3 y4 y5 y6 y7 y8 y9 y10 y11) = f8e29 y0 y1 y2 y3 y5 y6 y7 y8 y9 y11 := hide (by kernel_rfl)
theorem f8x53_f8e29 {R : Type} (call : Bool → CallF R) (dem : Bool) (N : Nat) (y0 : Nat) (y1 : Nat) (y2 : Int) (y3 : Nat) (y4 : Option (Nat × Nat)) (y5 : Nat) (y6 : Option Nat) (y7 : Int) (y8 : Int) (y9 : Bool) (J : KF R) (σ : St) : runK Tryz.prog call dem N f8c53 f8a53 J (f8e29 y0 y1 y2 y3 y4 y5 y6 y7 y8 y9) σ = if y9 = true then runK Tryz.prog call dem N f8c54 f8a54 (condC f8a53 J) (f8e29 y0 y1 y2 y3 y4 y5 y6 y7 y8 y9) σ else runK Tryz.prog call dem N f8c55 f8a55 (condC f8a53 J) (f8e29 y0 y1 y2 y3 y4 y5 y6 y7 y8 y9) σ := runK_cond' (o := Operand.tmp (55 : Nat)) (by kernel_rfl) (by kernel_rfl) (by kernel_rfl) (by kernel_rfl)
theorem f8n54 {R : Type} (call : Bool → CallF R) (dem : Bool) (N : Nat) (J : KF R) (e : Env) (σ : St) : runK Tryz.prog call dem N f8c54 f8a54 J e σ = runK Tryz.prog call dem N f8c56 f8a56 (seqC (fun K e σ => runK Tryz.prog call dem N f8c57 f8a57 K e σ) f8a54 J) e σ := runK_seq' (by kernel_rfl) (by kernel_rfl) (by kernel_rfl)
theorem f8r56_f8e29 {R : Type} (call : Bool → CallF R) (dem : Bool) (N : Nat) (y0 : Nat) (y1 : Nat) (y2 : Int) (y3 : Nat) (y4 : Option (Nat × Nat)) (y5 : Nat) (y6 : Option Nat) (y7 : Int) (y8 : Int) (y9 : Bool) (J : KF R) (σ : St) :
    runK Tryz.prog call dem N f8c56 f8a56 J (f8e29 y0 y1 y2 y3 y4 y5 y6 y7 y8 y9) σ =
Option.bind
  (St.st σ y0 (0 : Nat)
    [AV.int IntKind.i64 (0 : Int), AV.int IntKind.i64 (0 : Int), AV.int IntKind.i64 (0 : Int), AV.str (ByteArray.mk #[]),
      AV.slice none (0 : Nat) (some (0 : Nat)) (1 : Nat), AV.slice none (0 : Nat) (some (0 : Nat)) (12 : Nat)])
  fun v0 =>
  J Ex.normal
    (f8e30 y0 (IntKind.wrap IntKind.i64 (y2 + (1 : Int))) (4 : Int) y1 y2 y3 y4 y5 y6 y7 y8 y9 (0 : Int) (0 : Int) (0 : Int) (ByteArray.mk #[]) none
      (0 : Nat) (some (0 : Nat)) none (0 : Nat) (some (0 : Nat)) y2 (IntKind.wrap IntKind.i64 (y2 + (1 : Int))))
    v0 := hide (by kernel_rfl)
theorem f8z54_f8e30 (y0 : Nat) (y1 : Int) (y2 : Int) (y3 : Nat) (y4 : Int) (y5 : Nat) (y6 : Option (Nat × Nat)) (y7 : Nat) (y8 : Option Nat) (y9 : Int) (y10 : Int) (y11 : Bool) (y12 : Int) (y13 : Int) (y14 : Int) (y15 : ByteArray) (y16 : Option (Nat × Nat)) (y17 : Nat) (y18 : Option Nat) (y19 : Option (Nat × Nat)) (y20 : Nat) (y21 : Option Nat) (y22 : Int) (y23 : Int) : Ann.clr f8a54 (f8e30 y0 y1 y2 y3 y4 y5 y6 y7 y8 y9 y10 y11 y12 y13 y14 y15 y16 y17 y18 y19 y20 y21 y22 y23) = f8e9 y0 y1 y2 := hide (by kernel_rfl)
theorem f8y57_f8e9 {R : Type} (call : Bool → CallF R) (dem : Bool) (N : Nat) (y0 : Nat) (y1 : Int) (y2 : Int) (J : KF R) (σ : St) : runK Tryz.prog call dem N f8c57 f8a57 J (f8e9 y0 y1 y2) σ = J .ret (f8e9 y0 y1 y2) σ := runK_ret' (by kernel_rfl) (by kernel_rfl)
theorem f8n55 {R : Type} (call : Bool → CallF R) (dem : Bool) (N : Nat) (J : KF R) (e : Env) (σ : St) : runK Tryz.prog call dem N f8c55 f8a55 J e σ = J .normal e σ := runK_skip' (by kernel_rfl)
theorem f8z53_f8e29 (y0 : Nat) (y1 : Nat) (y2 : Int) (y3 : Nat) (y4 : Option (Nat × Nat)) (y5 : Nat) (y6 : Option Nat) (y7 : Int) (y8 : Int) (y9 : Bool) : Ann.clr f8a53 (f8e29 y0 y1 y2 y3 y4 y5 y6 y7 y8 y9) = f8e31 y0 y1 y3 y4 y5 y6 y7 y8 := hide (by kernel_rfl)
theorem f8z49_f8e31 (y0 : Nat) (y1 : Nat) (y2 : Nat) (y3 : Option (Nat × Nat)) (y4 : Nat) (y5 : Option Nat) (y6 : Int) (y7 : Int) : Ann.clr f8a49 (f8e31 y0 y1 y2 y3 y4 y5 y6 y7) = f8e31 y0 y1 y2 y3 y4 y5 y6 y7 := hide (by kernel_rfl)
theorem f8r51_f8e31 {R : Type} (call : Bool → CallF R) (dem : Bool) (N : Nat) (y0 : Nat) (y1 : Nat) (y2 : Nat) (y3 : Option (Nat × Nat)) (y4 : Nat) (y5 : Option Nat) (y6 : Int) (y7 : Int) (J : KF R) (σ : St) :
    runK Tryz.prog call dem N f8c51 f8a51 J (f8e31 y0 y1 y2 y3 y4 y5 y6 y7) σ =
Option.bind (St.ld σ y1 (5 : Nat)) fun v0 =>
  Option.bind (AV.toSl (12 : Nat) v0) fun v1 =>
    Option.bind (St.ld σ y2 (0 : Nat)) fun v2 =>
      Option.bind (AV.toInt IntKind.i64 v2) fun v3 =>
        Option.bind (St.ld σ y2 (1 : Nat)) fun v4 =>
          Option.bind (AV.toInt IntKind.i64 v4) fun v5 =>
            Option.bind (St.ld σ y2 (2 : Nat)) fun v6 =>
              Option.bind (AV.toInt IntKind.i64 v6) fun v7 =>
                Option.bind (St.ld σ y2 (3 : Nat)) fun v8 =>
                  Option.bind (AV.toInt IntKind.i64 v8) fun v9 =>
                    Option.bind (St.ld σ y2 (4 : Nat)) fun v10 =>
                      Option.bind (AV.toInt IntKind.i64 v10) fun v11 =>
                        Option.bind (St.ld σ y2 (5 : Nat)) fun v12 =>
                          Option.bind (AV.toInt IntKind.i64 v12) fun v13 =>
                            Option.bind (St.ld σ y2 (6 : Nat)) fun v14 =>
                              Option.bind (AV.toInt IntKind.i64 v14) fun v15 =>
                                Option.bind (St.ld σ y2 (7 : Nat)) fun v16 =>
                                  Option.bind (AV.toInt IntKind.i64 v16) fun v17 =>
                                    Option.bind (St.ld σ y2 (8 : Nat)) fun v18 =>
                                      Option.bind (AV.toStr v18) fun v19 =>
                                        Option.bind (St.ld σ y2 (9 : Nat)) fun v20 =>
                                          Option.bind (AV.toStr v20) fun v21 =>
                                            Option.bind (St.ld σ y2 (10 : Nat)) fun v22 =>
                                              Option.bind (AV.toStr v22) fun v23 =>
                                                Option.bind (St.ld σ y2 (11 : Nat)) fun v24 =>
                                                  Option.bind (AV.toStr v24) fun v25 =>
                                                    Option.bind
                                                      (St.elems
                                                        (St.new σ
                                                          (Blk.cells
                                                            [AV.int IntKind.i64 v3, AV.int IntKind.i64 v5, AV.int IntKind.i64 v7,
                                                              AV.int IntKind.i64 v9, AV.int IntKind.i64 v11, AV.int IntKind.i64 v13,
                                                              AV.int IntKind.i64 v15, AV.int IntKind.i64 v17, AV.str v19, AV.str v21, AV.str v23,
                                                              AV.str v25]
                                                            true))
                                                        (12 : Nat) (Sl.mk (some (St.next σ, (0 : Nat))) (1 : Nat) (some (1 : Nat))) (1 : Nat))
                                                      fun v26 =>
                                                      Option.bind
                                                        (St.app
                                                          (St.new σ
                                                            (Blk.cells
                                                              [AV.int IntKind.i64 v3, AV.int IntKind.i64 v5, AV.int IntKind.i64 v7,
                                                                AV.int IntKind.i64 v9, AV.int IntKind.i64 v11, AV.int IntKind.i64 v13,
                                                                AV.int IntKind.i64 v15, AV.int IntKind.i64 v17, AV.str v19, AV.str v21, AV.str v23,
                                                                AV.str v25]
                                                              true))
                                                          (12 : Nat) (128 : Nat) (Sl.mk (Sl.o v1) (Sl.len v1) (Sl.cap v1)) (1 : Nat) v26)
                                                        fun v27 =>
                                                        Option.bind
                                                          (St.st (Prod.snd v27) y1 (5 : Nat)
                                                            [AV.slice (Sl.o (Prod.fst v27)) (Sl.len (Prod.fst v27)) (Sl.cap (Prod.fst v27))
                                                                (12 : Nat)])
                                                          fun v28 =>
                                                          J Ex.normal
                                                            (f8e32 y0 y1 y2 y3 y4 y5 y6 y7 y1 (Sl.o v1) (Sl.len v1) (Sl.cap v1) v3 v5 v7 v9 v11 v13
                                                              v15 v17 v19 v21 v23 v25 (some (St.next σ, (0 : Nat))) (1 : Nat) (some (1 : Nat))
                                                              (Sl.o (Prod.fst v27)) (Sl.len (Prod.fst v27)) (Sl.cap (Prod.fst v27)) y1)
                                                            v28 := hide (by kernel_rfl)
theorem f8z35_f8e32 (y0 : Nat) (y1 : Nat) (y2 : Nat) (y3 : Option (Nat × Nat)) (y4 : Nat) (y5 : Option Nat) (y6 : Int) (y7 : Int) (y8 : Nat) (y9 : Option (Nat × Nat)) (y10 : Nat) (y11 : Option Nat) (y12 : Int) (y13 : Int) (y14 : Int) (y15 : Int) (y16 : Int) (y17 : Int) (y18 : Int) (y19 : Int) (y20 : ByteArray) (y21 : ByteArray) (y22 : ByteArray) (y23 : ByteArray) (y24 : Option (Nat × Nat)) (y25 : Nat) (y26 : Option Nat) (y27 : Option (Nat × Nat)) (y28 : Nat) (y29 : Option Nat) (y30 : Nat) : Ann.clr f8a35 (f8e32 y0 y1 y2 y3 y4 y5 y6 y7 y8 y9 y10 y11 y12 y13 y14 y15 y16 y17 y18 y19 y20 y21 y22 y23 y24 y25 y26 y27 y28 y29 y30) = f8e18 y0 y1 y3 y4 y5 y6 y7 := hide (by kernel_rfl)
theorem f8z32_f8e18 (y0 : Nat) (y1 : Nat) (y2 : Option (Nat × Nat)) (y3 : Nat) (y4 : Option Nat) (y5 : Int) (y6 : Int) : Ann.clr f8a32 (f8e18 y0 y1 y2 y3 y4 y5 y6) = f8e18 y0 y1 y2 y3 y4 y5 y6 := hide (by kernel_rfl)
theorem f8r36_f8e18 {R : Type} (call : Bool → CallF R) (dem : Bool) (N : Nat) (y0 : Nat) (y1 : Nat) (y2 : Option (Nat × Nat)) (y3 : Nat) (y4 : Option Nat) (y5 : Int) (y6 : Int) (J : KF R) (σ : St) :
    runK Tryz.prog call dem N f8c36 f8a36 J (f8e18 y0 y1 y2 y3 y4 y5 y6) σ =
J Ex.normal (f8e33 y0 y1 y2 y3 y4 y5 (IntKind.wrap IntKind.i64 (y6 + (1 : Int))) (IntKind.wrap IntKind.i64 (y6 + (1 : Int)))) σ := hide (by kernel_rfl)
theorem f8z27_f8e33 (y0 : Nat) (y1 : Nat) (y2 : Option (Nat × Nat)) (y3 : Nat) (y4 : Option Nat) (y5 : Int) (y6 : Int) (y7 : Int) : Ann.clr f8a27 (f8e33 y0 y1 y2 y3 y4 y5 y6 y7) = f8e18 y0 y1 y2 y3 y4 y5 y6 := hide (by kernel_rfl)
theorem f8z26_f8e20 (y0 : Nat) (y1 : Nat) : Ann.clr f8a26 (f8e20 y0 y1) = f8e20 y0 y1 := hide (by kernel_rfl)
theorem f8z16_f8e20 (y0 : Nat) (y1 : Nat) : Ann.clr f8a16 (f8e20 y0 y1) = f8e20 y0 y1 := hide (by kernel_rfl)
theorem f8n24 {R : Type} (call : Bool → CallF R) (dem : Bool) (N : Nat) (J : KF R) (e : Env) (σ : St) : runK Tryz.prog call dem N f8c24 f8a24 J e σ = runK Tryz.prog call dem N f8c58 f8a58 (seqC (fun K e σ => runK Tryz.prog call dem N f8c59 f8a59 K e σ) f8a24 J) e σ := runK_seq' (by kernel_rfl) (by kernel_rfl) (by kernel_rfl)
theorem f8r58_f8e20 {R : Type} (call : Bool → CallF R) (dem : Bool) (N : Nat) (y0 : Nat) (y1 : Nat) (J : KF R) (σ : St) :
    runK Tryz.prog call dem N f8c58 f8a58 J (f8e20 y0 y1) σ =
Option.bind (St.ld σ y1 (0 : Nat)) fun v0 =>
  Option.bind (AV.toInt IntKind.i64 v0) fun v1 =>
    Option.bind (St.ld σ y1 (1 : Nat)) fun v2 =>
      Option.bind (AV.toInt IntKind.i64 v2) fun v3 =>
        Option.bind (St.ld σ y1 (2 : Nat)) fun v4 =>
          Option.bind (AV.toInt IntKind.i64 v4) fun v5 =>
            Option.bind (St.ld σ y1 (3 : Nat)) fun v6 =>
              Option.bind (AV.toStr v6) fun v7 =>
                Option.bind (St.ld σ y1 (4 : Nat)) fun v8 =>
                  Option.bind (AV.toSl (1 : Nat) v8) fun v9 =>
                    Option.bind (St.ld σ y1 (5 : Nat)) fun v10 =>
                      Option.bind (AV.toSl (12 : Nat) v10) fun v11 =>
                        Option.bind
                          (St.st σ y0 (0 : Nat)
                            [AV.int IntKind.i64 v1, AV.int IntKind.i64 v3, AV.int IntKind.i64 v5, AV.str v7,
                              AV.slice (Sl.o v9) (Sl.len v9) (Sl.cap v9) (1 : Nat), AV.slice (Sl.o v11) (Sl.len v11) (Sl.cap v11) (12 : Nat)])
                          fun v12 =>
                          J Ex.normal
                            (f8e34 y0 (0 : Int) (0 : Int) y1 v1 v3 v5 v7 (Sl.o v9) (Sl.len v9) (Sl.cap v9) (Sl.o v11) (Sl.len v11) (Sl.cap v11)) v12 := hide (by kernel_rfl)
theorem f8z24_f8e34 (y0 : Nat) (y1 : Int) (y2 : Int) (y3 : Nat) (y4 : Int) (y5 : Int) (y6 : Int) (y7 : ByteArray) (y8 : Option (Nat × Nat)) (y9 : Nat) (y10 : Option Nat) (y11 : Option (Nat × Nat)) (y12 : Nat) (y13 : Option Nat) : Ann.clr f8a24 (f8e34 y0 y1 y2 y3 y4 y5 y6 y7 y8 y9 y10 y11 y12 y13) = f8e9 y0 y1 y2 := hide (by kernel_rfl)
theorem f8y59_f8e9 {R : Type} (call : Bool → CallF R) (dem : Bool) (N : Nat) (y0 : Nat) (y1 : Int) (y2 : Int) (J : KF R) (σ : St) : runK Tryz.prog call dem N f8c59 f8a59 J (f8e9 y0 y1 y2) σ = J .ret (f8e9 y0 y1 y2) σ := runK_ret' (by kernel_rfl) (by kernel_rfl)
theorem f8b_f8e9_r {R : Type} (y0 : Nat) (y1 : Int) (y2 : Int) (σ : St) (K : AV → St → Option R) : bodyC Tryz.prog f8rs K (Ex.ret) (f8e9 y0 y1 y2) σ =
Option.bind (St.ld σ y0 (0 : Nat)) fun v0 =>
  Option.bind (AV.toInt IntKind.i64 v0) fun v1 =>
    Option.bind (St.ld σ y0 (1 : Nat)) fun v2 =>
      Option.bind (AV.toInt IntKind.i64 v2) fun v3 =>
        Option.bind (St.ld σ y0 (2 : Nat)) fun v4 =>
          Option.bind (AV.toInt IntKind.i64 v4) fun v5 =>
            Option.bind (St.ld σ y0 (3 : Nat)) fun v6 =>
              Option.bind (AV.toStr v6) fun v7 =>
                Option.bind (St.ld σ y0 (4 : Nat)) fun v8 =>
                  Option.bind (AV.toSl (1 : Nat) v8) fun v9 =>
                    Option.bind (St.ld σ y0 (5 : Nat)) fun v10 =>
                      Option.bind (AV.toSl (12 : Nat) v10) fun v11 =>
                        K
                          (AV.tuple
                            [AV.agg
                                [AV.int IntKind.i64 v1, AV.int IntKind.i64 v3, AV.int IntKind.i64 v5, AV.str v7,
                                  AV.slice (Sl.o v9) (Sl.len v9) (Sl.cap v9) (1 : Nat), AV.slice (Sl.o v11) (Sl.len v11) (Sl.cap v11) (12 : Nat)],
                              AV.int IntKind.i64 y1, AV.int IntKind.i64 y2])
                          σ := hide (by kernel_rfl)
attribute [go_sem] f8_eq f8n0 f8r1_f8e0 f8z0_f8e1 f8n2 f8r3_f8e2 f8z2_f8e3 f8n4 f8n5 f8r7_f8e4 f8z5_f8e5 f8x8_f8e7 f8n9 f8r11_f8e7 f8z9_f8e8 f8y12_f8e9 f8n10 f8z8_f8e7 f8z5_f8e6 f8z4_f8e10 f8n6 f8r13_f8e10 f8z6_f8e11 f8n14 f8n15 f8r17_f8e12 f8z15_f8e13 f8x18_f8e14 f8n19 f8r21_f8e14 f8z19_f8e15 f8y22_f8e9 f8n20 f8z18_f8e14 f8z14_f8e16 f8n16 f8n23 f8r25_f8e16 f8z23_f8e17 f8n26 f8L27_eq f8z27_f8e18 f8l27_f8e18 f8n28 f8r29_f8e18 f8z28_f8e19 f8n30 f8x31_f8e19 f8n33 f8z31_f8e19 f8y34_f8e19 f8z30_f8e18 f8n32 f8n35 f8n37 f8r38_f8e18 f8z37_f8e21 f8n39 f8n40 f8r42_f8e22 f8z40_f8e23 f8x43_f8e24 f8n44 f8r46_f8e24 f8z44_f8e25 f8y47_f8e9 f8n45 f8z43_f8e24 f8z39_f8e22 f8n41 f8r48_f8e22 f8z41_f8e26 f8n49 f8n50 f8r52_f8e27 f8z50_f8e28 f8x53_f8e29 f8n54 f8r56_f8e29 f8z54_f8e30 f8y57_f8e9 f8n55 f8z53_f8e29 f8z49_f8e31 f8r51_f8e31 f8z35_f8e32 f8z32_f8e18 f8r36_f8e18 f8z27_f8e33 f8z26_f8e20 f8z16_f8e20 f8n24 f8r58_f8e20 f8z24_f8e34 f8y59_f8e9 f8b_f8e9_r

noncomputable def f17rs : List ResultVar := [ResultVar.cell (2 : Nat) (27 : Nat), ResultVar.tmp (3 : Nat)]
noncomputable def f17c0 : Code := subCode [] (bodyOf Tryz.prog 17)
def f17a0 : Ann := subAnn [] ann17
noncomputable def f17c1 : Code := subCode [0] (bodyOf Tryz.prog 17)
def f17a1 : Ann := subAnn [0] ann17
noncomputable def f17c2 : Code := subCode [1] (bodyOf Tryz.prog 17)
def f17a2 : Ann := subAnn [1] ann17
noncomputable def f17c3 : Code := subCode [1, 0] (bodyOf Tryz.prog 17)
def f17a3 : Ann := subAnn [1, 0] ann17
noncomputable def f17c4 : Code := subCode [1, 1] (bodyOf Tryz.prog 17)
def f17a4 : Ann := subAnn [1, 1] ann17
noncomputable def f17c5 : Code := subCode [1, 1, 0] (bodyOf Tryz.prog 17)
def f17a5 : Ann := subAnn [1, 1, 0] ann17
noncomputable def f17c6 : Code := subCode [1, 1, 1] (bodyOf Tryz.prog 17)
def f17a6 : Ann := subAnn [1, 1, 1] ann17
noncomputable def f17c7 : Code := subCode [1, 1, 0, 0] (bodyOf Tryz.prog 17)
def f17a7 : Ann := subAnn [1, 1, 0, 0] ann17
noncomputable def f17c8 : Code := subCode [1, 1, 0, 1] (bodyOf Tryz.prog 17)
def f17a8 : Ann := subAnn [1, 1, 0, 1] ann17
noncomputable def f17c9 : Code := subCode [1, 1, 0, 1, 0] (bodyOf Tryz.prog 17)
def f17a9 : Ann := subAnn [1, 1, 0, 1, 0] ann17
noncomputable def f17c10 : Code := subCode [1, 1, 0, 1, 1] (bodyOf Tryz.prog 17)
def f17a10 : Ann := subAnn [1, 1, 0, 1, 1] ann17
noncomputable def f17c11 : Code := subCode [1, 1, 0, 1, 0, 0] (bodyOf Tryz.prog 17)
def f17a11 : Ann := subAnn [1, 1, 0, 1, 0, 0] ann17
noncomputable def f17c12 : Code := subCode [1, 1, 0, 1, 0, 1] (bodyOf Tryz.prog 17)
def f17a12 : Ann := subAnn [1, 1, 0, 1, 0, 1] ann17
noncomputable def f17c13 : Code := subCode [1, 1, 1, 0] (bodyOf Tryz.prog 17)
def f17a13 : Ann := subAnn [1, 1, 1, 0] ann17
noncomputable def f17c14 : Code := subCode [1, 1, 1, 1] (bodyOf Tryz.prog 17)
def f17a14 : Ann := subAnn [1, 1, 1, 1] ann17
noncomputable def f17c15 : Code := subCode [1, 1, 1, 1, 0] (bodyOf Tryz.prog 17)
def f17a15 : Ann := subAnn [1, 1, 1, 1, 0] ann17
noncomputable def f17c16 : Code := subCode [1, 1, 1, 1, 1] (bodyOf Tryz.prog 17)
def f17a16 : Ann := subAnn [1, 1, 1, 1, 1] ann17
noncomputable def f17c17 : Code := subCode [1, 1, 1, 1, 0, 0] (bodyOf Tryz.prog 17)
def f17a17 : Ann := subAnn [1, 1, 1, 1, 0, 0] ann17
noncomputable def f17c18 : Code := subCode [1, 1, 1, 1, 0, 1] (bodyOf Tryz.prog 17)
def f17a18 : Ann := subAnn [1, 1, 1, 1, 0, 1] ann17
noncomputable def f17c19 : Code := subCode [1, 1, 1, 1, 0, 1, 0] (bodyOf Tryz.prog 17)
def f17a19 : Ann := subAnn [1, 1, 1, 1, 0, 1, 0] ann17
noncomputable def f17c20 : Code := subCode [1, 1, 1, 1, 0, 1, 0, 0] (bodyOf Tryz.prog 17)
def f17a20 : Ann := subAnn [1, 1, 1, 1, 0, 1, 0, 0] ann17
noncomputable def f17c21 : Code := subCode [1, 1, 1, 1, 0, 1, 0, 0, 0] (bodyOf Tryz.prog 17)
def f17a21 : Ann := subAnn [1, 1, 1, 1, 0, 1, 0, 0, 0] ann17
noncomputable def f17c22 : Code := subCode [1, 1, 1, 1, 0, 1, 0, 0, 1] (bodyOf Tryz.prog 17)
def f17a22 : Ann := subAnn [1, 1, 1, 1, 0, 1, 0, 0, 1] ann17
noncomputable def f17c23 : Code := subCode [1, 1, 1, 1, 0, 1, 0, 0, 1, 0] (bodyOf Tryz.prog 17)
def f17a23 : Ann := subAnn [1, 1, 1, 1, 0, 1, 0, 0, 1, 0] ann17
noncomputable def f17c24 : Code := subCode [1, 1, 1, 1, 0, 1, 0, 0, 1, 1] (bodyOf Tryz.prog 17)
def f17a24 : Ann := subAnn [1, 1, 1, 1, 0, 1, 0, 0, 1, 1] ann17
noncomputable def f17c25 : Code := subCode [1, 1, 1, 1, 0, 1, 0, 0, 1, 0, 0] (bodyOf Tryz.prog 17)
def f17a25 : Ann := subAnn [1, 1, 1, 1, 0, 1, 0, 0, 1, 0, 0] ann17
noncomputable def f17c26 : Code := subCode [1, 1, 1, 1, 0, 1, 0, 0, 1, 0, 1] (bodyOf Tryz.prog 17)
def f17a26 : Ann := subAnn [1, 1, 1, 1, 0, 1, 0, 0, 1, 0, 1] ann17
noncomputable def f17c27 : Code := subCode [1, 1, 1, 1, 0, 1, 0, 0, 1, 1, 0] (bodyOf Tryz.prog 17)
def f17a27 : Ann := subAnn [1, 1, 1, 1, 0, 1, 0, 0, 1, 1, 0] ann17
noncomputable def f17c28 : Code := subCode [1, 1, 1, 1, 0, 1, 0, 0, 1, 1, 1] (bodyOf Tryz.prog 17)
def f17a28 : Ann := subAnn [1, 1, 1, 1, 0, 1, 0, 0, 1, 1, 1] ann17
noncomputable def f17c29 : Code := subCode [1, 1, 1, 1, 0, 1, 0, 0, 1, 1, 0, 0] (bodyOf Tryz.prog 17)
def f17a29 : Ann := subAnn [1, 1, 1, 1, 0, 1, 0, 0, 1, 1, 0, 0] ann17
noncomputable def f17c30 : Code := subCode [1, 1, 1, 1, 0, 1, 0, 0, 1, 1, 0, 0, 0] (bodyOf Tryz.prog 17)
def f17a30 : Ann := subAnn [1, 1, 1, 1, 0, 1, 0, 0, 1, 1, 0, 0, 0] ann17
noncomputable def f17c31 : Code := subCode [1, 1, 1, 1, 0, 1, 0, 0, 1, 1, 0, 0, 1] (bodyOf Tryz.prog 17)
def f17a31 : Ann := subAnn [1, 1, 1, 1, 0, 1, 0, 0, 1, 1, 0, 0, 1] ann17
noncomputable def f17c32 : Code := subCode [1, 1, 1, 1, 1, 0] (bodyOf Tryz.prog 17)
def f17a32 : Ann := subAnn [1, 1, 1, 1, 1, 0] ann17
noncomputable def f17c33 : Code := subCode [1, 1, 1, 1, 1, 1] (bodyOf Tryz.prog 17)
def f17a33 : Ann := subAnn [1, 1, 1, 1, 1, 1] ann17
noncomputable def f17c34 : Code := subCode [1, 1, 1, 1, 1, 1, 0] (bodyOf Tryz.prog 17)
def f17a34 : Ann := subAnn [1, 1, 1, 1, 1, 1, 0] ann17
noncomputable def f17c35 : Code := subCode [1, 1, 1, 1, 1, 1, 1] (bodyOf Tryz.prog 17)
def f17a35 : Ann := subAnn [1, 1, 1, 1, 1, 1, 1] ann17
noncomputable def f17c36 : Code := subCode [1, 1, 1, 1, 1, 1, 0, 0] (bodyOf Tryz.prog 17)
def f17a36 : Ann := subAnn [1, 1, 1, 1, 1, 1, 0, 0] ann17
noncomputable def f17c37 : Code := subCode [1, 1, 1, 1, 1, 1, 0, 1] (bodyOf Tryz.prog 17)
def f17a37 : Ann := subAnn [1, 1, 1, 1, 1, 1, 0, 1] ann17
noncomputable def f17c38 : Code := subCode [1, 1, 1, 1, 1, 1, 0, 1, 0] (bodyOf Tryz.prog 17)
def f17a38 : Ann := subAnn [1, 1, 1, 1, 1, 1, 0, 1, 0] ann17
noncomputable def f17c39 : Code := subCode [1, 1, 1, 1, 1, 1, 0, 1, 0, 0] (bodyOf Tryz.prog 17)
def f17a39 : Ann := subAnn [1, 1, 1, 1, 1, 1, 0, 1, 0, 0] ann17
noncomputable def f17c40 : Code := subCode [1, 1, 1, 1, 1, 1, 0, 1, 0, 0, 0] (bodyOf Tryz.prog 17)
def f17a40 : Ann := subAnn [1, 1, 1, 1, 1, 1, 0, 1, 0, 0, 0] ann17
noncomputable def f17c41 : Code := subCode [1, 1, 1, 1, 1, 1, 0, 1, 0, 0, 1] (bodyOf Tryz.prog 17)
def f17a41 : Ann := subAnn [1, 1, 1, 1, 1, 1, 0, 1, 0, 0, 1] ann17
noncomputable def f17c42 : Code := subCode [1, 1, 1, 1, 1, 1, 0, 1, 0, 0, 1, 0] (bodyOf Tryz.prog 17)
def f17a42 : Ann := subAnn [1, 1, 1, 1, 1, 1, 0, 1, 0, 0, 1, 0] ann17
noncomputable def f17c43 : Code := subCode [1, 1, 1, 1, 1, 1, 0, 1, 0, 0, 1, 1] (bodyOf Tryz.prog 17)
def f17a43 : Ann := subAnn [1, 1, 1, 1, 1, 1, 0, 1, 0, 0, 1, 1] ann17
noncomputable def f17c44 : Code := subCode [1, 1, 1, 1, 1, 1, 0, 1, 0, 0, 1, 0, 0] (bodyOf Tryz.prog 17)
def f17a44 : Ann := subAnn [1, 1, 1, 1, 1, 1, 0, 1, 0, 0, 1, 0, 0] ann17
noncomputable def f17c45 : Code := subCode [1, 1, 1, 1, 1, 1, 0, 1, 0, 0, 1, 0, 1] (bodyOf Tryz.prog 17)
def f17a45 : Ann := subAnn [1, 1, 1, 1, 1, 1, 0, 1, 0, 0, 1, 0, 1] ann17
noncomputable def f17c46 : Code := subCode [1, 1, 1, 1, 1, 1, 0, 1, 0, 0, 1, 1, 0] (bodyOf Tryz.prog 17)
def f17a46 : Ann := subAnn [1, 1, 1, 1, 1, 1, 0, 1, 0, 0, 1, 1, 0] ann17
noncomputable def f17c47 : Code := subCode [1, 1, 1, 1, 1, 1, 0, 1, 0, 0, 1, 1, 1] (bodyOf Tryz.prog 17)
def f17a47 : Ann := subAnn [1, 1, 1, 1, 1, 1, 0, 1, 0, 0, 1, 1, 1] ann17
noncomputable def f17c48 : Code := subCode [1, 1, 1, 1, 1, 1, 0, 1, 0, 0, 1, 1, 0, 0] (bodyOf Tryz.prog 17)
def f17a48 : Ann := subAnn [1, 1, 1, 1, 1, 1, 0, 1, 0, 0, 1, 1, 0, 0] ann17
noncomputable def f17c49 : Code := subCode [1, 1, 1, 1, 1, 1, 0, 1, 0, 0, 1, 1, 0, 0, 0] (bodyOf Tryz.prog 17)
def f17a49 : Ann := subAnn [1, 1, 1, 1, 1, 1, 0, 1, 0, 0, 1, 1, 0, 0, 0] ann17
noncomputable def f17c50 : Code := subCode [1, 1, 1, 1, 1, 1, 0, 1, 0, 0, 1, 1, 0, 0, 1] (bodyOf Tryz.prog 17)
def f17a50 : Ann := subAnn [1, 1, 1, 1, 1, 1, 0, 1, 0, 0, 1, 1, 0, 0, 1] ann17
noncomputable def f17c51 : Code := subCode [1, 1, 1, 1, 1, 1, 0, 1, 0, 0, 1, 1, 0, 0, 1, 0] (bodyOf Tryz.prog 17)
def f17a51 : Ann := subAnn [1, 1, 1, 1, 1, 1, 0, 1, 0, 0, 1, 1, 0, 0, 1, 0] ann17
noncomputable def f17c52 : Code := subCode [1, 1, 1, 1, 1, 1, 0, 1, 0, 0, 1, 1, 0, 0, 1, 1] (bodyOf Tryz.prog 17)
def f17a52 : Ann := subAnn [1, 1, 1, 1, 1, 1, 0, 1, 0, 0, 1, 1, 0, 0, 1, 1] ann17
noncomputable def f17c53 : Code := subCode [1, 1, 1, 1, 1, 1, 1, 0] (bodyOf Tryz.prog 17)
def f17a53 : Ann := subAnn [1, 1, 1, 1, 1, 1, 1, 0] ann17
noncomputable def f17c54 : Code := subCode [1, 1, 1, 1, 1, 1, 1, 1] (bodyOf Tryz.prog 17)
def f17a54 : Ann := subAnn [1, 1, 1, 1, 1, 1, 1, 1] ann17
noncomputable def f17L19 {R : Type} (call : Bool → CallF R) (dem : Bool) (N : Nat) : KF R → Env → St → Option R := fun K e σ => runK Tryz.prog call dem N f17c20 f17a20 K e σ
noncomputable def f17L38 {R : Type} (call : Bool → CallF R) (dem : Bool) (N : Nat) : KF R → Env → St → Option R := fun K e σ => runK Tryz.prog call dem N f17c39 f17a39 K e σ
def f17e0 (y0 : ByteArray) : Env := AV.str y0 :: Env.sp 82 []
def f17e1 (y0 : ByteArray) (y1 : Nat) (y2 : Bool) : Env := AV.str y0 :: Env.sp 1 (AV.ptr (some (y1, (0 : Nat))) :: AV.bool y2 :: Env.sp 79 [])
def f17e2 (y0 : ByteArray) (y1 : Nat) : Env := AV.str y0 :: Env.sp 1 (AV.ptr (some (y1, (0 : Nat))) :: Env.sp 80 [])
def f17e3 (y0 : ByteArray) (y1 : Nat) (y2 : Option (Nat × Nat)) (y3 : Nat) (y4 : Option Nat) (y5 : Int) (y6 : Option (Nat × Nat)) (y7 : Nat) (y8 : Option Nat) (y9 : Int) (y10 : ByteArray) (y11 : Option (Nat × Nat)) (y12 : Nat) (y13 : Option Nat) (y14 : Int) (y15 : Option (Nat × Nat)) (y16 : Nat) (y17 : Option Nat) (y18 : Int) : Env := AV.str y0 :: Env.sp 1 (AV.ptr (some (y1, (0 : Nat))) :: Env.sp 1 (AV.slice y2 y3 y4 (1 : Nat) :: AV.int IntKind.i64 y5 :: Env.sp 7 (AV.tuple [AV.slice y6 y7 y8 (1 : Nat), AV.int IntKind.i64 y9] :: AV.str y10 :: AV.tuple [AV.slice y11 y12 y13 (1 : Nat), AV.int IntKind.i64 y14] :: AV.slice y15 y16 y17 (1 : Nat) :: AV.int IntKind.i64 y18 :: Env.sp 65 [])))
def f17e4 (y0 : ByteArray) (y1 : Nat) (y2 : Option (Nat × Nat)) (y3 : Nat) (y4 : Option Nat) (y5 : Int) : Env := AV.str y0 :: Env.sp 1 (AV.ptr (some (y1, (0 : Nat))) :: Env.sp 1 (AV.slice y2 y3 y4 (1 : Nat) :: AV.int IntKind.i64 y5 :: Env.sp 77 []))
def f17e5 (y0 : ByteArray) (y1 : Nat) (y2 : Option (Nat × Nat)) (y3 : Nat) (y4 : Option Nat) (y5 : Int) (y6 : Int) (y7 : Bool) (y8 : Bool) (y9 : Bool) : Env := AV.str y0 :: Env.sp 1 (AV.ptr (some (y1, (0 : Nat))) :: Env.sp 1 (AV.slice y2 y3 y4 (1 : Nat) :: AV.int IntKind.i64 y5 :: Env.sp 12 (AV.int IntKind.i64 y6 :: AV.bool y7 :: AV.bool y8 :: AV.tuple [] :: AV.tuple [] :: AV.tuple [] :: AV.bool y9 :: Env.sp 58 [])))
def f17e6 (y0 : ByteArray) (y1 : Nat) (y2 : Option (Nat × Nat)) (y3 : Nat) (y4 : Option Nat) (y5 : Int) (y6 : Int) (y7 : Bool) (y8 : Bool) (y9 : Option (Nat × Nat)) (y10 : Nat) (y11 : Option Nat) (y12 : Int) (y13 : Bool) (y14 : Bool) : Env := AV.str y0 :: Env.sp 1 (AV.ptr (some (y1, (0 : Nat))) :: Env.sp 1 (AV.slice y2 y3 y4 (1 : Nat) :: AV.int IntKind.i64 y5 :: Env.sp 12 (AV.int IntKind.i64 y6 :: AV.bool y7 :: AV.bool y8 :: AV.slice y9 y10 y11 (1 : Nat) :: AV.int IntKind.i64 y12 :: AV.bool y13 :: AV.bool y14 :: Env.sp 58 [])))
def f17e7 (y0 : ByteArray) (y1 : Nat) (y2 : Option (Nat × Nat)) (y3 : Nat) (y4 : Option Nat) (y5 : Bool) : Env := AV.str y0 :: Env.sp 1 (AV.ptr (some (y1, (0 : Nat))) :: Env.sp 1 (AV.slice y2 y3 y4 (1 : Nat) :: Env.sp 19 (AV.bool y5 :: Env.sp 58 [])))
def f17e8 (y0 : ByteArray) (y1 : Nat) (y2 : Bool) (y3 : Option (Nat × Nat)) (y4 : Nat) (y5 : Option Nat) (y6 : Bool) (y7 : Int) (y8 : Int) (y9 : Int) (y10 : ByteArray) (y11 : Option (Nat × Nat)) (y12 : Nat) (y13 : Option Nat) (y14 : Option (Nat × Nat)) (y15 : Nat) (y16 : Option Nat) : Env := AV.str y0 :: Env.sp 1 (AV.ptr (some (y1, (0 : Nat))) :: AV.bool y2 :: AV.slice y3 y4 y5 (1 : Nat) :: Env.sp 19 (AV.bool y6 :: AV.agg
  [AV.int IntKind.i64 y7, AV.int IntKind.i64 y8, AV.int IntKind.i64 y9, AV.str y10, AV.slice y11 y12 y13 (1 : Nat), AV.slice y14 y15 y16 (12 : Nat)] :: Env.sp 57 []))
def f17e9 (y0 : Nat) (y1 : Bool) : Env := Env.sp 2 (AV.ptr (some (y0, (0 : Nat))) :: AV.bool y1 :: Env.sp 79 [])
def f17e10 (y0 : ByteArray) (y1 : Nat) (y2 : Option (Nat × Nat)) (y3 : Nat) (y4 : Option Nat) : Env := AV.str y0 :: Env.sp 1 (AV.ptr (some (y1, (0 : Nat))) :: Env.sp 1 (AV.slice y2 y3 y4 (1 : Nat) :: Env.sp 78 []))
def f17e11 (y0 : ByteArray) (y1 : Nat) (y2 : Option (Nat × Nat)) (y3 : Nat) (y4 : Option Nat) (y5 : Nat) : Env := AV.str y0 :: Env.sp 1 (AV.ptr (some (y1, (0 : Nat))) :: Env.sp 1 (AV.slice y2 y3 y4 (1 : Nat) :: Env.sp 1 (AV.ptr (some (y5, (0 : Nat))) :: Env.sp 76 [])))
def f17e12 (y0 : ByteArray) (y1 : Nat) (y2 : Option (Nat × Nat)) (y3 : Nat) (y4 : Option Nat) (y5 : Nat) (y6 : Nat) (y7 : Nat) (y8 : Nat) (y9 : Nat) (y10 : Nat) (y11 : Nat) (y12 : Option (Nat × Nat)) (y13 : Nat) (y14 : Option Nat) (y15 : Int) (y16 : Int) : Env := AV.str y0 :: Env.sp 1 (AV.ptr (some (y1, (0 : Nat))) :: Env.sp 1 (AV.slice y2 y3 y4 (1 : Nat) :: Env.sp 1 (AV.ptr (some (y5, (0 : Nat))) :: Env.sp 19 (AV.ptr (some (y6, (0 : Nat))) :: AV.ptr (some (y7, (0 : Nat))) :: AV.ptr (some (y8, (0 : Nat))) :: AV.ptr (some (y9, (1 : Nat))) :: AV.ptr (some (y10, (0 : Nat))) :: AV.ptr (some (y11, (2 : Nat))) :: AV.slice y12 y13 y14 (1 : Nat) :: AV.int IntKind.i64 y15 :: AV.int IntKind.i64 y16 :: Env.sp 48 []))))
def f17e13 (y0 : ByteArray) (y1 : Nat) (y2 : Option (Nat × Nat)) (y3 : Nat) (y4 : Option Nat) (y5 : Nat) (y6 : Option (Nat × Nat)) (y7 : Nat) (y8 : Option Nat) (y9 : Int) (y10 : Int) : Env := AV.str y0 :: Env.sp 1 (AV.ptr (some (y1, (0 : Nat))) :: Env.sp 1 (AV.slice y2 y3 y4 (1 : Nat) :: Env.sp 1 (AV.ptr (some (y5, (0 : Nat))) :: Env.sp 25 (AV.slice y6 y7 y8 (1 : Nat) :: AV.int IntKind.i64 y9 :: AV.int IntKind.i64 y10 :: Env.sp 48 []))))
def f17e14 (y0 : ByteArray) (y1 : Nat) (y2 : Option (Nat × Nat)) (y3 : Nat) (y4 : Option Nat) (y5 : Nat) (y6 : Option (Nat × Nat)) (y7 : Nat) (y8 : Option Nat) (y9 : Int) (y10 : Int) (y11 : Bool) : Env := AV.str y0 :: Env.sp 1 (AV.ptr (some (y1, (0 : Nat))) :: Env.sp 1 (AV.slice y2 y3 y4 (1 : Nat) :: Env.sp 1 (AV.ptr (some (y5, (0 : Nat))) :: Env.sp 25 (AV.slice y6 y7 y8 (1 : Nat) :: AV.int IntKind.i64 y9 :: AV.int IntKind.i64 y10 :: AV.bool y11 :: Env.sp 47 []))))
def f17e15 (y0 : ByteArray) (y1 : Nat) (y2 : Option (Nat × Nat)) (y3 : Nat) (y4 : Option Nat) (y5 : Nat) (y6 : Int) (y7 : Option (Nat × Nat)) (y8 : Option (Nat × Nat)) (y9 : Nat) (y10 : Option Nat) (y11 : Int) (y12 : Int) (y13 : Int) (y14 : Option (Nat × Nat)) (y15 : Option (Nat × Nat)) : Env := AV.str y0 :: Env.sp 1 (AV.ptr (some (y1, (0 : Nat))) :: Env.sp 1 (AV.slice y2 y3 y4 (1 : Nat) :: Env.sp 1 (AV.ptr (some (y5, (0 : Nat))) :: AV.int IntKind.i64 y6 :: AV.ptr y7 :: Env.sp 23 (AV.slice y8 y9 y10 (1 : Nat) :: AV.int IntKind.i64 y11 :: AV.int IntKind.i64 y12 :: Env.sp 1 (AV.int IntKind.i64 y13 :: AV.ptr y14 :: AV.ptr y15 :: Env.sp 44 [])))))
def f17e16 (y0 : ByteArray) (y1 : Nat) (y2 : Option (Nat × Nat)) (y3 : Nat) (y4 : Option Nat) (y5 : Nat) (y6 : Int) (y7 : Option (Nat × Nat)) (y8 : Option (Nat × Nat)) (y9 : Nat) (y10 : Option Nat) (y11 : Int) (y12 : Int) : Env := AV.str y0 :: Env.sp 1 (AV.ptr (some (y1, (0 : Nat))) :: Env.sp 1 (AV.slice y2 y3 y4 (1 : Nat) :: Env.sp 1 (AV.ptr (some (y5, (0 : Nat))) :: AV.int IntKind.i64 y6 :: AV.ptr y7 :: Env.sp 23 (AV.slice y8 y9 y10 (1 : Nat) :: AV.int IntKind.i64 y11 :: AV.int IntKind.i64 y12 :: Env.sp 48 []))))
def f17e17 (y0 : ByteArray) (y1 : Nat) (y2 : Option (Nat × Nat)) (y3 : Nat) (y4 : Option Nat) (y5 : Nat) (y6 : Int) (y7 : Option (Nat × Nat)) (y8 : Option (Nat × Nat)) (y9 : Nat) (y10 : Option Nat) (y11 : Int) (y12 : Int) (y13 : Int) (y14 : Int) (y15 : Option (Nat × Nat)) (y16 : Option (Nat × Nat)) (y17 : Nat) (y18 : Option Nat) (y19 : Int) (y20 : Option (Nat × Nat)) (y21 : ByteArray) (y22 : Int) (y23 : Int) (y24 : Int) (y25 : Int) (y26 : Option (Nat × Nat)) : Env := AV.str y0 :: Env.sp 1 (AV.ptr (some (y1, (0 : Nat))) :: Env.sp 1 (AV.slice y2 y3 y4 (1 : Nat) :: Env.sp 1 (AV.ptr (some (y5, (0 : Nat))) :: AV.int IntKind.i64 y6 :: AV.ptr y7 :: Env.sp 23 (AV.slice y8 y9 y10 (1 : Nat) :: AV.int IntKind.i64 y11 :: AV.int IntKind.i64 y12 :: Env.sp 4 (AV.tuple [AV.int IntKind.i64 y13, AV.int IntKind.i64 y14] :: AV.ptr y15 :: AV.slice y16 y17 y18 (1 : Nat) :: AV.int IntKind.i64 y19 :: AV.ptr y20 :: AV.str y21 :: AV.tuple [AV.int IntKind.i64 y22, AV.int IntKind.i64 y23] :: AV.int IntKind.i64 y24 :: AV.int IntKind.i64 y25 :: AV.ptr y26 :: Env.sp 34 [])))))
def f17e18 (y0 : ByteArray) (y1 : Nat) (y2 : Option (Nat × Nat)) (y3 : Nat) (y4 : Option Nat) (y5 : Nat) (y6 : Option (Nat × Nat)) (y7 : Nat) (y8 : Option Nat) (y9 : Int) (y10 : Int) (y11 : Int) : Env := AV.str y0 :: Env.sp 1 (AV.ptr (some (y1, (0 : Nat))) :: Env.sp 1 (AV.slice y2 y3 y4 (1 : Nat) :: Env.sp 1 (AV.ptr (some (y5, (0 : Nat))) :: Env.sp 25 (AV.slice y6 y7 y8 (1 : Nat) :: AV.int IntKind.i64 y9 :: AV.int IntKind.i64 y10 :: Env.sp 14 (AV.int IntKind.i64 y11 :: Env.sp 33 [])))))
def f17e19 (y0 : ByteArray) (y1 : Nat) (y2 : Option (Nat × Nat)) (y3 : Nat) (y4 : Option Nat) (y5 : Nat) (y6 : Option (Nat × Nat)) (y7 : Nat) (y8 : Option Nat) (y9 : Option (Nat × Nat)) (y10 : ByteArray) (y11 : Nat) : Env := AV.str y0 :: Env.sp 1 (AV.ptr (some (y1, (0 : Nat))) :: Env.sp 1 (AV.slice y2 y3 y4 (1 : Nat) :: Env.sp 1 (AV.ptr (some (y5, (0 : Nat))) :: Env.sp 43 (AV.slice y6 y7 y8 (1 : Nat) :: AV.ptr y9 :: AV.str y10 :: AV.ptr (some (y11, (3 : Nat))) :: Env.sp 29 []))))
def f17e20 (y0 : ByteArray) (y1 : Nat) (y2 : Option (Nat × Nat)) (y3 : Nat) (y4 : Option Nat) (y5 : Nat) (y6 : Option (Nat × Nat)) (y7 : Nat) (y8 : Option Nat) (y9 : Option (Nat × Nat)) (y10 : Nat) (y11 : Option Nat) (y12 : Int) (y13 : Int) : Env := AV.str y0 :: Env.sp 1 (AV.ptr (some (y1, (0 : Nat))) :: Env.sp 1 (AV.slice y2 y3 y4 (1 : Nat) :: Env.sp 1 (AV.ptr (some (y5, (0 : Nat))) :: Env.sp 47 (AV.slice y6 y7 y8 (1 : Nat) :: AV.slice y9 y10 y11 (1 : Nat) :: AV.int IntKind.i64 y12 :: AV.int IntKind.i64 y13 :: Env.sp 25 []))))
def f17e21 (y0 : ByteArray) (y1 : Nat) (y2 : Nat) (y3 : Option (Nat × Nat)) (y4 : Nat) (y5 : Option Nat) (y6 : Int) (y7 : Int) : Env := AV.str y0 :: Env.sp 1 (AV.ptr (some (y1, (0 : Nat))) :: Env.sp 3 (AV.ptr (some (y2, (0 : Nat))) :: Env.sp 48 (AV.slice y3 y4 y5 (1 : Nat) :: AV.int IntKind.i64 y6 :: AV.int IntKind.i64 y7 :: Env.sp 25 [])))
def f17e22 (y0 : ByteArray) (y1 : Nat) (y2 : Nat) (y3 : Option (Nat × Nat)) (y4 : Nat) (y5 : Option Nat) (y6 : Int) (y7 : Int) (y8 : Bool) : Env := AV.str y0 :: Env.sp 1 (AV.ptr (some (y1, (0 : Nat))) :: Env.sp 3 (AV.ptr (some (y2, (0 : Nat))) :: Env.sp 48 (AV.slice y3 y4 y5 (1 : Nat) :: AV.int IntKind.i64 y6 :: AV.int IntKind.i64 y7 :: AV.bool y8 :: Env.sp 24 [])))
def f17e23 (y0 : ByteArray) (y1 : Nat) (y2 : Nat) : Env := AV.str y0 :: Env.sp 1 (AV.ptr (some (y1, (0 : Nat))) :: Env.sp 3 (AV.ptr (some (y2, (0 : Nat))) :: Env.sp 76 []))
def f17e24 (y0 : ByteArray) (y1 : Nat) (y2 : Nat) (y3 : ByteArray) (y4 : Option (Nat × Nat)) (y5 : Nat) (y6 : Option Nat) (y7 : Int) (y8 : Int) (y9 : Option (Nat × Nat)) (y10 : ByteArray) : Env := AV.str y0 :: Env.sp 1 (AV.ptr (some (y1, (0 : Nat))) :: Env.sp 3 (AV.ptr (some (y2, (0 : Nat))) :: Env.sp 3 (AV.str y3 :: Env.sp 44 (AV.slice y4 y5 y6 (1 : Nat) :: AV.int IntKind.i64 y7 :: AV.int IntKind.i64 y8 :: Env.sp 1 (AV.ptr y9 :: AV.str y10 :: Env.sp 22 [])))))
def f17e25 (y0 : ByteArray) (y1 : Nat) (y2 : Nat) (y3 : ByteArray) (y4 : Option (Nat × Nat)) (y5 : Nat) (y6 : Option Nat) (y7 : Int) (y8 : Int) : Env := AV.str y0 :: Env.sp 1 (AV.ptr (some (y1, (0 : Nat))) :: Env.sp 3 (AV.ptr (some (y2, (0 : Nat))) :: Env.sp 3 (AV.str y3 :: Env.sp 44 (AV.slice y4 y5 y6 (1 : Nat) :: AV.int IntKind.i64 y7 :: AV.int IntKind.i64 y8 :: Env.sp 25 []))))
def f17e26 (y0 : ByteArray) (y1 : Nat) (y2 : Nat) (y3 : ByteArray) (y4 : Int) (y5 : Int) (y6 : Option (Nat × Nat)) (y7 : Nat) (y8 : Option Nat) (y9 : Int) (y10 : Int) (y11 : Int) (y12 : Int) (y13 : ByteArray) (y14 : Int) (y15 : Int) (y16 : Int) (y17 : Int) : Env := AV.str y0 :: Env.sp 1 (AV.ptr (some (y1, (0 : Nat))) :: Env.sp 3 (AV.ptr (some (y2, (0 : Nat))) :: Env.sp 3 (AV.str y3 :: AV.int IntKind.i64 y4 :: AV.int IntKind.i64 y5 :: Env.sp 42 (AV.slice y6 y7 y8 (1 : Nat) :: AV.int IntKind.i64 y9 :: AV.int IntKind.i64 y10 :: Env.sp 3 (AV.tuple [AV.int IntKind.i64 y11, AV.int IntKind.i64 y12] :: AV.str y13 :: AV.tuple [AV.int IntKind.i64 y14, AV.int IntKind.i64 y15] :: AV.int IntKind.i64 y16 :: AV.int IntKind.i64 y17 :: Env.sp 17 [])))))
def f17e27 (y0 : ByteArray) (y1 : Nat) (y2 : Nat) (y3 : Int) (y4 : Option (Nat × Nat)) (y5 : Nat) (y6 : Option Nat) (y7 : Int) (y8 : Int) : Env := AV.str y0 :: Env.sp 1 (AV.ptr (some (y1, (0 : Nat))) :: Env.sp 3 (AV.ptr (some (y2, (0 : Nat))) :: Env.sp 4 (AV.int IntKind.i64 y3 :: Env.sp 43 (AV.slice y4 y5 y6 (1 : Nat) :: AV.int IntKind.i64 y7 :: AV.int IntKind.i64 y8 :: Env.sp 25 []))))
def f17e28 (y0 : ByteArray) (y1 : Nat) (y2 : Nat) (y3 : Int) (y4 : Option (Nat × Nat)) (y5 : Nat) (y6 : Option Nat) (y7 : Int) (y8 : Int) (y9 : Nat) (y10 : Option (Nat × Nat)) (y11 : Nat) (y12 : Option Nat) (y13 : Int) (y14 : Option (Nat × Nat)) (y15 : Nat) (y16 : Option Nat) (y17 : Option (Nat × Nat)) (y18 : Nat) (y19 : Option Nat) (y20 : Nat) : Env := AV.str y0 :: Env.sp 1 (AV.ptr (some (y1, (0 : Nat))) :: Env.sp 3 (AV.ptr (some (y2, (0 : Nat))) :: Env.sp 4 (AV.int IntKind.i64 y3 :: Env.sp 43 (AV.slice y4 y5 y6 (1 : Nat) :: AV.int IntKind.i64 y7 :: AV.int IntKind.i64 y8 :: Env.sp 8 (AV.ptr (some (y9, (4 : Nat))) :: AV.slice y10 y11 y12 (1 : Nat) :: AV.int IntKind.i64 y13 :: AV.slice y14 y15 y16 (1 : Nat) :: AV.slice y17 y18 y19 (1 : Nat) :: AV.ptr (some (y20, (4 : Nat))) :: Env.sp 11 [])))))
def f17e29 (y0 : ByteArray) (y1 : Nat) (y2 : Nat) (y3 : Option (Nat × Nat)) (y4 : Nat) (y5 : Option Nat) (y6 : Int) (y7 : Int) (y8 : Int) : Env := AV.str y0 :: Env.sp 1 (AV.ptr (some (y1, (0 : Nat))) :: Env.sp 3 (AV.ptr (some (y2, (0 : Nat))) :: Env.sp 48 (AV.slice y3 y4 y5 (1 : Nat) :: AV.int IntKind.i64 y6 :: AV.int IntKind.i64 y7 :: Env.sp 14 (AV.int IntKind.i64 y8 :: Env.sp 10 []))))
def f17e30 (y0 : ByteArray) (y1 : Nat) (y2 : Bool) (y3 : Nat) (y4 : Int) (y5 : Int) (y6 : Int) (y7 : ByteArray) (y8 : Option (Nat × Nat)) (y9 : Nat) (y10 : Option Nat) (y11 : Option (Nat × Nat)) (y12 : Nat) (y13 : Option Nat) (y14 : Int) (y15 : Int) (y16 : Int) (y17 : ByteArray) (y18 : Option (Nat × Nat)) (y19 : Nat) (y20 : Option Nat) (y21 : Option (Nat × Nat)) (y22 : Nat) (y23 : Option Nat) (y24 : ByteArray) (y25 : ByteArray) (y26 : Bool) (y27 : Bool) (y28 : Int) (y29 : Int) (y30 : Int) (y31 : ByteArray) (y32 : Option (Nat × Nat)) (y33 : Nat) (y34 : Option Nat) (y35 : Option (Nat × Nat)) (y36 : Nat) (y37 : Option Nat) (y38 : Bool) (y39 : Bool) (y40 : Bool) : Env := AV.str y0 :: Env.sp 1 (AV.ptr (some (y1, (0 : Nat))) :: AV.bool y2 :: Env.sp 2 (AV.ptr (some (y3, (0 : Nat))) :: Env.sp 66 (AV.agg [AV.int IntKind.i64 y4, AV.int IntKind.i64 y5, AV.int IntKind.i64 y6, AV.str y7, AV.slice y8 y9 y10 (1 : Nat), AV.slice y11 y12 y13 (12 : Nat)] :: AV.agg
  [AV.int IntKind.i64 y14, AV.int IntKind.i64 y15, AV.int IntKind.i64 y16, AV.str y17, AV.slice y18 y19 y20 (1 : Nat),
    AV.slice y21 y22 y23 (12 : Nat)] :: AV.str y24 :: AV.str y25 :: AV.bool y26 :: AV.bool y27 :: AV.agg
  [AV.int IntKind.i64 y28, AV.int IntKind.i64 y29, AV.int IntKind.i64 y30, AV.str y31, AV.slice y32 y33 y34 (1 : Nat),
    AV.slice y35 y36 y37 (12 : Nat)] :: AV.bool y38 :: AV.bool y39 :: AV.bool y40 :: [])))
def f17e31 (y0 : ByteArray) (y1 : Nat) (y2 : Bool) (y3 : Nat) (y4 : Int) (y5 : Int) (y6 : Int) (y7 : ByteArray) (y8 : Option (Nat × Nat)) (y9 : Nat) (y10 : Option Nat) (y11 : Option (Nat × Nat)) (y12 : Nat) (y13 : Option Nat) (y14 : Int) (y15 : Int) (y16 : Int) (y17 : ByteArray) (y18 : Option (Nat × Nat)) (y19 : Nat) (y20 : Option Nat) (y21 : Option (Nat × Nat)) (y22 : Nat) (y23 : Option Nat) (y24 : ByteArray) (y25 : ByteArray) (y26 : Bool) (y27 : Bool) (y28 : Bool) : Env := AV.str y0 :: Env.sp 1 (AV.ptr (some (y1, (0 : Nat))) :: AV.bool y2 :: Env.sp 2 (AV.ptr (some (y3, (0 : Nat))) :: Env.sp 66 (AV.agg [AV.int IntKind.i64 y4, AV.int IntKind.i64 y5, AV.int IntKind.i64 y6, AV.str y7, AV.slice y8 y9 y10 (1 : Nat), AV.slice y11 y12 y13 (12 : Nat)] :: AV.agg
  [AV.int IntKind.i64 y14, AV.int IntKind.i64 y15, AV.int IntKind.i64 y16, AV.str y17, AV.slice y18 y19 y20 (1 : Nat),
    AV.slice y21 y22 y23 (12 : Nat)] :: AV.str y24 :: AV.str y25 :: AV.bool y26 :: AV.bool y27 :: AV.tuple [] :: AV.tuple [] :: AV.tuple [] :: AV.bool y28 :: [])))

/- function 17 -/
theorem f17_eq {R : Type} (call : Bool → CallF R) (dem : Bool) (N : Nat) (y0 : ByteArray) (σ : St) (K : AV → St → Option R) :
    bodyK Tryz.prog call dem N ann 17 [AV.str y0] σ K = runK Tryz.prog call dem N f17c0 f17a0 (bodyC Tryz.prog f17rs K) (f17e0 y0) σ := bodyK_of (fn := ((Tryz.prog.funcs[17]?).get rfl)) (by kernel_rfl) (by kernel_rfl) (by kernel_rfl) (by kernel_rfl) (by kernel_rfl) (by kernel_rfl)
theorem f17n0 {R : Type} (call : Bool → CallF R) (dem : Bool) (N : Nat) (J : KF R) (e : Env) (σ : St) : runK Tryz.prog call dem N f17c0 f17a0 J e σ = runK Tryz.prog call dem N f17c1 f17a1 (seqC (fun K e σ => runK Tryz.prog call dem N f17c2 f17a2 K e σ) f17a0 J) e σ := runK_seq' (by kernel_rfl) (by kernel_rfl) (by kernel_rfl)
theorem f17r1_f17e0 {R : Type} (call : Bool → CallF R) (dem : Bool) (N : Nat) (y0 : ByteArray) (J : KF R) (σ : St) :
    runK Tryz.prog call dem N f17c1 f17a1 J (f17e0 y0) σ =
J Ex.normal (f17e1 y0 (St.next σ) false)
  (St.new σ
    (Blk.cells
      [AV.int IntKind.i64 (0 : Int), AV.int IntKind.i64 (0 : Int), AV.int IntKind.i64 (0 : Int), AV.str (ByteArray.mk #[]),
        AV.slice none (0 : Nat) (some (0 : Nat)) (1 : Nat), AV.slice none (0 : Nat) (some (0 : Nat)) (12 : Nat)]
      true)) := hide (by kernel_rfl)
theorem f17z0_f17e1 (y0 : ByteArray) (y1 : Nat) (y2 : Bool) : Ann.clr f17a0 (f17e1 y0 y1 y2) = f17e2 y0 y1 := hide (by kernel_rfl)
theorem f17n2 {R : Type} (call : Bool → CallF R) (dem : Bool) (N : Nat) (J : KF R) (e : Env) (σ : St) : runK Tryz.prog call dem N f17c2 f17a2 J e σ = runK Tryz.prog call dem N f17c3 f17a3 (seqC (fun K e σ => runK Tryz.prog call dem N f17c4 f17a4 K e σ) f17a2 J) e σ := runK_seq' (by kernel_rfl) (by kernel_rfl) (by kernel_rfl)
theorem f17r3_f17e2 {R : Type} (call : Bool → CallF R) (dem : Bool) (N : Nat) (y0 : ByteArray) (y1 : Nat) (J : KF R) (σ : St) :
    runK Tryz.prog call dem N f17c3 f17a3 J (f17e2 y0 y1) σ =
call dem (16 : Nat) [AV.str y0] σ fun v0 v1 =>
  Option.bind (AV.toTuple v0) fun v2 =>
    if List.length v2 = (2 : Nat) then
      Option.bind (List.head? v2) fun v3 =>
        Option.bind (AV.toSl (1 : Nat) v3) fun v4 =>
          Option.bind (List.head? (List.tail v2)) fun v5 =>
            Option.bind (AV.toInt IntKind.i64 v5) fun v6 =>
              J Ex.normal
                (f17e3 y0 y1 (Sl.o v4) (Sl.len v4) (Sl.cap v4) v6 (Sl.o v4) (Sl.len v4) (Sl.cap v4) v6 y0 (Sl.o v4) (Sl.len v4) (Sl.cap v4) v6
                  (Sl.o v4) (Sl.len v4) (Sl.cap v4) v6)
                v1
    else none := hide (by kernel_rfl)
theorem f17z2_f17e3 (y0 : ByteArray) (y1 : Nat) (y2 : Option (Nat × Nat)) (y3 : Nat) (y4 : Option Nat) (y5 : Int) (y6 : Option (Nat × Nat)) (y7 : Nat) (y8 : Option Nat) (y9 : Int) (y10 : ByteArray) (y11 : Option (Nat × Nat)) (y12 : Nat) (y13 : Option Nat) (y14 : Int) (y15 : Option (Nat × Nat)) (y16 : Nat) (y17 : Option Nat) (y18 : Int) : Ann.clr f17a2 (f17e3 y0 y1 y2 y3 y4 y5 y6 y7 y8 y9 y10 y11 y12 y13 y14 y15 y16 y17 y18) = f17e4 y0 y1 y2 y3 y4 y5 := hide (by kernel_rfl)
theorem f17n4 {R : Type} (call : Bool → CallF R) (dem : Bool) (N : Nat) (J : KF R) (e : Env) (σ : St) : runK Tryz.prog call dem N f17c4 f17a4 J e σ = runK Tryz.prog call dem N f17c5 f17a5 (seqC (fun K e σ => runK Tryz.prog call dem N f17c6 f17a6 K e σ) f17a4 J) e σ := runK_seq' (by kernel_rfl) (by kernel_rfl) (by kernel_rfl)
theorem f17n5 {R : Type} (call : Bool → CallF R) (dem : Bool) (N : Nat) (J : KF R) (e : Env) (σ : St) : runK Tryz.prog call dem N f17c5 f17a5 J e σ = runK Tryz.prog call dem N f17c7 f17a7 (seqC (fun K e σ => runK Tryz.prog call dem N f17c8 f17a8 K e σ) f17a5 J) e σ := runK_seq' (by kernel_rfl) (by kernel_rfl) (by kernel_rfl)
theorem f17r7_f17e4 {R : Type} (call : Bool → CallF R) (dem : Bool) (N : Nat) (y0 : ByteArray) (y1 : Nat) (y2 : Option (Nat × Nat)) (y3 : Nat) (y4 : Option Nat) (y5 : Int) (J : KF R) (σ : St) :
    runK Tryz.prog call dem N f17c7 f17a7 J (f17e4 y0 y1 y2 y3 y4 y5) σ =
if (y5 != (0 : Int)) = true then J Ex.normal (f17e5 y0 y1 y2 y3 y4 y5 y5 (y5 != (0 : Int)) true true) σ
else
  J Ex.normal
    (f17e6 y0 y1 y2 y3 y4 y5 y5 (y5 != (0 : Int)) false y2 y3 y4 (↑y3 : Int) (decide ((↑y3 : Int) < (4 : Int))) (decide ((↑y3 : Int) < (4 : Int)))) σ := hide (by kernel_rfl)
theorem f17z5_f17e5 (y0 : ByteArray) (y1 : Nat) (y2 : Option (Nat × Nat)) (y3 : Nat) (y4 : Option Nat) (y5 : Int) (y6 : Int) (y7 : Bool) (y8 : Bool) (y9 : Bool) : Ann.clr f17a5 (f17e5 y0 y1 y2 y3 y4 y5 y6 y7 y8 y9) = f17e7 y0 y1 y2 y3 y4 y9 := hide (by kernel_rfl)
theorem f17x8_f17e7 {R : Type} (call : Bool → CallF R) (dem : Bool) (N : Nat) (y0 : ByteArray) (y1 : Nat) (y2 : Option (Nat × Nat)) (y3 : Nat) (y4 : Option Nat) (y5 : Bool) (J : KF R) (σ : St) : runK Tryz.prog call dem N f17c8 f17a8 J (f17e7 y0 y1 y2 y3 y4 y5) σ = if y5 = true then runK Tryz.prog call dem N f17c9 f17a9 (condC f17a8 J) (f17e7 y0 y1 y2 y3 y4 y5) σ else runK Tryz.prog call dem N f17c10 f17a10 (condC f17a8 J) (f17e7 y0 y1 y2 y3 y4 y5) σ := runK_cond' (o := Operand.tmp (24 : Nat)) (by kernel_rfl) (by kernel_rfl) (by kernel_rfl) (by kernel_rfl)
theorem f17n9 {R : Type} (call : Bool → CallF R) (dem : Bool) (N : Nat) (J : KF R) (e : Env) (σ : St) : runK Tryz.prog call dem N f17c9 f17a9 J e σ = runK Tryz.prog call dem N f17c11 f17a11 (seqC (fun K e σ => runK Tryz.prog call dem N f17c12 f17a12 K e σ) f17a9 J) e σ := runK_seq' (by kernel_rfl) (by kernel_rfl) (by kernel_rfl)
theorem f17r11_f17e7 {R : Type} (call : Bool → CallF R) (dem : Bool) (N : Nat) (y0 : ByteArray) (y1 : Nat) (y2 : Option (Nat × Nat)) (y3 : Nat) (y4 : Option Nat) (y5 : Bool) (J : KF R) (σ : St) :
    runK Tryz.prog call dem N f17c11 f17a11 J (f17e7 y0 y1 y2 y3 y4 y5) σ =
Option.bind
  (St.st σ y1 (0 : Nat)
    [AV.int IntKind.i64 (0 : Int), AV.int IntKind.i64 (0 : Int), AV.int IntKind.i64 (0 : Int), AV.str (ByteArray.mk #[]),
      AV.slice none (0 : Nat) (some (0 : Nat)) (1 : Nat), AV.slice none (0 : Nat) (some (0 : Nat)) (12 : Nat)])
  fun v0 =>
  J Ex.normal
    (f17e8 y0 y1 false y2 y3 y4 y5 (0 : Int) (0 : Int) (0 : Int) (ByteArray.mk #[]) none (0 : Nat) (some (0 : Nat)) none (0 : Nat) (some (0 : Nat)))
    v0 := hide (by kernel_rfl)
theorem f17z9_f17e8 (y0 : ByteArray) (y1 : Nat) (y2 : Bool) (y3 : Option (Nat × Nat)) (y4 : Nat) (y5 : Option Nat) (y6 : Bool) (y7 : Int) (y8 : Int) (y9 : Int) (y10 : ByteArray) (y11 : Option (Nat × Nat)) (y12 : Nat) (y13 : Option Nat) (y14 : Option (Nat × Nat)) (y15 : Nat) (y16 : Option Nat) : Ann.clr f17a9 (f17e8 y0 y1 y2 y3 y4 y5 y6 y7 y8 y9 y10 y11 y12 y13 y14 y15 y16) = f17e9 y1 y2 := hide (by kernel_rfl)
theorem f17y12_f17e9 {R : Type} (call : Bool → CallF R) (dem : Bool) (N : Nat) (y0 : Nat) (y1 : Bool) (J : KF R) (σ : St) : runK Tryz.prog call dem N f17c12 f17a12 J (f17e9 y0 y1) σ = J .ret (f17e9 y0 y1) σ := runK_ret' (by kernel_rfl) (by kernel_rfl)
theorem f17n10 {R : Type} (call : Bool → CallF R) (dem : Bool) (N : Nat) (J : KF R) (e : Env) (σ : St) : runK Tryz.prog call dem N f17c10 f17a10 J e σ = J .normal e σ := runK_skip' (by kernel_rfl)
theorem f17z8_f17e7 (y0 : ByteArray) (y1 : Nat) (y2 : Option (Nat × Nat)) (y3 : Nat) (y4 : Option Nat) (y5 : Bool) : Ann.clr f17a8 (f17e7 y0 y1 y2 y3 y4 y5) = f17e10 y0 y1 y2 y3 y4 := hide (by kernel_rfl)
theorem f17z5_f17e6 (y0 : ByteArray) (y1 : Nat) (y2 : Option (Nat × Nat)) (y3 : Nat) (y4 : Option Nat) (y5 : Int) (y6 : Int) (y7 : Bool) (y8 : Bool) (y9 : Option (Nat × Nat)) (y10 : Nat) (y11 : Option Nat) (y12 : Int) (y13 : Bool) (y14 : Bool) : Ann.clr f17a5 (f17e6 y0 y1 y2 y3 y4 y5 y6 y7 y8 y9 y10 y11 y12 y13 y14) = f17e7 y0 y1 y2 y3 y4 y14 := hide (by kernel_rfl)
theorem f17z4_f17e10 (y0 : ByteArray) (y1 : Nat) (y2 : Option (Nat × Nat)) (y3 : Nat) (y4 : Option Nat) : Ann.clr f17a4 (f17e10 y0 y1 y2 y3 y4) = f17e10 y0 y1 y2 y3 y4 := hide (by kernel_rfl)
theorem f17n6 {R : Type} (call : Bool → CallF R) (dem : Bool) (N : Nat) (J : KF R) (e : Env) (σ : St) : runK Tryz.prog call dem N f17c6 f17a6 J e σ = runK Tryz.prog call dem N f17c13 f17a13 (seqC (fun K e σ => runK Tryz.prog call dem N f17c14 f17a14 K e σ) f17a6 J) e σ := runK_seq' (by kernel_rfl) (by kernel_rfl) (by kernel_rfl)
theorem f17r13_f17e10 {R : Type} (call : Bool → CallF R) (dem : Bool) (N : Nat) (y0 : ByteArray) (y1 : Nat) (y2 : Option (Nat × Nat)) (y3 : Nat) (y4 : Option Nat) (J : KF R) (σ : St) :
    runK Tryz.prog call dem N f17c13 f17a13 J (f17e10 y0 y1 y2 y3 y4) σ =
J Ex.normal (f17e11 y0 y1 y2 y3 y4 (St.next σ))
  (St.new σ
    (Blk.cells
      [AV.int IntKind.i64 (0 : Int), AV.int IntKind.i64 (0 : Int), AV.int IntKind.i64 (0 : Int), AV.str (ByteArray.mk #[]),
        AV.slice none (0 : Nat) (some (0 : Nat)) (1 : Nat), AV.slice none (0 : Nat) (some (0 : Nat)) (12 : Nat)]
      true)) := hide (by kernel_rfl)
theorem f17z6_f17e11 (y0 : ByteArray) (y1 : Nat) (y2 : Option (Nat × Nat)) (y3 : Nat) (y4 : Option Nat) (y5 : Nat) : Ann.clr f17a6 (f17e11 y0 y1 y2 y3 y4 y5) = f17e11 y0 y1 y2 y3 y4 y5 := hide (by kernel_rfl)
theorem f17n14 {R : Type} (call : Bool → CallF R) (dem : Bool) (N : Nat) (J : KF R) (e : Env) (σ : St) : runK Tryz.prog call dem N f17c14 f17a14 J e σ = runK Tryz.prog call dem N f17c15 f17a15 (seqC (fun K e σ => runK Tryz.prog call dem N f17c16 f17a16 K e σ) f17a14 J) e σ := runK_seq' (by kernel_rfl) (by kernel_rfl) (by kernel_rfl)
theorem f17n15 {R : Type} (call : Bool → CallF R) (dem : Bool) (N : Nat) (J : KF R) (e : Env) (σ : St) : runK Tryz.prog call dem N f17c15 f17a15 J e σ = runK Tryz.prog call dem N f17c17 f17a17 (seqC (fun K e σ => runK Tryz.prog call dem N f17c18 f17a18 K e σ) f17a15 J) e σ := runK_seq' (by kernel_rfl) (by kernel_rfl) (by kernel_rfl)
theorem f17r17_f17e11 {R : Type} (call : Bool → CallF R) (dem : Bool) (N : Nat) (y0 : ByteArray) (y1 : Nat) (y2 : Option (Nat × Nat)) (y3 : Nat) (y4 : Option Nat) (y5 : Nat) (J : KF R) (σ : St) :
    runK Tryz.prog call dem N f17c17 f17a17 J (f17e11 y0 y1 y2 y3 y4 y5) σ =
J Ex.normal (f17e12 y0 y1 y2 y3 y4 y5 y5 y5 y5 y5 y5 y5 (some (St.next σ, (0 : Nat))) (3 : Nat) (some (3 : Nat)) (3 : Int) (0 : Int))
  (St.new σ (Blk.cells [AV.ptr (some (y5, (0 : Nat))), AV.ptr (some (y5, (1 : Nat))), AV.ptr (some (y5, (2 : Nat)))] true)) := hide (by kernel_rfl)
theorem f17z15_f17e12 (y0 : ByteArray) (y1 : Nat) (y2 : Option (Nat × Nat)) (y3 : Nat) (y4 : Option Nat) (y5 : Nat) (y6 : Nat) (y7 : Nat) (y8 : Nat) (y9 : Nat) (y10 : Nat) (y11 : Nat) (y12 : Option (Nat × Nat)) (y13 : Nat) (y14 : Option Nat) (y15 : Int) (y16 : Int) : Ann.clr f17a15 (f17e12 y0 y1 y2 y3 y4 y5 y6 y7 y8 y9 y10 y11 y12 y13 y14 y15 y16) = f17e13 y0 y1 y2 y3 y4 y5 y12 y13 y14 y15 y16 := hide (by kernel_rfl)
theorem f17n18 {R : Type} (call : Bool → CallF R) (dem : Bool) (N : Nat) (J : KF R) (e : Env) (σ : St) : runK Tryz.prog call dem N f17c18 f17a18 J e σ = runK Tryz.prog call dem N f17c19 f17a19 (blockC 0 f17a18 J) e σ := runK_block' (by kernel_rfl) (by kernel_rfl)
theorem f17L19_eq {R : Type} (call : Bool → CallF R) (dem : Bool) (N : Nat) (J : KF R) (e : Env) (σ : St) : f17L19 call dem N J e σ = runK Tryz.prog call dem N f17c20 f17a20 J e σ := hide rfl
theorem f17z19_f17e13 (y0 : ByteArray) (y1 : Nat) (y2 : Option (Nat × Nat)) (y3 : Nat) (y4 : Option Nat) (y5 : Nat) (y6 : Option (Nat × Nat)) (y7 : Nat) (y8 : Option Nat) (y9 : Int) (y10 : Int) : Ann.clr f17a19 (f17e13 y0 y1 y2 y3 y4 y5 y6 y7 y8 y9 y10) = f17e13 y0 y1 y2 y3 y4 y5 y6 y7 y8 y9 y10 := hide (by kernel_rfl)
theorem f17l19_f17e13 {R : Type} (call : Bool → CallF R) (dem : Bool) (N : Nat) (y0 : ByteArray) (y1 : Nat) (y2 : Option (Nat × Nat)) (y3 : Nat) (y4 : Option Nat) (y5 : Nat) (y6 : Option (Nat × Nat)) (y7 : Nat) (y8 : Option Nat) (y9 : Int) (y10 : Int) (J : KF R) (σ : St) : runK Tryz.prog call dem N f17c19 f17a19 J (f17e13 y0 y1 y2 y3 y4 y5 y6 y7 y8 y9 y10) σ = loopK (f17L19 call dem N) f17a19 N J (f17e13 y0 y1 y2 y3 y4 y5 y6 y7 y8 y9 y10) σ := runK_loop' (by kernel_rfl) (by kernel_rfl) (by kernel_rfl)
theorem f17n20 {R : Type} (call : Bool → CallF R) (dem : Bool) (N : Nat) (J : KF R) (e : Env) (σ : St) : runK Tryz.prog call dem N f17c20 f17a20 J e σ = runK Tryz.prog call dem N f17c21 f17a21 (seqC (fun K e σ => runK Tryz.prog call dem N f17c22 f17a22 K e σ) f17a20 J) e σ := runK_seq' (by kernel_rfl) (by kernel_rfl) (by kernel_rfl)
theorem f17r21_f17e13 {R : Type} (call : Bool → CallF R) (dem : Bool) (N : Nat) (y0 : ByteArray) (y1 : Nat) (y2 : Option (Nat × Nat)) (y3 : Nat) (y4 : Option Nat) (y5 : Nat) (y6 : Option (Nat × Nat)) (y7 : Nat) (y8 : Option Nat) (y9 : Int) (y10 : Int) (J : KF R) (σ : St) :
    runK Tryz.prog call dem N f17c21 f17a21 J (f17e13 y0 y1 y2 y3 y4 y5 y6 y7 y8 y9 y10) σ =
J Ex.normal (f17e14 y0 y1 y2 y3 y4 y5 y6 y7 y8 y9 y10 (decide (y10 < y9))) σ := hide (by kernel_rfl)
theorem f17z20_f17e14 (y0 : ByteArray) (y1 : Nat) (y2 : Option (Nat × Nat)) (y3 : Nat) (y4 : Option Nat) (y5 : Nat) (y6 : Option (Nat × Nat)) (y7 : Nat) (y8 : Option Nat) (y9 : Int) (y10 : Int) (y11 : Bool) : Ann.clr f17a20 (f17e14 y0 y1 y2 y3 y4 y5 y6 y7 y8 y9 y10 y11) = f17e14 y0 y1 y2 y3 y4 y5 y6 y7 y8 y9 y10 y11 := hide (by kernel_rfl)
theorem f17n22 {R : Type} (call : Bool → CallF R) (dem : Bool) (N : Nat) (J : KF R) (e : Env) (σ : St) : runK Tryz.prog call dem N f17c22 f17a22 J e σ = runK Tryz.prog call dem N f17c23 f17a23 (seqC (fun K e σ => runK Tryz.prog call dem N f17c24 f17a24 K e σ) f17a22 J) e σ := runK_seq' (by kernel_rfl) (by kernel_rfl) (by kernel_rfl)
theorem f17x23_f17e14 {R : Type} (call : Bool → CallF R) (dem : Bool) (N : Nat) (y0 : ByteArray) (y1 : Nat) (y2 : Option (Nat × Nat)) (y3 : Nat) (y4 : Option Nat) (y5 : Nat) (y6 : Option (Nat × Nat)) (y7 : Nat) (y8 : Option Nat) (y9 : Int) (y10 : Int) (y11 : Bool) (J : KF R) (σ : St) : runK Tryz.prog call dem N f17c23 f17a23 J (f17e14 y0 y1 y2 y3 y4 y5 y6 y7 y8 y9 y10 y11) σ = if y11 = true then runK Tryz.prog call dem N f17c25 f17a25 (condC f17a23 J) (f17e14 y0 y1 y2 y3 y4 y5 y6 y7 y8 y9 y10 y11) σ else runK Tryz.prog call dem N f17c26 f17a26 (condC f17a23 J) (f17e14 y0 y1 y2 y3 y4 y5 y6 y7 y8 y9 y10 y11) σ := runK_cond' (o := Operand.tmp (35 : Nat)) (by kernel_rfl) (by kernel_rfl) (by kernel_rfl) (by kernel_rfl)
theorem f17n25 {R : Type} (call : Bool → CallF R) (dem : Bool) (N : Nat) (J : KF R) (e : Env) (σ : St) : runK Tryz.prog call dem N f17c25 f17a25 J e σ = J .normal e σ := runK_skip' (by kernel_rfl)
theorem f17z23_f17e14 (y0 : ByteArray) (y1 : Nat) (y2 : Option (Nat × Nat)) (y3 : Nat) (y4 : Option Nat) (y5 : Nat) (y6 : Option (Nat × Nat)) (y7 : Nat) (y8 : Option Nat) (y9 : Int) (y10 : Int) (y11 : Bool) : Ann.clr f17a23 (f17e14 y0 y1 y2 y3 y4 y5 y6 y7 y8 y9 y10 y11) = f17e13 y0 y1 y2 y3 y4 y5 y6 y7 y8 y9 y10 := hide (by kernel_rfl)
theorem f17y26_f17e14 {R : Type} (call : Bool → CallF R) (dem : Bool) (N : Nat) (y0 : ByteArray) (y1 : Nat) (y2 : Option (Nat × Nat)) (y3 : Nat) (y4 : Option Nat) (y5 : Nat) (y6 : Option (Nat × Nat)) (y7 : Nat) (y8 : Option Nat) (y9 : Int) (y10 : Int) (y11 : Bool) (J : KF R) (σ : St) : runK Tryz.prog call dem N f17c26 f17a26 J (f17e14 y0 y1 y2 y3 y4 y5 y6 y7 y8 y9 y10 y11) σ = J (.exit 0) (f17e11 y0 y1 y2 y3 y4 y5) σ := runK_exit' (by kernel_rfl) (by kernel_rfl)
theorem f17z22_f17e13 (y0 : ByteArray) (y1 : Nat) (y2 : Option (Nat × Nat)) (y3 : Nat) (y4 : Option Nat) (y5 : Nat) (y6 : Option (Nat × Nat)) (y7 : Nat) (y8 : Option Nat) (y9 : Int) (y10 : Int) : Ann.clr f17a22 (f17e13 y0 y1 y2 y3 y4 y5 y6 y7 y8 y9 y10) = f17e13 y0 y1 y2 y3 y4 y5 y6 y7 y8 y9 y10 := hide (by kernel_rfl)
theorem f17n24 {R : Type} (call : Bool → CallF R) (dem : Bool) (N : Nat) (J : KF R) (e : Env) (σ : St) : runK Tryz.prog call dem N f17c24 f17a24 J e σ = runK Tryz.prog call dem N f17c27 f17a27 (seqC (fun K e σ => runK Tryz.prog call dem N f17c28 f17a28 K e σ) f17a24 J) e σ := runK_seq' (by kernel_rfl) (by kernel_rfl) (by kernel_rfl)
theorem f17n27 {R : Type} (call : Bool → CallF R) (dem : Bool) (N : Nat) (J : KF R) (e : Env) (σ : St) : runK Tryz.prog call dem N f17c27 f17a27 J e σ = runK Tryz.prog call dem N f17c29 f17a29 (blockC 1 f17a27 J) e σ := runK_block' (by kernel_rfl) (by kernel_rfl)
theorem f17n29 {R : Type} (call : Bool → CallF R) (dem : Bool) (N : Nat) (J : KF R) (e : Env) (σ : St) : runK Tryz.prog call dem N f17c29 f17a29 J e σ = runK Tryz.prog call dem N f17c30 f17a30 (seqC (fun K e σ => runK Tryz.prog call dem N f17c31 f17a31 K e σ) f17a29 J) e σ := runK_seq' (by kernel_rfl) (by kernel_rfl) (by kernel_rfl)
theorem f17r30_f17e13 {R : Type} (call : Bool → CallF R) (dem : Bool) (N : Nat) (y0 : ByteArray) (y1 : Nat) (y2 : Option (Nat × Nat)) (y3 : Nat) (y4 : Option Nat) (y5 : Nat) (y6 : Option (Nat × Nat)) (y7 : Nat) (y8 : Option Nat) (y9 : Int) (y10 : Int) (J : KF R) (σ : St) :
    runK Tryz.prog call dem N f17c30 f17a30 J (f17e13 y0 y1 y2 y3 y4 y5 y6 y7 y8 y9 y10) σ =
if (0 : Int) ≤ y10 ∧ y10 < (↑y7 : Int) then
  Option.bind y6 fun v0 =>
    Option.bind (St.ld σ (Prod.fst v0) (Prod.snd v0 + Int.toNat y10 * (1 : Nat))) fun v1 =>
      Option.bind (AV.toPtr v1) fun v2 =>
        J Ex.normal (f17e15 y0 y1 y2 y3 y4 y5 y10 v2 y6 y7 y8 y9 y10 y10 (some (Prod.fst v0, Prod.snd v0 + Int.toNat y10 * (1 : Nat))) v2) σ
else none := hide (by kernel_rfl)
theorem f17z29_f17e15 (y0 : ByteArray) (y1 : Nat) (y2 : Option (Nat × Nat)) (y3 : Nat) (y4 : Option Nat) (y5 : Nat) (y6 : Int) (y7 : Option (Nat × Nat)) (y8 : Option (Nat × Nat)) (y9 : Nat) (y10 : Option Nat) (y11 : Int) (y12 : Int) (y13 : Int) (y14 : Option (Nat × Nat)) (y15 : Option (Nat × Nat)) : Ann.clr f17a29 (f17e15 y0 y1 y2 y3 y4 y5 y6 y7 y8 y9 y10 y11 y12 y13 y14 y15) = f17e16 y0 y1 y2 y3 y4 y5 y6 y7 y8 y9 y10 y11 y12 := hide (by kernel_rfl)
theorem f17r31_f17e16 {R : Type} (call : Bool → CallF R) (dem : Bool) (N : Nat) (y0 : ByteArray) (y1 : Nat) (y2 : Option (Nat × Nat)) (y3 : Nat) (y4 : Option Nat) (y5 : Nat) (y6 : Int) (y7 : Option (Nat × Nat)) (y8 : Option (Nat × Nat)) (y9 : Nat) (y10 : Option Nat) (y11 : Int) (y12 : Int) (J : KF R) (σ : St) :
    runK Tryz.prog call dem N f17c31 f17a31 J (f17e16 y0 y1 y2 y3 y4 y5 y6 y7 y8 y9 y10 y11 y12) σ =
if (0 : Int) ≤ y6 ∧ y6 < (↑y3 : Int) then
  Option.bind y2 fun v0 =>
    Option.bind (St.ld σ (Prod.fst v0) (Prod.snd v0 + Int.toNat y6 * (1 : Nat))) fun v1 =>
      Option.bind (AV.toStr v1) fun v2 =>
        call dem (35 : Nat) [AV.str v2] σ fun v3 v4 =>
          Option.bind (AV.toTuple v3) fun v5 =>
            if List.length v5 = (2 : Nat) then
              Option.bind (List.head? v5) fun v6 =>
                Option.bind (AV.toInt IntKind.i64 v6) fun v7 =>
                  Option.bind (List.head? (List.tail v5)) fun v8 =>
                    Option.bind (AV.toInt IntKind.i64 v8) fun v9 =>
                      Option.bind y7 fun v10 =>
                        Option.bind (St.st v4 (Prod.fst v10) (Prod.snd v10) [AV.int IntKind.i64 v7]) fun v11 =>
                          J Ex.normal
                            (f17e17 y0 y1 y2 y3 y4 y5 y6 y7 y8 y9 y10 y11 y12 v7 v9 y7 y2 y3 y4 y6
                              (some (Prod.fst v0, Prod.snd v0 + Int.toNat y6 * (1 : Nat))) v2 v7 v9 v7 v9 (some v10))
                            v11
            else none
else none := hide (by kernel_rfl)
theorem f17z27_f17e17 (y0 : ByteArray) (y1 : Nat) (y2 : Option (Nat × Nat)) (y3 : Nat) (y4 : Option Nat) (y5 : Nat) (y6 : Int) (y7 : Option (Nat × Nat)) (y8 : Option (Nat × Nat)) (y9 : Nat) (y10 : Option Nat) (y11 : Int) (y12 : Int) (y13 : Int) (y14 : Int) (y15 : Option (Nat × Nat)) (y16 : Option (Nat × Nat)) (y17 : Nat) (y18 : Option Nat) (y19 : Int) (y20 : Option (Nat × Nat)) (y21 : ByteArray) (y22 : Int) (y23 : Int) (y24 : Int) (y25 : Int) (y26 : Option (Nat × Nat)) : Ann.clr f17a27 (f17e17 y0 y1 y2 y3 y4 y5 y6 y7 y8 y9 y10 y11 y12 y13 y14 y15 y16 y17 y18 y19 y20 y21 y22 y23 y24 y25 y26) = f17e13 y0 y1 y2 y3 y4 y5 y8 y9 y10 y11 y12 := hide (by kernel_rfl)
theorem f17z24_f17e13 (y0 : ByteArray) (y1 : Nat) (y2 : Option (Nat × Nat)) (y3 : Nat) (y4 : Option Nat) (y5 : Nat) (y6 : Option (Nat × Nat)) (y7 : Nat) (y8 : Option Nat) (y9 : Int) (y10 : Int) : Ann.clr f17a24 (f17e13 y0 y1 y2 y3 y4 y5 y6 y7 y8 y9 y10) = f17e13 y0 y1 y2 y3 y4 y5 y6 y7 y8 y9 y10 := hide (by kernel_rfl)
theorem f17r28_f17e13 {R : Type} (call : Bool → CallF R) (dem : Bool) (N : Nat) (y0 : ByteArray) (y1 : Nat) (y2 : Option (Nat × Nat)) (y3 : Nat) (y4 : Option Nat) (y5 : Nat) (y6 : Option (Nat × Nat)) (y7 : Nat) (y8 : Option Nat) (y9 : Int) (y10 : Int) (J : KF R) (σ : St) :
    runK Tryz.prog call dem N f17c28 f17a28 J (f17e13 y0 y1 y2 y3 y4 y5 y6 y7 y8 y9 y10) σ =
J Ex.normal (f17e18 y0 y1 y2 y3 y4 y5 y6 y7 y8 y9 (IntKind.wrap IntKind.i64 (y10 + (1 : Int))) (IntKind.wrap IntKind.i64 (y10 + (1 : Int)))) σ := hide (by kernel_rfl)
theorem f17z19_f17e18 (y0 : ByteArray) (y1 : Nat) (y2 : Option (Nat × Nat)) (y3 : Nat) (y4 : Option Nat) (y5 : Nat) (y6 : Option (Nat × Nat)) (y7 : Nat) (y8 : Option Nat) (y9 : Int) (y10 : Int) (y11 : Int) : Ann.clr f17a19 (f17e18 y0 y1 y2 y3 y4 y5 y6 y7 y8 y9 y10 y11) = f17e13 y0 y1 y2 y3 y4 y5 y6 y7 y8 y9 y10 := hide (by kernel_rfl)
theorem f17z18_f17e11 (y0 : ByteArray) (y1 : Nat) (y2 : Option (Nat × Nat)) (y3 : Nat) (y4 : Option Nat) (y5 : Nat) : Ann.clr f17a18 (f17e11 y0 y1 y2 y3 y4 y5) = f17e11 y0 y1 y2 y3 y4 y5 := hide (by kernel_rfl)
theorem f17z14_f17e11 (y0 : ByteArray) (y1 : Nat) (y2 : Option (Nat × Nat)) (y3 : Nat) (y4 : Option Nat) (y5 : Nat) : Ann.clr f17a14 (f17e11 y0 y1 y2 y3 y4 y5) = f17e11 y0 y1 y2 y3 y4 y5 := hide (by kernel_rfl)
theorem f17n16 {R : Type} (call : Bool → CallF R) (dem : Bool) (N : Nat) (J : KF R) (e : Env) (σ : St) : runK Tryz.prog call dem N f17c16 f17a16 J e σ = runK Tryz.prog call dem N f17c32 f17a32 (seqC (fun K e σ => runK Tryz.prog call dem N f17c33 f17a33 K e σ) f17a16 J) e σ := runK_seq' (by kernel_rfl) (by kernel_rfl) (by kernel_rfl)
theorem f17r32_f17e11 {R : Type} (call : Bool → CallF R) (dem : Bool) (N : Nat) (y0 : ByteArray) (y1 : Nat) (y2 : Option (Nat × Nat)) (y3 : Nat) (y4 : Option Nat) (y5 : Nat) (J : KF R) (σ : St) :
    runK Tryz.prog call dem N f17c32 f17a32 J (f17e11 y0 y1 y2 y3 y4 y5) σ =
if (0 : Int) ≤ (3 : Int) ∧ (3 : Int) < (↑y3 : Int) then
  Option.bind y2 fun v0 =>
    Option.bind (St.ld σ (Prod.fst v0) (Prod.snd v0 + (3 : Nat))) fun v1 =>
      Option.bind (AV.toStr v1) fun v2 =>
        Option.bind (St.st σ y5 (3 : Nat) [AV.str v2]) fun v3 =>
          J Ex.normal (f17e19 y0 y1 y2 y3 y4 y5 y2 y3 y4 (some (Prod.fst v0, Prod.snd v0 + (3 : Nat))) v2 y5) v3
else none := hide (by kernel_rfl)
theorem f17z16_f17e19 (y0 : ByteArray) (y1 : Nat) (y2 : Option (Nat × Nat)) (y3 : Nat) (y4 : Option Nat) (y5 : Nat) (y6 : Option (Nat × Nat)) (y7 : Nat) (y8 : Option Nat) (y9 : Option (Nat × Nat)) (y10 : ByteArray) (y11 : Nat) : Ann.clr f17a16 (f17e19 y0 y1 y2 y3 y4 y5 y6 y7 y8 y9 y10 y11) = f17e11 y0 y1 y2 y3 y4 y5 := hide (by kernel_rfl)
theorem f17n33 {R : Type} (call : Bool → CallF R) (dem : Bool) (N : Nat) (J : KF R) (e : Env) (σ : St) : runK Tryz.prog call dem N f17c33 f17a33 J e σ = runK Tryz.prog call dem N f17c34 f17a34 (seqC (fun K e σ => runK Tryz.prog call dem N f17c35 f17a35 K e σ) f17a33 J) e σ := runK_seq' (by kernel_rfl) (by kernel_rfl) (by kernel_rfl)
theorem f17n34 {R : Type} (call : Bool → CallF R) (dem : Bool) (N : Nat) (J : KF R) (e : Env) (σ : St) : runK Tryz.prog call dem N f17c34 f17a34 J e σ = runK Tryz.prog call dem N f17c36 f17a36 (seqC (fun K e σ => runK Tryz.prog call dem N f17c37 f17a37 K e σ) f17a34 J) e σ := runK_seq' (by kernel_rfl) (by kernel_rfl) (by kernel_rfl)
theorem f17r36_f17e11 {R : Type} (call : Bool → CallF R) (dem : Bool) (N : Nat) (y0 : ByteArray) (y1 : Nat) (y2 : Option (Nat × Nat)) (y3 : Nat) (y4 : Option Nat) (y5 : Nat) (J : KF R) (σ : St) :
    runK Tryz.prog call dem N f17c36 f17a36 J (f17e11 y0 y1 y2 y3 y4 y5) σ =
Option.bind (Sl.sub (1 : Nat) (Sl.mk y2 y3 y4) (some (4 : Int)) none none) fun v0 =>
  J Ex.normal (f17e20 y0 y1 y2 y3 y4 y5 y2 y3 y4 (Sl.o v0) (Sl.len v0) (Sl.cap v0) (↑(Sl.len v0) : Int) (0 : Int)) σ := hide (by kernel_rfl)
theorem f17z34_f17e20 (y0 : ByteArray) (y1 : Nat) (y2 : Option (Nat × Nat)) (y3 : Nat) (y4 : Option Nat) (y5 : Nat) (y6 : Option (Nat × Nat)) (y7 : Nat) (y8 : Option Nat) (y9 : Option (Nat × Nat)) (y10 : Nat) (y11 : Option Nat) (y12 : Int) (y13 : Int) : Ann.clr f17a34 (f17e20 y0 y1 y2 y3 y4 y5 y6 y7 y8 y9 y10 y11 y12 y13) = f17e21 y0 y1 y5 y9 y10 y11 y12 y13 := hide (by kernel_rfl)
theorem f17n37 {R : Type} (call : Bool → CallF R) (dem : Bool) (N : Nat) (J : KF R) (e : Env) (σ : St) : runK Tryz.prog call dem N f17c37 f17a37 J e σ = runK Tryz.prog call dem N f17c38 f17a38 (blockC 2 f17a37 J) e σ := runK_block' (by kernel_rfl) (by kernel_rfl)
theorem f17L38_eq {R : Type} (call : Bool → CallF R) (dem : Bool) (N : Nat) (J : KF R) (e : Env) (σ : St) : f17L38 call dem N J e σ = runK Tryz.prog call dem N f17c39 f17a39 J e σ := hide rfl
theorem f17z38_f17e21 (y0 : ByteArray) (y1 : Nat) (y2 : Nat) (y3 : Option (Nat × Nat)) (y4 : Nat) (y5 : Option Nat) (y6 : Int) (y7 : Int) : Ann.clr f17a38 (f17e21 y0 y1 y2 y3 y4 y5 y6 y7) = f17e21 y0 y1 y2 y3 y4 y5 y6 y7 := hide (by kernel_rfl)
theorem f17l38_f17e21 {R : Type} (call : Bool → CallF R) (dem : Bool) (N : Nat) (y0 : ByteArray) (y1 : Nat) (y2 : Nat) (y3 : Option (Nat × Nat)) (y4 : Nat) (y5 : Option Nat) (y6 : Int) (y7 : Int) (J : KF R) (σ : St) : runK Tryz.prog call dem N f17c38 f17a38 J (f17e21 y0 y1 y2 y3 y4 y5 y6 y7) σ = loopK (f17L38 call dem N) f17a38 N J (f17e21 y0 y1 y2 y3 y4 y5 y6 y7) σ := runK_loop' (by kernel_rfl) (by kernel_rfl) (by kernel_rfl)
theorem f17n39 {R : Type} (call : Bool → CallF R) (dem : Bool) (N : Nat) (J : KF R) (e : Env) (σ : St) : runK Tryz.prog call dem N f17c39 f17a39 J e σ = runK Tryz.prog call dem N f17c40 f17a40 (seqC (fun K e σ => runK Tryz.prog call dem N f17c41 f17a41 K e σ) f17a39 J) e σ := runK_seq' (by kernel_rfl) (by kernel_rfl) (by kernel_rfl)
theorem f17r40_f17e21 {R : Type} (call : Bool → CallF R) (dem : Bool) (N : Nat) (y0 : ByteArray) (y1 : Nat) (y2 : Nat) (y3 : Option (Nat × Nat)) (y4 : Nat) (y5 : Option Nat) (y6 : Int) (y7 : Int) (J : KF R) (σ : St) :
    runK Tryz.prog call dem N f17c40 f17a40 J (f17e21 y0 y1 y2 y3 y4 y5 y6 y7) σ =
J Ex.normal (f17e22 y0 y1 y2 y3 y4 y5 y6 y7 (decide (y7 < y6))) σ := hide (by kernel_rfl)
theorem f17z39_f17e22 (y0 : ByteArray) (y1 : Nat) (y2 : Nat) (y3 : Option (Nat × Nat)) (y4 : Nat) (y5 : Option Nat) (y6 : Int) (y7 : Int) (y8 : Bool) : Ann.clr f17a39 (f17e22 y0 y1 y2 y3 y4 y5 y6 y7 y8) = f17e22 y0 y1 y2 y3 y4 y5 y6 y7 y8 := hide (by kernel_rfl)
theorem f17n41 {R : Type} (call : Bool → CallF R) (dem : Bool) (N : Nat) (J : KF R) (e : Env) (σ : St) : runK Tryz.prog call dem N f17c41 f17a41 J e σ = runK Tryz.prog call dem N f17c42 f17a42 (seqC (fun K e σ => runK Tryz.prog call dem N f17c43 f17a43 K e σ) f17a41 J) e σ := runK_seq' (by kernel_rfl) (by kernel_rfl) (by kernel_rfl)
theorem f17x42_f17e22 {R : Type} (call : Bool → CallF R) (dem : Bool) (N : Nat) (y0 : ByteArray) (y1 : Nat) (y2 : Nat) (y3 : Option (Nat × Nat)) (y4 : Nat) (y5 : Option Nat) (y6 : Int) (y7 : Int) (y8 : Bool) (J : KF R) (σ : St) : runK Tryz.prog call dem N f17c42 f17a42 J (f17e22 y0 y1 y2 y3 y4 y5 y6 y7 y8) σ = if y8 = true then runK Tryz.prog call dem N f17c44 f17a44 (condC f17a42 J) (f17e22 y0 y1 y2 y3 y4 y5 y6 y7 y8) σ else runK Tryz.prog call dem N f17c45 f17a45 (condC f17a42 J) (f17e22 y0 y1 y2 y3 y4 y5 y6 y7 y8) σ := runK_cond' (o := Operand.tmp (58 : Nat)) (by kernel_rfl) (by kernel_rfl) (by kernel_rfl) (by kernel_rfl)
theorem f17n44 {R : Type} (call : Bool → CallF R) (dem : Bool) (N : Nat) (J : KF R) (e : Env) (σ : St) : runK Tryz.prog call dem N f17c44 f17a44 J e σ = J .normal e σ := runK_skip' (by kernel_rfl)
theorem f17z42_f17e22 (y0 : ByteArray) (y1 : Nat) (y2 : Nat) (y3 : Option (Nat × Nat)) (y4 : Nat) (y5 : Option Nat) (y6 : Int) (y7 : Int) (y8 : Bool) : Ann.clr f17a42 (f17e22 y0 y1 y2 y3 y4 y5 y6 y7 y8) = f17e21 y0 y1 y2 y3 y4 y5 y6 y7 := hide (by kernel_rfl)
theorem f17y45_f17e22 {R : Type} (call : Bool → CallF R) (dem : Bool) (N : Nat) (y0 : ByteArray) (y1 : Nat) (y2 : Nat) (y3 : Option (Nat × Nat)) (y4 : Nat) (y5 : Option Nat) (y6 : Int) (y7 : Int) (y8 : Bool) (J : KF R) (σ : St) : runK Tryz.prog call dem N f17c45 f17a45 J (f17e22 y0 y1 y2 y3 y4 y5 y6 y7 y8) σ = J (.exit 2) (f17e23 y0 y1 y2) σ := runK_exit' (by kernel_rfl) (by kernel_rfl)
theorem f17z41_f17e21 (y0 : ByteArray) (y1 : Nat) (y2 : Nat) (y3 : Option (Nat × Nat)) (y4 : Nat) (y5 : Option Nat) (y6 : Int) (y7 : Int) : Ann.clr f17a41 (f17e21 y0 y1 y2 y3 y4 y5 y6 y7) = f17e21 y0 y1 y2 y3 y4 y5 y6 y7 := hide (by kernel_rfl)
theorem f17n43 {R : Type} (call : Bool → CallF R) (dem : Bool) (N : Nat) (J : KF R) (e : Env) (σ : St) : runK Tryz.prog call dem N f17c43 f17a43 J e σ = runK Tryz.prog call dem N f17c46 f17a46 (seqC (fun K e σ => runK Tryz.prog call dem N f17c47 f17a47 K e σ) f17a43 J) e σ := runK_seq' (by kernel_rfl) (by kernel_rfl) (by kernel_rfl)
theorem f17n46 {R : Type} (call : Bool → CallF R) (dem : Bool) (N : Nat) (J : KF R) (e : Env) (σ : St) : runK Tryz.prog call dem N f17c46 f17a46 J e σ = runK Tryz.prog call dem N f17c48 f17a48 (blockC 3 f17a46 J) e σ := runK_block' (by kernel_rfl) (by kernel_rfl)
theorem f17n48 {R : Type} (call : Bool → CallF R) (dem : Bool) (N : Nat) (J : KF R) (e : Env) (σ : St) : runK Tryz.prog call dem N f17c48 f17a48 J e σ = runK Tryz.prog call dem N f17c49 f17a49 (seqC (fun K e σ => runK Tryz.prog call dem N f17c50 f17a50 K e σ) f17a48 J) e σ := runK_seq' (by kernel_rfl) (by kernel_rfl) (by kernel_rfl)
theorem f17r49_f17e21 {R : Type} (call : Bool → CallF R) (dem : Bool) (N : Nat) (y0 : ByteArray) (y1 : Nat) (y2 : Nat) (y3 : Option (Nat × Nat)) (y4 : Nat) (y5 : Option Nat) (y6 : Int) (y7 : Int) (J : KF R) (σ : St) :
    runK Tryz.prog call dem N f17c49 f17a49 J (f17e21 y0 y1 y2 y3 y4 y5 y6 y7) σ =
if (0 : Int) ≤ y7 ∧ y7 < (↑y4 : Int) then
  Option.bind y3 fun v0 =>
    Option.bind (St.ld σ (Prod.fst v0) (Prod.snd v0 + Int.toNat y7 * (1 : Nat))) fun v1 =>
      Option.bind (AV.toStr v1) fun v2 =>
        J Ex.normal (f17e24 y0 y1 y2 v2 y3 y4 y5 y6 y7 (some (Prod.fst v0, Prod.snd v0 + Int.toNat y7 * (1 : Nat))) v2) σ
else none := hide (by kernel_rfl)
theorem f17z48_f17e24 (y0 : ByteArray) (y1 : Nat) (y2 : Nat) (y3 : ByteArray) (y4 : Option (Nat × Nat)) (y5 : Nat) (y6 : Option Nat) (y7 : Int) (y8 : Int) (y9 : Option (Nat × Nat)) (y10 : ByteArray) : Ann.clr f17a48 (f17e24 y0 y1 y2 y3 y4 y5 y6 y7 y8 y9 y10) = f17e25 y0 y1 y2 y3 y4 y5 y6 y7 y8 := hide (by kernel_rfl)
theorem f17n50 {R : Type} (call : Bool → CallF R) (dem : Bool) (N : Nat) (J : KF R) (e : Env) (σ : St) : runK Tryz.prog call dem N f17c50 f17a50 J e σ = runK Tryz.prog call dem N f17c51 f17a51 (seqC (fun K e σ => runK Tryz.prog call dem N f17c52 f17a52 K e σ) f17a50 J) e σ := runK_seq' (by kernel_rfl) (by kernel_rfl) (by kernel_rfl)
theorem f17r51_f17e25 {R : Type} (call : Bool → CallF R) (dem : Bool) (N : Nat) (y0 : ByteArray) (y1 : Nat) (y2 : Nat) (y3 : ByteArray) (y4 : Option (Nat × Nat)) (y5 : Nat) (y6 : Option Nat) (y7 : Int) (y8 : Int) (J : KF R) (σ : St) :
    runK Tryz.prog call dem N f17c51 f17a51 J (f17e25 y0 y1 y2 y3 y4 y5 y6 y7 y8) σ =
call dem (35 : Nat) [AV.str y3] σ fun v0 v1 =>
  Option.bind (AV.toTuple v0) fun v2 =>
    if List.length v2 = (2 : Nat) then
      Option.bind (List.head? v2) fun v3 =>
        Option.bind (AV.toInt IntKind.i64 v3) fun v4 =>
          Option.bind (List.head? (List.tail v2)) fun v5 =>
            Option.bind (AV.toInt IntKind.i64 v5) fun v6 => J Ex.normal (f17e26 y0 y1 y2 y3 v4 v6 y4 y5 y6 y7 y8 v4 v6 y3 v4 v6 v4 v6) v1
    else none := hide (by kernel_rfl)
theorem f17z50_f17e26 (y0 : ByteArray) (y1 : Nat) (y2 : Nat) (y3 : ByteArray) (y4 : Int) (y5 : Int) (y6 : Option (Nat × Nat)) (y7 : Nat) (y8 : Option Nat) (y9 : Int) (y10 : Int) (y11 : Int) (y12 : Int) (y13 : ByteArray) (y14 : Int) (y15 : Int) (y16 : Int) (y17 : Int) : Ann.clr f17a50 (f17e26 y0 y1 y2 y3 y4 y5 y6 y7 y8 y9 y10 y11 y12 y13 y14 y15 y16 y17) = f17e27 y0 y1 y2 y4 y6 y7 y8 y9 y10 := hide (by kernel_rfl)
theorem f17r52_f17e27 {R : Type} (call : Bool → CallF R) (dem : Bool) (N : Nat) (y0 : ByteArray) (y1 : Nat) (y2 : Nat) (y3 : Int) (y4 : Option (Nat × Nat)) (y5 : Nat) (y6 : Option Nat) (y7 : Int) (y8 : Int) (J : KF R) (σ : St) :
    runK Tryz.prog call dem N f17c52 f17a52 J (f17e27 y0 y1 y2 y3 y4 y5 y6 y7 y8) σ =
Option.bind (St.ld σ y2 (4 : Nat)) fun v0 =>
  Option.bind (AV.toSl (1 : Nat) v0) fun v1 =>
    Option.bind
      (St.elems (St.new σ (Blk.cells [AV.int IntKind.i64 y3] true)) (1 : Nat) (Sl.mk (some (St.next σ, (0 : Nat))) (1 : Nat) (some (1 : Nat)))
        (1 : Nat))
      fun v2 =>
      Option.bind
        (St.app (St.new σ (Blk.cells [AV.int IntKind.i64 y3] true)) (1 : Nat) (8 : Nat) (Sl.mk (Sl.o v1) (Sl.len v1) (Sl.cap v1)) (1 : Nat) v2)
        fun v3 =>
        Option.bind (St.st (Prod.snd v3) y2 (4 : Nat) [AV.slice (Sl.o (Prod.fst v3)) (Sl.len (Prod.fst v3)) (Sl.cap (Prod.fst v3)) (1 : Nat)])
          fun v4 =>
          J Ex.normal
            (f17e28 y0 y1 y2 y3 y4 y5 y6 y7 y8 y2 (Sl.o v1) (Sl.len v1) (Sl.cap v1) y3 (some (St.next σ, (0 : Nat))) (1 : Nat) (some (1 : Nat))
              (Sl.o (Prod.fst v3)) (Sl.len (Prod.fst v3)) (Sl.cap (Prod.fst v3)) y2)
            v4 := hide (by kernel_rfl)
theorem f17z46_f17e28 (y0 : ByteArray) (y1 : Nat) (y2 : Nat) (y3 : Int) (y4 : Option (Nat × Nat)) (y5 : Nat) (y6 : Option Nat) (y7 : Int) (y8 : Int) (y9 : Nat) (y10 : Option (Nat × Nat)) (y11 : Nat) (y12 : Option Nat) (y13 : Int) (y14 : Option (Nat × Nat)) (y15 : Nat) (y16 : Option Nat) (y17 : Option (Nat × Nat)) (y18 : Nat) (y19 : Option Nat) (y20 : Nat) : Ann.clr f17a46 (f17e28 y0 y1 y2 y3 y4 y5 y6 y7 y8 y9 y10 y11 y12 y13 y14 y15 y16 y17 y18 y19 y20) = f17e21 y0 y1 y2 y4 y5 y6 y7 y8 := hide (by kernel_rfl)
theorem f17z43_f17e21 (y0 : ByteArray) (y1 : Nat) (y2 : Nat) (y3 : Option (Nat × Nat)) (y4 : Nat) (y5 : Option Nat) (y6 : Int) (y7 : Int) : Ann.clr f17a43 (f17e21 y0 y1 y2 y3 y4 y5 y6 y7) = f17e21 y0 y1 y2 y3 y4 y5 y6 y7 := hide (by kernel_rfl)
theorem f17r47_f17e21 {R : Type} (call : Bool → CallF R) (dem : Bool) (N : Nat) (y0 : ByteArray) (y1 : Nat) (y2 : Nat) (y3 : Option (Nat × Nat)) (y4 : Nat) (y5 : Option Nat) (y6 : Int) (y7 : Int) (J : KF R) (σ : St) :
    runK Tryz.prog call dem N f17c47 f17a47 J (f17e21 y0 y1 y2 y3 y4 y5 y6 y7) σ =
J Ex.normal (f17e29 y0 y1 y2 y3 y4 y5 y6 (IntKind.wrap IntKind.i64 (y7 + (1 : Int))) (IntKind.wrap IntKind.i64 (y7 + (1 : Int)))) σ := hide (by kernel_rfl)
theorem f17z38_f17e29 (y0 : ByteArray) (y1 : Nat) (y2 : Nat) (y3 : Option (Nat × Nat)) (y4 : Nat) (y5 : Option Nat) (y6 : Int) (y7 : Int) (y8 : Int) : Ann.clr f17a38 (f17e29 y0 y1 y2 y3 y4 y5 y6 y7 y8) = f17e21 y0 y1 y2 y3 y4 y5 y6 y7 := hide (by kernel_rfl)
theorem f17z37_f17e23 (y0 : ByteArray) (y1 : Nat) (y2 : Nat) : Ann.clr f17a37 (f17e23 y0 y1 y2) = f17e23 y0 y1 y2 := hide (by kernel_rfl)
theorem f17z33_f17e23 (y0 : ByteArray) (y1 : Nat) (y2 : Nat) : Ann.clr f17a33 (f17e23 y0 y1 y2) = f17e23 y0 y1 y2 := hide (by kernel_rfl)
theorem f17n35 {R : Type} (call : Bool → CallF R) (dem : Bool) (N : Nat) (J : KF R) (e : Env) (σ : St) : runK Tryz.prog call dem N f17c35 f17a35 J e σ = runK Tryz.prog call dem N f17c53 f17a53 (seqC (fun K e σ => runK Tryz.prog call dem N f17c54 f17a54 K e σ) f17a35 J) e σ := runK_seq' (by kernel_rfl) (by kernel_rfl) (by kernel_rfl)
theorem f17r53_f17e23 {R : Type} (call : Bool → CallF R) (dem : Bool) (N : Nat) (y0 : ByteArray) (y1 : Nat) (y2 : Nat) (J : KF R) (σ : St) :
    runK Tryz.prog call dem N f17c53 f17a53 J (f17e23 y0 y1 y2) σ =
Option.bind (St.ld σ y2 (0 : Nat)) fun v0 =>
  Option.bind (AV.toInt IntKind.i64 v0) fun v1 =>
    Option.bind (St.ld σ y2 (1 : Nat)) fun v2 =>
      Option.bind (AV.toInt IntKind.i64 v2) fun v3 =>
        Option.bind (St.ld σ y2 (2 : Nat)) fun v4 =>
          Option.bind (AV.toInt IntKind.i64 v4) fun v5 =>
            Option.bind (St.ld σ y2 (3 : Nat)) fun v6 =>
              Option.bind (AV.toStr v6) fun v7 =>
                Option.bind (St.ld σ y2 (4 : Nat)) fun v8 =>
                  Option.bind (AV.toSl (1 : Nat) v8) fun v9 =>
                    Option.bind (St.ld σ y2 (5 : Nat)) fun v10 =>
                      Option.bind (AV.toSl (12 : Nat) v10) fun v11 =>
                        Option.bind (St.ld σ y2 (0 : Nat)) fun v12 =>
                          Option.bind (AV.toInt IntKind.i64 v12) fun v13 =>
                            Option.bind (St.ld σ y2 (1 : Nat)) fun v14 =>
                              Option.bind (AV.toInt IntKind.i64 v14) fun v15 =>
                                Option.bind (St.ld σ y2 (2 : Nat)) fun v16 =>
                                  Option.bind (AV.toInt IntKind.i64 v16) fun v17 =>
                                    Option.bind (St.ld σ y2 (3 : Nat)) fun v18 =>
                                      Option.bind (AV.toStr v18) fun v19 =>
                                        Option.bind (St.ld σ y2 (4 : Nat)) fun v20 =>
                                          Option.bind (AV.toSl (1 : Nat) v20) fun v21 =>
                                            Option.bind (St.ld σ y2 (5 : Nat)) fun v22 =>
                                              Option.bind (AV.toSl (12 : Nat) v22) fun v23 =>
                                                call false (13 : Nat)
                                                  [AV.agg
                                                      [AV.int IntKind.i64 v13, AV.int IntKind.i64 v15, AV.int IntKind.i64 v17, AV.str v19,
                                                        AV.slice (Sl.o v21) (Sl.len v21) (Sl.cap v21) (1 : Nat),
                                                        AV.slice (Sl.o v23) (Sl.len v23) (Sl.cap v23) (12 : Nat)]]
                                                  σ fun v24 v25 =>
                                                  Option.bind (AV.toStr v24) fun v26 =>
                                                    if
                                                        St.same v25 y2 (0 : Nat)
                                                            [AV.int IntKind.i64 v1, AV.int IntKind.i64 v3, AV.int IntKind.i64 v5, AV.str v7,
                                                              AV.slice (Sl.o v9) (Sl.len v9) (Sl.cap v9) (1 : Nat),
                                                              AV.slice (Sl.o v11) (Sl.len v11) (Sl.cap v11) (12 : Nat)] =
                                                          true then
                                                      if decide (v26 = y0) = true then
                                                        Option.bind (St.ld v25 y2 (0 : Nat)) fun v27 =>
                                                          Option.bind (AV.toInt IntKind.i64 v27) fun v28 =>
                                                            Option.bind (St.ld v25 y2 (1 : Nat)) fun v29 =>
                                                              Option.bind (AV.toInt IntKind.i64 v29) fun v30 =>
                                                                Option.bind (St.ld v25 y2 (2 : Nat)) fun v31 =>
                                                                  Option.bind (AV.toInt IntKind.i64 v31) fun v32 =>
                                                                    Option.bind (St.ld v25 y2 (3 : Nat)) fun v33 =>
                                                                      Option.bind (AV.toStr v33) fun v34 =>
                                                                        Option.bind (St.ld v25 y2 (4 : Nat)) fun v35 =>
                                                                          Option.bind (AV.toSl (1 : Nat) v35) fun v36 =>
                                                                            Option.bind (St.ld v25 y2 (5 : Nat)) fun v37 =>
                                                                              Option.bind (AV.toSl (12 : Nat) v37) fun v38 =>
                                                                                call false (12 : Nat)
                                                                                  [AV.agg
                                                                                      [AV.int IntKind.i64 v28, AV.int IntKind.i64 v30,
                                                                                        AV.int IntKind.i64 v32, AV.str v34,
                                                                                        AV.slice (Sl.o v36) (Sl.len v36) (Sl.cap v36) (1 : Nat),
                                                                                        AV.slice (Sl.o v38) (Sl.len v38) (Sl.cap v38) (12 : Nat)]]
                                                                                  v25 fun v39 v40 =>
                                                                                  Option.bind (AV.toBool v39) fun v41 =>
                                                                                    if
                                                                                        St.same v40 y2 (0 : Nat)
                                                                                            [AV.int IntKind.i64 v1, AV.int IntKind.i64 v3,
                                                                                              AV.int IntKind.i64 v5, AV.str v7,
                                                                                              AV.slice (Sl.o v9) (Sl.len v9) (Sl.cap v9) (1 : Nat),
                                                                                              AV.slice (Sl.o v11) (Sl.len v11) (Sl.cap v11)
                                                                                                (12 : Nat)] =
                                                                                          true then
                                                                                      Option.bind
                                                                                        (St.st v40 y1 (0 : Nat)
                                                                                          [AV.int IntKind.i64 v1, AV.int IntKind.i64 v3,
                                                                                            AV.int IntKind.i64 v5, AV.str v7,
                                                                                            AV.slice (Sl.o v9) (Sl.len v9) (Sl.cap v9) (1 : Nat),
                                                                                            AV.slice (Sl.o v11) (Sl.len v11) (Sl.cap v11) (12 : Nat)])
                                                                                        fun v42 =>
                                                                                        J Ex.normal
                                                                                          (f17e30 y0 y1 (!v41) y2 v1 v3 v5 v7 (Sl.o v9) (Sl.len v9)
                                                                                            (Sl.cap v9) (Sl.o v11) (Sl.len v11) (Sl.cap v11) v13 v15
                                                                                            v17 v19 (Sl.o v21) (Sl.len v21) (Sl.cap v21) (Sl.o v23)
                                                                                            (Sl.len v23) (Sl.cap v23) v26 y0 (decide (v26 = y0)) true
                                                                                            v28 v30 v32 v34 (Sl.o v36) (Sl.len v36) (Sl.cap v36)
                                                                                            (Sl.o v38) (Sl.len v38) (Sl.cap v38) v41 (!v41) !v41)
                                                                                          v42
                                                                                    else none
                                                      else
                                                        Option.bind
                                                          (St.st v25 y1 (0 : Nat)
                                                            [AV.int IntKind.i64 v1, AV.int IntKind.i64 v3, AV.int IntKind.i64 v5, AV.str v7,
                                                              AV.slice (Sl.o v9) (Sl.len v9) (Sl.cap v9) (1 : Nat),
                                                              AV.slice (Sl.o v11) (Sl.len v11) (Sl.cap v11) (12 : Nat)])
                                                          fun v27 =>
                                                          J Ex.normal
                                                            (f17e31 y0 y1 false y2 v1 v3 v5 v7 (Sl.o v9) (Sl.len v9) (Sl.cap v9) (Sl.o v11)
                                                              (Sl.len v11) (Sl.cap v11) v13 v15 v17 v19 (Sl.o v21) (Sl.len v21) (Sl.cap v21)
                                                              (Sl.o v23) (Sl.len v23) (Sl.cap v23) v26 y0 (decide (v26 = y0)) false false)
                                                            v27
                                                    else none := hide (by kernel_rfl)
theorem f17z35_f17e30 (y0 : ByteArray) (y1 : Nat) (y2 : Bool) (y3 : Nat) (y4 : Int) (y5 : Int) (y6 : Int) (y7 : ByteArray) (y8 : Option (Nat × Nat)) (y9 : Nat) (y10 : Option Nat) (y11 : Option (Nat × Nat)) (y12 : Nat) (y13 : Option Nat) (y14 : Int) (y15 : Int) (y16 : Int) (y17 : ByteArray) (y18 : Option (Nat × Nat)) (y19 : Nat) (y20 : Option Nat) (y21 : Option (Nat × Nat)) (y22 : Nat) (y23 : Option Nat) (y24 : ByteArray) (y25 : ByteArray) (y26 : Bool) (y27 : Bool) (y28 : Int) (y29 : Int) (y30 : Int) (y31 : ByteArray) (y32 : Option (Nat × Nat)) (y33 : Nat) (y34 : Option Nat) (y35 : Option (Nat × Nat)) (y36 : Nat) (y37 : Option Nat) (y38 : Bool) (y39 : Bool) (y40 : Bool) : Ann.clr f17a35 (f17e30 y0 y1 y2 y3 y4 y5 y6 y7 y8 y9 y10 y11 y12 y13 y14 y15 y16 y17 y18 y19 y20 y21 y22 y23 y24 y25 y26 y27 y28 y29 y30 y31 y32 y33 y34 y35 y36 y37
  y38 y39 y40) = f17e9 y1 y2 := hide (by kernel_rfl)
theorem f17y54_f17e9 {R : Type} (call : Bool → CallF R) (dem : Bool) (N : Nat) (y0 : Nat) (y1 : Bool) (J : KF R) (σ : St) : runK Tryz.prog call dem N f17c54 f17a54 J (f17e9 y0 y1) σ = J .ret (f17e9 y0 y1) σ := runK_ret' (by kernel_rfl) (by kernel_rfl)
theorem f17z35_f17e31 (y0 : ByteArray) (y1 : Nat) (y2 : Bool) (y3 : Nat) (y4 : Int) (y5 : Int) (y6 : Int) (y7 : ByteArray) (y8 : Option (Nat × Nat)) (y9 : Nat) (y10 : Option Nat) (y11 : Option (Nat × Nat)) (y12 : Nat) (y13 : Option Nat) (y14 : Int) (y15 : Int) (y16 : Int) (y17 : ByteArray) (y18 : Option (Nat × Nat)) (y19 : Nat) (y20 : Option Nat) (y21 : Option (Nat × Nat)) (y22 : Nat) (y23 : Option Nat) (y24 : ByteArray) (y25 : ByteArray) (y26 : Bool) (y27 : Bool) (y28 : Bool) : Ann.clr f17a35 (f17e31 y0 y1 y2 y3 y4 y5 y6 y7 y8 y9 y10 y11 y12 y13 y14 y15 y16 y17 y18 y19 y20 y21 y22 y23 y24 y25 y26 y27 y28) = f17e9 y1 y2 := hide (by kernel_rfl)
theorem f17b_f17e9_r {R : Type} (y0 : Nat) (y1 : Bool) (σ : St) (K : AV → St → Option R) : bodyC Tryz.prog f17rs K (Ex.ret) (f17e9 y0 y1) σ =
Option.bind (St.ld σ y0 (0 : Nat)) fun v0 =>
  Option.bind (AV.toInt IntKind.i64 v0) fun v1 =>
    Option.bind (St.ld σ y0 (1 : Nat)) fun v2 =>
      Option.bind (AV.toInt IntKind.i64 v2) fun v3 =>
        Option.bind (St.ld σ y0 (2 : Nat)) fun v4 =>
          Option.bind (AV.toInt IntKind.i64 v4) fun v5 =>
            Option.bind (St.ld σ y0 (3 : Nat)) fun v6 =>
              Option.bind (AV.toStr v6) fun v7 =>
                Option.bind (St.ld σ y0 (4 : Nat)) fun v8 =>
                  Option.bind (AV.toSl (1 : Nat) v8) fun v9 =>
                    Option.bind (St.ld σ y0 (5 : Nat)) fun v10 =>
                      Option.bind (AV.toSl (12 : Nat) v10) fun v11 =>
                        K
                          (AV.tuple
                            [AV.agg
                                [AV.int IntKind.i64 v1, AV.int IntKind.i64 v3, AV.int IntKind.i64 v5, AV.str v7,
                                  AV.slice (Sl.o v9) (Sl.len v9) (Sl.cap v9) (1 : Nat), AV.slice (Sl.o v11) (Sl.len v11) (Sl.cap v11) (12 : Nat)],
                              AV.bool y1])
                          σ := hide (by kernel_rfl)
attribute [go_sem] f17_eq f17n0 f17r1_f17e0 f17z0_f17e1 f17n2 f17r3_f17e2 f17z2_f17e3 f17n4 f17n5 f17r7_f17e4 f17z5_f17e5 f17x8_f17e7 f17n9 f17r11_f17e7 f17z9_f17e8 f17y12_f17e9 f17n10 f17z8_f17e7 f17z5_f17e6 f17z4_f17e10 f17n6 f17r13_f17e10 f17z6_f17e11 f17n14 f17n15 f17r17_f17e11 f17z15_f17e12 f17n18 f17L19_eq f17z19_f17e13 f17l19_f17e13 f17n20 f17r21_f17e13 f17z20_f17e14 f17n22 f17x23_f17e14 f17n25 f17z23_f17e14 f17y26_f17e14 f17z22_f17e13 f17n24 f17n27 f17n29 f17r30_f17e13 f17z29_f17e15 f17r31_f17e16 f17z27_f17e17 f17z24_f17e13 f17r28_f17e13 f17z19_f17e18 f17z18_f17e11 f17z14_f17e11 f17n16 f17r32_f17e11 f17z16_f17e19 f17n33 f17n34 f17r36_f17e11 f17z34_f17e20 f17n37 f17L38_eq f17z38_f17e21 f17l38_f17e21 f17n39 f17r40_f17e21 f17z39_f17e22 f17n41 f17x42_f17e22 f17n44 f17z42_f17e22 f17y45_f17e22 f17z41_f17e21 f17n43 f17n46 f17n48 f17r49_f17e21 f17z48_f17e24 f17n50 f17r51_f17e25 f17z50_f17e26 f17r52_f17e27 f17z46_f17e28 f17z43_f17e21 f17r47_f17e21 f17z38_f17e29 f17z37_f17e23 f17z33_f17e23 f17n35 f17r53_f17e23 f17z35_f17e30 f17y54_f17e9 f17z35_f17e31 f17b_f17e9_r

end Go.Proofs.YtnjhcfcnpapaiaaGreatDoor
