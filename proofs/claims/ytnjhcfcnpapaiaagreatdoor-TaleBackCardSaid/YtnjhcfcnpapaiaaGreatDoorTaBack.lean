/- What the machine does with each piece of code, in plain text. PRINTED by a program of this workplace; Lean checks it. -/
import Derived.Test.YtnjhcfcnpapaiaaGreatDoorTaAnn
import Derived.Test.YtnjhcfcnpapaiaaGreatDoorProg
import Derived.KernelRfl
import Derived.Attr
namespace Go.Proofs.YtnjhcfcnpapaiaaGreatDoor
open Go.AM
set_option maxRecDepth 100000
set_option linter.unusedVariables false
noncomputable def f3rs : List ResultVar := [ResultVar.tmp (4 : Nat)]
noncomputable def f3c0 : Code := subCode [] (bodyOf Tryz.prog 3)
def f3a0 : Ann := subAnn [] ann3
noncomputable def f3c1 : Code := subCode [0] (bodyOf Tryz.prog 3)
def f3a1 : Ann := subAnn [0] ann3
noncomputable def f3c2 : Code := subCode [1] (bodyOf Tryz.prog 3)
def f3a2 : Ann := subAnn [1] ann3
noncomputable def f3c3 : Code := subCode [1, 0] (bodyOf Tryz.prog 3)
def f3a3 : Ann := subAnn [1, 0] ann3
noncomputable def f3c4 : Code := subCode [1, 1] (bodyOf Tryz.prog 3)
def f3a4 : Ann := subAnn [1, 1] ann3
noncomputable def f3c5 : Code := subCode [1, 0, 0] (bodyOf Tryz.prog 3)
def f3a5 : Ann := subAnn [1, 0, 0] ann3
noncomputable def f3c6 : Code := subCode [1, 0, 1] (bodyOf Tryz.prog 3)
def f3a6 : Ann := subAnn [1, 0, 1] ann3
noncomputable def f3c7 : Code := subCode [1, 0, 1, 0] (bodyOf Tryz.prog 3)
def f3a7 : Ann := subAnn [1, 0, 1, 0] ann3
noncomputable def f3c8 : Code := subCode [1, 0, 1, 1] (bodyOf Tryz.prog 3)
def f3a8 : Ann := subAnn [1, 0, 1, 1] ann3
noncomputable def f3c9 : Code := subCode [1, 0, 1, 0, 0] (bodyOf Tryz.prog 3)
def f3a9 : Ann := subAnn [1, 0, 1, 0, 0] ann3
noncomputable def f3c10 : Code := subCode [1, 0, 1, 0, 1] (bodyOf Tryz.prog 3)
def f3a10 : Ann := subAnn [1, 0, 1, 0, 1] ann3
noncomputable def f3c11 : Code := subCode [1, 1, 0] (bodyOf Tryz.prog 3)
def f3a11 : Ann := subAnn [1, 1, 0] ann3
noncomputable def f3c12 : Code := subCode [1, 1, 1] (bodyOf Tryz.prog 3)
def f3a12 : Ann := subAnn [1, 1, 1] ann3
noncomputable def f3c13 : Code := subCode [1, 1, 1, 0] (bodyOf Tryz.prog 3)
def f3a13 : Ann := subAnn [1, 1, 1, 0] ann3
noncomputable def f3c14 : Code := subCode [1, 1, 1, 1] (bodyOf Tryz.prog 3)
def f3a14 : Ann := subAnn [1, 1, 1, 1] ann3
noncomputable def f3c15 : Code := subCode [1, 1, 1, 0, 0] (bodyOf Tryz.prog 3)
def f3a15 : Ann := subAnn [1, 1, 1, 0, 0] ann3
noncomputable def f3c16 : Code := subCode [1, 1, 1, 0, 1] (bodyOf Tryz.prog 3)
def f3a16 : Ann := subAnn [1, 1, 1, 0, 1] ann3
noncomputable def f3c17 : Code := subCode [1, 1, 1, 0, 1, 0] (bodyOf Tryz.prog 3)
def f3a17 : Ann := subAnn [1, 1, 1, 0, 1, 0] ann3
noncomputable def f3c18 : Code := subCode [1, 1, 1, 0, 1, 1] (bodyOf Tryz.prog 3)
def f3a18 : Ann := subAnn [1, 1, 1, 0, 1, 1] ann3
noncomputable def f3c19 : Code := subCode [1, 1, 1, 0, 1, 0, 0] (bodyOf Tryz.prog 3)
def f3a19 : Ann := subAnn [1, 1, 1, 0, 1, 0, 0] ann3
noncomputable def f3c20 : Code := subCode [1, 1, 1, 0, 1, 0, 1] (bodyOf Tryz.prog 3)
def f3a20 : Ann := subAnn [1, 1, 1, 0, 1, 0, 1] ann3
noncomputable def f3c21 : Code := subCode [1, 1, 1, 0, 1, 0, 1, 0] (bodyOf Tryz.prog 3)
def f3a21 : Ann := subAnn [1, 1, 1, 0, 1, 0, 1, 0] ann3
noncomputable def f3c22 : Code := subCode [1, 1, 1, 0, 1, 0, 1, 1] (bodyOf Tryz.prog 3)
def f3a22 : Ann := subAnn [1, 1, 1, 0, 1, 0, 1, 1] ann3
noncomputable def f3c23 : Code := subCode [1, 1, 1, 0, 1, 0, 1, 1, 0] (bodyOf Tryz.prog 3)
def f3a23 : Ann := subAnn [1, 1, 1, 0, 1, 0, 1, 1, 0] ann3
noncomputable def f3c24 : Code := subCode [1, 1, 1, 0, 1, 0, 1, 1, 1] (bodyOf Tryz.prog 3)
def f3a24 : Ann := subAnn [1, 1, 1, 0, 1, 0, 1, 1, 1] ann3
noncomputable def f3c25 : Code := subCode [1, 1, 1, 0, 1, 0, 1, 1, 0, 0] (bodyOf Tryz.prog 3)
def f3a25 : Ann := subAnn [1, 1, 1, 0, 1, 0, 1, 1, 0, 0] ann3
noncomputable def f3c26 : Code := subCode [1, 1, 1, 0, 1, 0, 1, 1, 0, 1] (bodyOf Tryz.prog 3)
def f3a26 : Ann := subAnn [1, 1, 1, 0, 1, 0, 1, 1, 0, 1] ann3
noncomputable def f3c27 : Code := subCode [1, 1, 1, 1, 0] (bodyOf Tryz.prog 3)
def f3a27 : Ann := subAnn [1, 1, 1, 1, 0] ann3
noncomputable def f3c28 : Code := subCode [1, 1, 1, 1, 1] (bodyOf Tryz.prog 3)
def f3a28 : Ann := subAnn [1, 1, 1, 1, 1] ann3
noncomputable def f3c29 : Code := subCode [1, 1, 1, 1, 1, 0] (bodyOf Tryz.prog 3)
def f3a29 : Ann := subAnn [1, 1, 1, 1, 1, 0] ann3
noncomputable def f3c30 : Code := subCode [1, 1, 1, 1, 1, 1] (bodyOf Tryz.prog 3)
def f3a30 : Ann := subAnn [1, 1, 1, 1, 1, 1] ann3
noncomputable def f3c31 : Code := subCode [1, 1, 1, 1, 1, 0, 0] (bodyOf Tryz.prog 3)
def f3a31 : Ann := subAnn [1, 1, 1, 1, 1, 0, 0] ann3
noncomputable def f3c32 : Code := subCode [1, 1, 1, 1, 1, 0, 1] (bodyOf Tryz.prog 3)
def f3a32 : Ann := subAnn [1, 1, 1, 1, 1, 0, 1] ann3
noncomputable def f3c33 : Code := subCode [1, 1, 1, 1, 1, 0, 1, 0] (bodyOf Tryz.prog 3)
def f3a33 : Ann := subAnn [1, 1, 1, 1, 1, 0, 1, 0] ann3
noncomputable def f3c34 : Code := subCode [1, 1, 1, 1, 1, 0, 1, 1] (bodyOf Tryz.prog 3)
def f3a34 : Ann := subAnn [1, 1, 1, 1, 1, 0, 1, 1] ann3
noncomputable def f3c35 : Code := subCode [1, 1, 1, 1, 1, 0, 1, 0, 0] (bodyOf Tryz.prog 3)
def f3a35 : Ann := subAnn [1, 1, 1, 1, 1, 0, 1, 0, 0] ann3
noncomputable def f3c36 : Code := subCode [1, 1, 1, 1, 1, 0, 1, 0, 1] (bodyOf Tryz.prog 3)
def f3a36 : Ann := subAnn [1, 1, 1, 1, 1, 0, 1, 0, 1] ann3
noncomputable def f3c37 : Code := subCode [1, 1, 1, 1, 1, 1, 0] (bodyOf Tryz.prog 3)
def f3a37 : Ann := subAnn [1, 1, 1, 1, 1, 1, 0] ann3
noncomputable def f3c38 : Code := subCode [1, 1, 1, 1, 1, 1, 1] (bodyOf Tryz.prog 3)
def f3a38 : Ann := subAnn [1, 1, 1, 1, 1, 1, 1] ann3
noncomputable def f3c39 : Code := subCode [1, 1, 1, 1, 1, 1, 1, 0] (bodyOf Tryz.prog 3)
def f3a39 : Ann := subAnn [1, 1, 1, 1, 1, 1, 1, 0] ann3
noncomputable def f3c40 : Code := subCode [1, 1, 1, 1, 1, 1, 1, 1] (bodyOf Tryz.prog 3)
def f3a40 : Ann := subAnn [1, 1, 1, 1, 1, 1, 1, 1] ann3
def f3e0 (y0 : Int) (y1 : Int) (y2 : Int) (y3 : ByteArray) (y4 : Option (Nat × Nat)) (y5 : Nat) (y6 : Option Nat) (y7 : Option (Nat × Nat)) (y8 : Nat) (y9 : Option Nat) (y10 : ByteArray) : Env := AV.agg [AV.int IntKind.i64 y0, AV.int IntKind.i64 y1, AV.int IntKind.i64 y2, AV.str y3, AV.slice y4 y5 y6 (1 : Nat), AV.slice y7 y8 y9 (12 : Nat)] :: AV.str y10 :: Env.sp 78 []
def f3e1 (y0 : Int) (y1 : Int) (y2 : Int) (y3 : ByteArray) (y4 : Option (Nat × Nat)) (y5 : Nat) (y6 : Option Nat) (y7 : Option (Nat × Nat)) (y8 : Nat) (y9 : Option Nat) (y10 : ByteArray) (y11 : Nat) (y12 : Bool) : Env := AV.agg [AV.int IntKind.i64 y0, AV.int IntKind.i64 y1, AV.int IntKind.i64 y2, AV.str y3, AV.slice y4 y5 y6 (1 : Nat), AV.slice y7 y8 y9 (12 : Nat)] :: AV.str y10 :: AV.ptr (some (y11, (0 : Nat))) :: Env.sp 1 (AV.bool y12 :: Env.sp 75 [])
def f3e2 (y0 : ByteArray) (y1 : Nat) : Env := Env.sp 1 (AV.str y0 :: AV.ptr (some (y1, (0 : Nat))) :: Env.sp 77 [])
def f3e3 (y0 : ByteArray) (y1 : Nat) (y2 : Int) (y3 : Int) (y4 : Int) (y5 : ByteArray) (y6 : Option (Nat × Nat)) (y7 : Nat) (y8 : Option Nat) (y9 : Option (Nat × Nat)) (y10 : Nat) (y11 : Option Nat) (y12 : Bool) (y13 : Bool) (y14 : Bool) : Env := Env.sp 1 (AV.str y0 :: AV.ptr (some (y1, (0 : Nat))) :: Env.sp 12 (AV.agg [AV.int IntKind.i64 y2, AV.int IntKind.i64 y3, AV.int IntKind.i64 y4, AV.str y5, AV.slice y6 y7 y8 (1 : Nat), AV.slice y9 y10 y11 (12 : Nat)] :: AV.bool y12 :: AV.bool y13 :: AV.tuple [] :: AV.tuple [] :: AV.tuple [] :: AV.bool y14 :: Env.sp 58 []))
def f3e4 (y0 : ByteArray) (y1 : Nat) (y2 : Int) (y3 : Int) (y4 : Int) (y5 : ByteArray) (y6 : Option (Nat × Nat)) (y7 : Nat) (y8 : Option Nat) (y9 : Option (Nat × Nat)) (y10 : Nat) (y11 : Option Nat) (y12 : Bool) (y13 : Bool) (y14 : ByteArray) (y15 : Int) (y16 : Bool) (y17 : Bool) : Env := Env.sp 1 (AV.str y0 :: AV.ptr (some (y1, (0 : Nat))) :: Env.sp 12 (AV.agg [AV.int IntKind.i64 y2, AV.int IntKind.i64 y3, AV.int IntKind.i64 y4, AV.str y5, AV.slice y6 y7 y8 (1 : Nat), AV.slice y9 y10 y11 (12 : Nat)] :: AV.bool y12 :: AV.bool y13 :: AV.str y14 :: AV.int IntKind.i64 y15 :: AV.bool y16 :: AV.bool y17 :: Env.sp 58 []))
def f3e5 (y0 : ByteArray) (y1 : Nat) (y2 : Bool) : Env := Env.sp 1 (AV.str y0 :: AV.ptr (some (y1, (0 : Nat))) :: Env.sp 18 (AV.bool y2 :: Env.sp 58 []))
def f3e6 (y0 : ByteArray) (y1 : Nat) (y2 : Bool) (y3 : Bool) (y4 : Bool) : Env := Env.sp 1 (AV.str y0 :: AV.ptr (some (y1, (0 : Nat))) :: Env.sp 1 (AV.bool y2 :: Env.sp 16 (AV.bool y3 :: AV.bool y4 :: Env.sp 57 [])))
def f3e7 (y0 : Bool) : Env := Env.sp 4 (AV.bool y0 :: Env.sp 75 [])
def f3e8 (y0 : ByteArray) (y1 : Nat) (y2 : ByteArray) (y3 : Int) (y4 : ByteArray) (y5 : Int) (y6 : Int) (y7 : Int) (y8 : Int) (y9 : ByteArray) (y10 : Option (Nat × Nat)) (y11 : Nat) (y12 : Option Nat) (y13 : Option (Nat × Nat)) (y14 : Nat) (y15 : Option Nat) (y16 : ByteArray) (y17 : Int) (y18 : ByteArray) (y19 : Int) : Env := Env.sp 1 (AV.str y0 :: AV.ptr (some (y1, (0 : Nat))) :: Env.sp 2 (AV.str y2 :: AV.int IntKind.i64 y3 :: Env.sp 16 (AV.tuple [AV.str y4, AV.int IntKind.i64 y5] :: AV.agg
  [AV.int IntKind.i64 y6, AV.int IntKind.i64 y7, AV.int IntKind.i64 y8, AV.str y9, AV.slice y10 y11 y12 (1 : Nat), AV.slice y13 y14 y15 (12 : Nat)] :: AV.tuple [AV.str y16, AV.int IntKind.i64 y17] :: AV.str y18 :: AV.int IntKind.i64 y19 :: Env.sp 52 [])))
def f3e9 (y0 : ByteArray) (y1 : Nat) (y2 : ByteArray) (y3 : Int) : Env := Env.sp 1 (AV.str y0 :: AV.ptr (some (y1, (0 : Nat))) :: Env.sp 2 (AV.str y2 :: AV.int IntKind.i64 y3 :: Env.sp 73 []))
def f3e10 (y0 : ByteArray) (y1 : Nat) (y2 : ByteArray) (y3 : Int) (y4 : Int) (y5 : Bool) : Env := Env.sp 1 (AV.str y0 :: AV.ptr (some (y1, (0 : Nat))) :: Env.sp 2 (AV.str y2 :: AV.int IntKind.i64 y3 :: Env.sp 21 (AV.int IntKind.i64 y4 :: AV.bool y5 :: Env.sp 50 [])))
def f3e11 (y0 : ByteArray) (y1 : Nat) (y2 : ByteArray) (y3 : Bool) : Env := Env.sp 1 (AV.str y0 :: AV.ptr (some (y1, (0 : Nat))) :: Env.sp 2 (AV.str y2 :: Env.sp 23 (AV.bool y3 :: Env.sp 50 [])))
def f3e12 (y0 : ByteArray) (y1 : Nat) (y2 : ByteArray) (y3 : Nat) (y4 : Int) (y5 : Int) (y6 : Bool) (y7 : Int) (y8 : Int) (y9 : Int) (y10 : ByteArray) (y11 : Option (Nat × Nat)) (y12 : Nat) (y13 : Option Nat) (y14 : Option (Nat × Nat)) (y15 : Nat) (y16 : Option Nat) (y17 : Int) (y18 : Int) (y19 : ByteArray) (y20 : Int) (y21 : Int) (y22 : Int) (y23 : ByteArray) (y24 : Option (Nat × Nat)) (y25 : Nat) (y26 : Option Nat) (y27 : Option (Nat × Nat)) (y28 : Nat) (y29 : Option Nat) (y30 : Int) (y31 : Int) (y32 : Int) (y33 : Int) (y34 : Int) (y35 : ByteArray) (y36 : Option (Nat × Nat)) (y37 : Nat) (y38 : Option Nat) (y39 : Option (Nat × Nat)) (y40 : Nat) (y41 : Option Nat) (y42 : Int) (y43 : Int) : Env := Env.sp 1 (AV.str y0 :: AV.ptr (some (y1, (0 : Nat))) :: Env.sp 2 (AV.str y2 :: Env.sp 1 (AV.ptr (some (y3, (0 : Nat))) :: AV.int IntKind.i64 y4 :: AV.int IntKind.i64 y5 :: Env.sp 19 (AV.bool y6 :: AV.tuple
  [AV.agg
      [AV.int IntKind.i64 y7, AV.int IntKind.i64 y8, AV.int IntKind.i64 y9, AV.str y10, AV.slice y11 y12 y13 (1 : Nat),
        AV.slice y14 y15 y16 (12 : Nat)],
    AV.int IntKind.i64 y17, AV.int IntKind.i64 y18] :: AV.str y19 :: AV.tuple
  [AV.agg
      [AV.int IntKind.i64 y20, AV.int IntKind.i64 y21, AV.int IntKind.i64 y22, AV.str y23, AV.slice y24 y25 y26 (1 : Nat),
        AV.slice y27 y28 y29 (12 : Nat)],
    AV.int IntKind.i64 y30, AV.int IntKind.i64 y31] :: AV.agg
  [AV.int IntKind.i64 y32, AV.int IntKind.i64 y33, AV.int IntKind.i64 y34, AV.str y35, AV.slice y36 y37 y38 (1 : Nat),
    AV.slice y39 y40 y41 (12 : Nat)] :: AV.int IntKind.i64 y42 :: AV.int IntKind.i64 y43 :: Env.sp 44 []))))
def f3e13 (y0 : ByteArray) (y1 : Nat) (y2 : Nat) (y3 : Int) (y4 : Int) : Env := Env.sp 1 (AV.str y0 :: AV.ptr (some (y1, (0 : Nat))) :: Env.sp 4 (AV.ptr (some (y2, (0 : Nat))) :: AV.int IntKind.i64 y3 :: AV.int IntKind.i64 y4 :: Env.sp 70 []))
def f3e14 (y0 : ByteArray) (y1 : Nat) (y2 : Nat) (y3 : Int) (y4 : Int) (y5 : Int) (y6 : Bool) (y7 : Bool) (y8 : Bool) (y9 : Bool) (y10 : Bool) : Env := Env.sp 1 (AV.str y0 :: AV.ptr (some (y1, (0 : Nat))) :: Env.sp 4 (AV.ptr (some (y2, (0 : Nat))) :: AV.int IntKind.i64 y3 :: AV.int IntKind.i64 y4 :: Env.sp 26 (AV.int IntKind.i64 y5 :: AV.bool y6 :: AV.bool y7 :: AV.tuple [] :: AV.tuple [] :: AV.bool y8 :: AV.bool y9 :: AV.tuple [] :: AV.tuple [] :: AV.tuple [] :: AV.tuple [] :: AV.tuple [] :: AV.tuple [] :: AV.bool y10 :: Env.sp 30 [])))
def f3e15 (y0 : ByteArray) (y1 : Nat) (y2 : Nat) (y3 : Int) (y4 : Int) (y5 : Int) (y6 : Bool) (y7 : Bool) (y8 : Int) (y9 : Bool) (y10 : Bool) (y11 : Bool) (y12 : Bool) : Env := Env.sp 1 (AV.str y0 :: AV.ptr (some (y1, (0 : Nat))) :: Env.sp 4 (AV.ptr (some (y2, (0 : Nat))) :: AV.int IntKind.i64 y3 :: AV.int IntKind.i64 y4 :: Env.sp 26 (AV.int IntKind.i64 y5 :: AV.bool y6 :: AV.bool y7 :: AV.int IntKind.i64 y8 :: AV.bool y9 :: AV.bool y10 :: AV.bool y11 :: AV.tuple [] :: AV.tuple [] :: AV.tuple [] :: AV.tuple [] :: AV.tuple [] :: AV.tuple [] :: AV.bool y12 :: Env.sp 30 [])))
def f3e16 (y0 : ByteArray) (y1 : Nat) (y2 : Nat) (y3 : Int) (y4 : Int) (y5 : Int) (y6 : Bool) (y7 : Bool) (y8 : Int) (y9 : Bool) (y10 : Bool) (y11 : Bool) (y12 : Int) (y13 : Int) (y14 : Int) (y15 : ByteArray) (y16 : Option (Nat × Nat)) (y17 : Nat) (y18 : Option Nat) (y19 : Option (Nat × Nat)) (y20 : Nat) (y21 : Option Nat) (y22 : Int) (y23 : Int) (y24 : Int) (y25 : ByteArray) (y26 : Option (Nat × Nat)) (y27 : Nat) (y28 : Option Nat) (y29 : Option (Nat × Nat)) (y30 : Nat) (y31 : Option Nat) (y32 : Int) (y33 : Int) (y34 : Int) (y35 : ByteArray) (y36 : Option (Nat × Nat)) (y37 : Nat) (y38 : Option Nat) (y39 : Option (Nat × Nat)) (y40 : Nat) (y41 : Option Nat) (y42 : Int) (y43 : Int) (y44 : Int) (y45 : ByteArray) (y46 : Option (Nat × Nat)) (y47 : Nat) (y48 : Option Nat) (y49 : Option (Nat × Nat)) (y50 : Nat) (y51 : Option Nat) (y52 : Bool) (y53 : Bool) (y54 : Bool) : Env := Env.sp 1 (AV.str y0 :: AV.ptr (some (y1, (0 : Nat))) :: Env.sp 4 (AV.ptr (some (y2, (0 : Nat))) :: AV.int IntKind.i64 y3 :: AV.int IntKind.i64 y4 :: Env.sp 26 (AV.int IntKind.i64 y5 :: AV.bool y6 :: AV.bool y7 :: AV.int IntKind.i64 y8 :: AV.bool y9 :: AV.bool y10 :: AV.bool y11 :: AV.agg
  [AV.int IntKind.i64 y12, AV.int IntKind.i64 y13, AV.int IntKind.i64 y14, AV.str y15, AV.slice y16 y17 y18 (1 : Nat),
    AV.slice y19 y20 y21 (12 : Nat)] :: AV.agg
  [AV.int IntKind.i64 y22, AV.int IntKind.i64 y23, AV.int IntKind.i64 y24, AV.str y25, AV.slice y26 y27 y28 (1 : Nat),
    AV.slice y29 y30 y31 (12 : Nat)] :: AV.agg
  [AV.int IntKind.i64 y32, AV.int IntKind.i64 y33, AV.int IntKind.i64 y34, AV.str y35, AV.slice y36 y37 y38 (1 : Nat),
    AV.slice y39 y40 y41 (12 : Nat)] :: AV.agg
  [AV.int IntKind.i64 y42, AV.int IntKind.i64 y43, AV.int IntKind.i64 y44, AV.str y45, AV.slice y46 y47 y48 (1 : Nat),
    AV.slice y49 y50 y51 (12 : Nat)] :: AV.bool y52 :: AV.bool y53 :: AV.bool y54 :: Env.sp 30 [])))
def f3e17 (y0 : ByteArray) (y1 : Bool) : Env := Env.sp 1 (AV.str y0 :: Env.sp 47 (AV.bool y1 :: Env.sp 30 []))
def f3e18 (y0 : ByteArray) (y1 : Bool) (y2 : Bool) : Env := Env.sp 1 (AV.str y0 :: Env.sp 2 (AV.bool y1 :: Env.sp 44 (AV.bool y2 :: Env.sp 30 [])))
def f3e19 (y0 : ByteArray) : Env := Env.sp 1 (AV.str y0 :: Env.sp 78 [])
def f3e20 (y0 : ByteArray) (y1 : Nat) (y2 : Int) (y3 : Int) (y4 : Int) (y5 : Int) (y6 : Int) (y7 : ByteArray) (y8 : Option (Nat × Nat)) (y9 : Nat) (y10 : Option Nat) (y11 : Option (Nat × Nat)) (y12 : Nat) (y13 : Option Nat) (y14 : Int) (y15 : Int) (y16 : ByteArray) (y17 : Int) (y18 : Int) (y19 : Int) (y20 : ByteArray) (y21 : Option (Nat × Nat)) (y22 : Nat) (y23 : Option Nat) (y24 : Option (Nat × Nat)) (y25 : Nat) (y26 : Option Nat) (y27 : Int) (y28 : Int) (y29 : Int) (y30 : Int) (y31 : Int) (y32 : ByteArray) (y33 : Option (Nat × Nat)) (y34 : Nat) (y35 : Option Nat) (y36 : Option (Nat × Nat)) (y37 : Nat) (y38 : Option Nat) (y39 : Int) (y40 : Int) : Env := Env.sp 1 (AV.str y0 :: Env.sp 8 (AV.ptr (some (y1, (0 : Nat))) :: AV.int IntKind.i64 y2 :: AV.int IntKind.i64 y3 :: Env.sp 37 (AV.tuple
  [AV.agg
      [AV.int IntKind.i64 y4, AV.int IntKind.i64 y5, AV.int IntKind.i64 y6, AV.str y7, AV.slice y8 y9 y10 (1 : Nat), AV.slice y11 y12 y13 (12 : Nat)],
    AV.int IntKind.i64 y14, AV.int IntKind.i64 y15] :: AV.str y16 :: AV.tuple
  [AV.agg
      [AV.int IntKind.i64 y17, AV.int IntKind.i64 y18, AV.int IntKind.i64 y19, AV.str y20, AV.slice y21 y22 y23 (1 : Nat),
        AV.slice y24 y25 y26 (12 : Nat)],
    AV.int IntKind.i64 y27, AV.int IntKind.i64 y28] :: AV.agg
  [AV.int IntKind.i64 y29, AV.int IntKind.i64 y30, AV.int IntKind.i64 y31, AV.str y32, AV.slice y33 y34 y35 (1 : Nat),
    AV.slice y36 y37 y38 (12 : Nat)] :: AV.int IntKind.i64 y39 :: AV.int IntKind.i64 y40 :: Env.sp 24 [])))
def f3e21 (y0 : ByteArray) (y1 : Nat) (y2 : Int) : Env := Env.sp 1 (AV.str y0 :: Env.sp 8 (AV.ptr (some (y1, (0 : Nat))) :: Env.sp 1 (AV.int IntKind.i64 y2 :: Env.sp 67 [])))
def f3e22 (y0 : ByteArray) (y1 : Nat) (y2 : Int) (y3 : Int) (y4 : Bool) : Env := Env.sp 1 (AV.str y0 :: Env.sp 8 (AV.ptr (some (y1, (0 : Nat))) :: Env.sp 1 (AV.int IntKind.i64 y2 :: Env.sp 43 (AV.int IntKind.i64 y3 :: AV.bool y4 :: Env.sp 22 []))))
def f3e23 (y0 : ByteArray) (y1 : Nat) (y2 : Bool) : Env := Env.sp 1 (AV.str y0 :: Env.sp 8 (AV.ptr (some (y1, (0 : Nat))) :: Env.sp 46 (AV.bool y2 :: Env.sp 22 [])))
def f3e24 (y0 : ByteArray) (y1 : Bool) (y2 : Nat) (y3 : Bool) (y4 : Int) (y5 : Int) (y6 : Int) (y7 : ByteArray) (y8 : Option (Nat × Nat)) (y9 : Nat) (y10 : Option Nat) (y11 : Option (Nat × Nat)) (y12 : Nat) (y13 : Option Nat) (y14 : Int) (y15 : Int) (y16 : Int) (y17 : ByteArray) (y18 : Option (Nat × Nat)) (y19 : Nat) (y20 : Option Nat) (y21 : Option (Nat × Nat)) (y22 : Nat) (y23 : Option Nat) (y24 : Int) (y25 : Int) (y26 : Int) (y27 : ByteArray) (y28 : Option (Nat × Nat)) (y29 : Nat) (y30 : Option Nat) (y31 : Option (Nat × Nat)) (y32 : Nat) (y33 : Option Nat) (y34 : Bool) (y35 : Bool) (y36 : Bool) (y37 : Bool) : Env := Env.sp 1 (AV.str y0 :: Env.sp 2 (AV.bool y1 :: Env.sp 5 (AV.ptr (some (y2, (0 : Nat))) :: Env.sp 46 (AV.bool y3 :: AV.agg [AV.int IntKind.i64 y4, AV.int IntKind.i64 y5, AV.int IntKind.i64 y6, AV.str y7, AV.slice y8 y9 y10 (1 : Nat), AV.slice y11 y12 y13 (12 : Nat)] :: AV.agg
  [AV.int IntKind.i64 y14, AV.int IntKind.i64 y15, AV.int IntKind.i64 y16, AV.str y17, AV.slice y18 y19 y20 (1 : Nat),
    AV.slice y21 y22 y23 (12 : Nat)] :: AV.agg
  [AV.int IntKind.i64 y24, AV.int IntKind.i64 y25, AV.int IntKind.i64 y26, AV.str y27, AV.slice y28 y29 y30 (1 : Nat),
    AV.slice y31 y32 y33 (12 : Nat)] :: AV.bool y34 :: AV.bool y35 :: AV.bool y36 :: AV.bool y37 :: Env.sp 15 []))))
def f3e25 (y0 : ByteArray) (y1 : Bool) (y2 : Nat) (y3 : Bool) (y4 : Int) (y5 : Int) (y6 : Int) (y7 : ByteArray) (y8 : Option (Nat × Nat)) (y9 : Nat) (y10 : Option Nat) (y11 : Option (Nat × Nat)) (y12 : Nat) (y13 : Option Nat) (y14 : Int) (y15 : Int) (y16 : Int) (y17 : ByteArray) (y18 : Option (Nat × Nat)) (y19 : Nat) (y20 : Option Nat) (y21 : Option (Nat × Nat)) (y22 : Nat) (y23 : Option Nat) (y24 : Int) (y25 : Int) (y26 : Int) (y27 : ByteArray) (y28 : Option (Nat × Nat)) (y29 : Nat) (y30 : Option Nat) (y31 : Option (Nat × Nat)) (y32 : Nat) (y33 : Option Nat) (y34 : Bool) (y35 : Bool) (y36 : Bool) : Env := Env.sp 1 (AV.str y0 :: Env.sp 2 (AV.bool y1 :: Env.sp 5 (AV.ptr (some (y2, (0 : Nat))) :: Env.sp 46 (AV.bool y3 :: AV.agg [AV.int IntKind.i64 y4, AV.int IntKind.i64 y5, AV.int IntKind.i64 y6, AV.str y7, AV.slice y8 y9 y10 (1 : Nat), AV.slice y11 y12 y13 (12 : Nat)] :: AV.agg
  [AV.int IntKind.i64 y14, AV.int IntKind.i64 y15, AV.int IntKind.i64 y16, AV.str y17, AV.slice y18 y19 y20 (1 : Nat),
    AV.slice y21 y22 y23 (12 : Nat)] :: AV.agg
  [AV.int IntKind.i64 y24, AV.int IntKind.i64 y25, AV.int IntKind.i64 y26, AV.str y27, AV.slice y28 y29 y30 (1 : Nat),
    AV.slice y31 y32 y33 (12 : Nat)] :: AV.bool y34 :: AV.bool y35 :: AV.tuple [] :: AV.bool y36 :: Env.sp 15 []))))
def f3e26 (y0 : ByteArray) (y1 : Nat) : Env := Env.sp 1 (AV.str y0 :: Env.sp 8 (AV.ptr (some (y1, (0 : Nat))) :: Env.sp 69 []))
def f3e27 (y0 : ByteArray) (y1 : Nat) (y2 : ByteArray) (y3 : Int) (y4 : ByteArray) (y5 : Int) (y6 : Int) (y7 : Int) (y8 : Int) (y9 : ByteArray) (y10 : Option (Nat × Nat)) (y11 : Nat) (y12 : Option Nat) (y13 : Option (Nat × Nat)) (y14 : Nat) (y15 : Option Nat) (y16 : ByteArray) (y17 : Int) (y18 : ByteArray) (y19 : Int) : Env := Env.sp 1 (AV.str y0 :: Env.sp 8 (AV.ptr (some (y1, (0 : Nat))) :: Env.sp 2 (AV.str y2 :: AV.int IntKind.i64 y3 :: Env.sp 50 (AV.tuple [AV.str y4, AV.int IntKind.i64 y5] :: AV.agg
  [AV.int IntKind.i64 y6, AV.int IntKind.i64 y7, AV.int IntKind.i64 y8, AV.str y9, AV.slice y10 y11 y12 (1 : Nat), AV.slice y13 y14 y15 (12 : Nat)] :: AV.tuple [AV.str y16, AV.int IntKind.i64 y17] :: AV.str y18 :: AV.int IntKind.i64 y19 :: Env.sp 10 []))))
def f3e28 (y0 : ByteArray) (y1 : ByteArray) (y2 : Int) : Env := Env.sp 1 (AV.str y0 :: Env.sp 11 (AV.str y1 :: AV.int IntKind.i64 y2 :: Env.sp 65 []))
def f3e29 (y0 : ByteArray) (y1 : Bool) (y2 : ByteArray) (y3 : Int) (y4 : Int) (y5 : Bool) (y6 : Bool) (y7 : ByteArray) (y8 : ByteArray) (y9 : Bool) (y10 : Bool) (y11 : Bool) (y12 : Bool) (y13 : Bool) : Env := Env.sp 1 (AV.str y0 :: Env.sp 2 (AV.bool y1 :: Env.sp 8 (AV.str y2 :: AV.int IntKind.i64 y3 :: Env.sp 55 (AV.int IntKind.i64 y4 :: AV.bool y5 :: AV.bool y6 :: AV.str y7 :: AV.str y8 :: AV.bool y9 :: AV.bool y10 :: AV.bool y11 :: AV.bool y12 :: AV.bool y13 :: []))))
def f3e30 (y0 : ByteArray) (y1 : Bool) (y2 : ByteArray) (y3 : Int) (y4 : Int) (y5 : Bool) (y6 : Bool) (y7 : ByteArray) (y8 : ByteArray) (y9 : Bool) (y10 : Bool) (y11 : Bool) (y12 : Bool) : Env := Env.sp 1 (AV.str y0 :: Env.sp 2 (AV.bool y1 :: Env.sp 8 (AV.str y2 :: AV.int IntKind.i64 y3 :: Env.sp 55 (AV.int IntKind.i64 y4 :: AV.bool y5 :: AV.bool y6 :: AV.str y7 :: AV.str y8 :: AV.bool y9 :: AV.bool y10 :: AV.bool y11 :: AV.tuple [] :: AV.bool y12 :: []))))
def f3e31 (y0 : ByteArray) (y1 : Bool) (y2 : ByteArray) (y3 : Int) (y4 : Int) (y5 : Bool) (y6 : Bool) (y7 : Bool) (y8 : Bool) (y9 : Bool) : Env := Env.sp 1 (AV.str y0 :: Env.sp 2 (AV.bool y1 :: Env.sp 8 (AV.str y2 :: AV.int IntKind.i64 y3 :: Env.sp 55 (AV.int IntKind.i64 y4 :: AV.bool y5 :: AV.bool y6 :: AV.tuple [] :: AV.tuple [] :: AV.tuple [] :: AV.bool y7 :: AV.bool y8 :: AV.tuple [] :: AV.bool y9 :: []))))

/- function 3 -/
theorem f3_eq {R : Type} (call : Bool → CallF R) (dem : Bool) (N : Nat) (y0 : Int) (y1 : Int) (y2 : Int) (y3 : ByteArray) (y4 : Option (Nat × Nat)) (y5 : Nat) (y6 : Option Nat) (y7 : Option (Nat × Nat)) (y8 : Nat) (y9 : Option Nat) (y10 : ByteArray) (σ : St) (K : AV → St → Option R) :
    bodyK Tryz.prog call dem N ann 3 [AV.agg [AV.int IntKind.i64 y0, AV.int IntKind.i64 y1, AV.int IntKind.i64 y2, AV.str y3, AV.slice y4 y5 y6 (1 : Nat), AV.slice y7 y8 y9 (12 : Nat)],
  AV.str y10] σ K = runK Tryz.prog call dem N f3c0 f3a0 (bodyC Tryz.prog f3rs K) (f3e0 y0 y1 y2 y3 y4 y5 y6 y7 y8 y9 y10) σ := bodyK_of (fn := ((Tryz.prog.funcs[3]?).get rfl)) (by kernel_rfl) (by kernel_rfl) (by kernel_rfl) (by kernel_rfl) (by kernel_rfl) (by kernel_rfl)
theorem f3n0 {R : Type} (call : Bool → CallF R) (dem : Bool) (N : Nat) (J : KF R) (e : Env) (σ : St) : runK Tryz.prog call dem N f3c0 f3a0 J e σ = runK Tryz.prog call dem N f3c1 f3a1 (seqC (fun K e σ => runK Tryz.prog call dem N f3c2 f3a2 K e σ) f3a0 J) e σ := runK_seq' (by kernel_rfl) (by kernel_rfl) (by kernel_rfl)
theorem f3r1_f3e0 {R : Type} (call : Bool → CallF R) (dem : Bool) (N : Nat) (y0 : Int) (y1 : Int) (y2 : Int) (y3 : ByteArray) (y4 : Option (Nat × Nat)) (y5 : Nat) (y6 : Option Nat) (y7 : Option (Nat × Nat)) (y8 : Nat) (y9 : Option Nat) (y10 : ByteArray) (J : KF R) (σ : St) :
    runK Tryz.prog call dem N f3c1 f3a1 J (f3e0 y0 y1 y2 y3 y4 y5 y6 y7 y8 y9 y10) σ =
J Ex.normal (f3e1 y0 y1 y2 y3 y4 y5 y6 y7 y8 y9 y10 (St.next σ) false)
  (St.new σ
    (Blk.cells
      [AV.int IntKind.i64 y0, AV.int IntKind.i64 y1, AV.int IntKind.i64 y2, AV.str y3, AV.slice y4 y5 y6 (1 : Nat), AV.slice y7 y8 y9 (12 : Nat)]
      true)) := hide (by kernel_rfl)
theorem f3z0_f3e1 (y0 : Int) (y1 : Int) (y2 : Int) (y3 : ByteArray) (y4 : Option (Nat × Nat)) (y5 : Nat) (y6 : Option Nat) (y7 : Option (Nat × Nat)) (y8 : Nat) (y9 : Option Nat) (y10 : ByteArray) (y11 : Nat) (y12 : Bool) : Ann.clr f3a0 (f3e1 y0 y1 y2 y3 y4 y5 y6 y7 y8 y9 y10 y11 y12) = f3e2 y10 y11 := hide (by kernel_rfl)
theorem f3n2 {R : Type} (call : Bool → CallF R) (dem : Bool) (N : Nat) (J : KF R) (e : Env) (σ : St) : runK Tryz.prog call dem N f3c2 f3a2 J e σ = runK Tryz.prog call dem N f3c3 f3a3 (seqC (fun K e σ => runK Tryz.prog call dem N f3c4 f3a4 K e σ) f3a2 J) e σ := runK_seq' (by kernel_rfl) (by kernel_rfl) (by kernel_rfl)
theorem f3n3 {R : Type} (call : Bool → CallF R) (dem : Bool) (N : Nat) (J : KF R) (e : Env) (σ : St) : runK Tryz.prog call dem N f3c3 f3a3 J e σ = runK Tryz.prog call dem N f3c5 f3a5 (seqC (fun K e σ => runK Tryz.prog call dem N f3c6 f3a6 K e σ) f3a3 J) e σ := runK_seq' (by kernel_rfl) (by kernel_rfl) (by kernel_rfl)
theorem f3r5_f3e2 {R : Type} (call : Bool → CallF R) (dem : Bool) (N : Nat) (y0 : ByteArray) (y1 : Nat) (J : KF R) (σ : St) :
    runK Tryz.prog call dem N f3c5 f3a5 J (f3e2 y0 y1) σ =
Option.bind (St.ld σ y1 (0 : Nat)) fun v0 =>
  Option.bind (AV.toInt IntKind.i64 v0) fun v1 =>
    Option.bind (St.ld σ y1 (1 : Nat)) fun v2 =>
      Option.bind (AV.toInt IntKind.i64 v2) fun v3 =>
        Option.bind (St.ld σ y1 (2 : Nat)) fun v4 =>
          Option.bind (AV.toInt IntKind.i64 v4) fun v5 =>
            Option.bind (St.ld σ y1 (3 : Nat)) fun v6 =>
              Option.bind (AV.toStr v6) fun v7 =>
                Option.bind (St.ld σ y1 (4 : Nat)) fun v8 =>
                  Option.bind (AV.toSl (1 : Nat) v8) fun v9 =>
                    Option.bind (St.ld σ y1 (5 : Nat)) fun v10 =>
                      Option.bind (AV.toSl (12 : Nat) v10) fun v11 =>
                        call dem (5 : Nat)
                          [AV.agg
                              [AV.int IntKind.i64 v1, AV.int IntKind.i64 v3, AV.int IntKind.i64 v5, AV.str v7,
                                AV.slice (Sl.o v9) (Sl.len v9) (Sl.cap v9) (1 : Nat), AV.slice (Sl.o v11) (Sl.len v11) (Sl.cap v11) (12 : Nat)]]
                          σ fun v12 v13 =>
                          Option.bind (AV.toBool v12) fun v14 =>
                            if v14 = true then
                              J Ex.normal
                                (f3e3 y0 y1 v1 v3 v5 v7 (Sl.o v9) (Sl.len v9) (Sl.cap v9) (Sl.o v11) (Sl.len v11) (Sl.cap v11) v14 true true) v13
                            else
                              J Ex.normal
                                (f3e4 y0 y1 v1 v3 v5 v7 (Sl.o v9) (Sl.len v9) (Sl.cap v9) (Sl.o v11) (Sl.len v11) (Sl.cap v11) v14 false y0
                                  (↑(ByteArray.size y0) : Int) (decide ((↑(ByteArray.size y0) : Int) > (20000 : Int)))
                                  (decide ((↑(ByteArray.size y0) : Int) > (20000 : Int))))
                                v13 := hide (by kernel_rfl)
theorem f3z3_f3e3 (y0 : ByteArray) (y1 : Nat) (y2 : Int) (y3 : Int) (y4 : Int) (y5 : ByteArray) (y6 : Option (Nat × Nat)) (y7 : Nat) (y8 : Option Nat) (y9 : Option (Nat × Nat)) (y10 : Nat) (y11 : Option Nat) (y12 : Bool) (y13 : Bool) (y14 : Bool) : Ann.clr f3a3 (f3e3 y0 y1 y2 y3 y4 y5 y6 y7 y8 y9 y10 y11 y12 y13 y14) = f3e5 y0 y1 y14 := hide (by kernel_rfl)
theorem f3x6_f3e5 {R : Type} (call : Bool → CallF R) (dem : Bool) (N : Nat) (y0 : ByteArray) (y1 : Nat) (y2 : Bool) (J : KF R) (σ : St) : runK Tryz.prog call dem N f3c6 f3a6 J (f3e5 y0 y1 y2) σ = if y2 = true then runK Tryz.prog call dem N f3c7 f3a7 (condC f3a6 J) (f3e5 y0 y1 y2) σ else runK Tryz.prog call dem N f3c8 f3a8 (condC f3a6 J) (f3e5 y0 y1 y2) σ := runK_cond' (o := Operand.tmp (21 : Nat)) (by kernel_rfl) (by kernel_rfl) (by kernel_rfl) (by kernel_rfl)
theorem f3n7 {R : Type} (call : Bool → CallF R) (dem : Bool) (N : Nat) (J : KF R) (e : Env) (σ : St) : runK Tryz.prog call dem N f3c7 f3a7 J e σ = runK Tryz.prog call dem N f3c9 f3a9 (seqC (fun K e σ => runK Tryz.prog call dem N f3c10 f3a10 K e σ) f3a7 J) e σ := runK_seq' (by kernel_rfl) (by kernel_rfl) (by kernel_rfl)
theorem f3r9_f3e5 {R : Type} (call : Bool → CallF R) (dem : Bool) (N : Nat) (y0 : ByteArray) (y1 : Nat) (y2 : Bool) (J : KF R) (σ : St) :
    runK Tryz.prog call dem N f3c9 f3a9 J (f3e5 y0 y1 y2) σ =
call dem (6 : Nat) [] σ fun v0 v1 => Option.bind (AV.toBool v0) fun v2 => J Ex.normal (f3e6 y0 y1 v2 y2 v2) v1 := hide (by kernel_rfl)
theorem f3z7_f3e6 (y0 : ByteArray) (y1 : Nat) (y2 : Bool) (y3 : Bool) (y4 : Bool) : Ann.clr f3a7 (f3e6 y0 y1 y2 y3 y4) = f3e7 y2 := hide (by kernel_rfl)
theorem f3y10_f3e7 {R : Type} (call : Bool → CallF R) (dem : Bool) (N : Nat) (y0 : Bool) (J : KF R) (σ : St) : runK Tryz.prog call dem N f3c10 f3a10 J (f3e7 y0) σ = J .ret (f3e7 y0) σ := runK_ret' (by kernel_rfl) (by kernel_rfl)
theorem f3n8 {R : Type} (call : Bool → CallF R) (dem : Bool) (N : Nat) (J : KF R) (e : Env) (σ : St) : runK Tryz.prog call dem N f3c8 f3a8 J e σ = J .normal e σ := runK_skip' (by kernel_rfl)
theorem f3z6_f3e5 (y0 : ByteArray) (y1 : Nat) (y2 : Bool) : Ann.clr f3a6 (f3e5 y0 y1 y2) = f3e2 y0 y1 := hide (by kernel_rfl)
theorem f3z3_f3e4 (y0 : ByteArray) (y1 : Nat) (y2 : Int) (y3 : Int) (y4 : Int) (y5 : ByteArray) (y6 : Option (Nat × Nat)) (y7 : Nat) (y8 : Option Nat) (y9 : Option (Nat × Nat)) (y10 : Nat) (y11 : Option Nat) (y12 : Bool) (y13 : Bool) (y14 : ByteArray) (y15 : Int) (y16 : Bool) (y17 : Bool) : Ann.clr f3a3 (f3e4 y0 y1 y2 y3 y4 y5 y6 y7 y8 y9 y10 y11 y12 y13 y14 y15 y16 y17) = f3e5 y0 y1 y17 := hide (by kernel_rfl)
theorem f3z2_f3e2 (y0 : ByteArray) (y1 : Nat) : Ann.clr f3a2 (f3e2 y0 y1) = f3e2 y0 y1 := hide (by kernel_rfl)
theorem f3n4 {R : Type} (call : Bool → CallF R) (dem : Bool) (N : Nat) (J : KF R) (e : Env) (σ : St) : runK Tryz.prog call dem N f3c4 f3a4 J e σ = runK Tryz.prog call dem N f3c11 f3a11 (seqC (fun K e σ => runK Tryz.prog call dem N f3c12 f3a12 K e σ) f3a4 J) e σ := runK_seq' (by kernel_rfl) (by kernel_rfl) (by kernel_rfl)
theorem f3r11_f3e2 {R : Type} (call : Bool → CallF R) (dem : Bool) (N : Nat) (y0 : ByteArray) (y1 : Nat) (J : KF R) (σ : St) :
    runK Tryz.prog call dem N f3c11 f3a11 J (f3e2 y0 y1) σ =
Option.bind (St.ld σ y1 (0 : Nat)) fun v0 =>
  Option.bind (AV.toInt IntKind.i64 v0) fun v1 =>
    Option.bind (St.ld σ y1 (1 : Nat)) fun v2 =>
      Option.bind (AV.toInt IntKind.i64 v2) fun v3 =>
        Option.bind (St.ld σ y1 (2 : Nat)) fun v4 =>
          Option.bind (AV.toInt IntKind.i64 v4) fun v5 =>
            Option.bind (St.ld σ y1 (3 : Nat)) fun v6 =>
              Option.bind (AV.toStr v6) fun v7 =>
                Option.bind (St.ld σ y1 (4 : Nat)) fun v8 =>
                  Option.bind (AV.toSl (1 : Nat) v8) fun v9 =>
                    Option.bind (St.ld σ y1 (5 : Nat)) fun v10 =>
                      Option.bind (AV.toSl (12 : Nat) v10) fun v11 =>
                        call dem (7 : Nat)
                          [AV.agg
                              [AV.int IntKind.i64 v1, AV.int IntKind.i64 v3, AV.int IntKind.i64 v5, AV.str v7,
                                AV.slice (Sl.o v9) (Sl.len v9) (Sl.cap v9) (1 : Nat), AV.slice (Sl.o v11) (Sl.len v11) (Sl.cap v11) (12 : Nat)]]
                          σ fun v12 v13 =>
                          Option.bind (AV.toTuple v12) fun v14 =>
                            if List.length v14 = (2 : Nat) then
                              Option.bind (List.head? v14) fun v15 =>
                                Option.bind (AV.toStr v15) fun v16 =>
                                  Option.bind (List.head? (List.tail v14)) fun v17 =>
                                    Option.bind (AV.toInt IntKind.i64 v17) fun v18 =>
                                      J Ex.normal
                                        (f3e8 y0 y1 v16 v18 v16 v18 v1 v3 v5 v7 (Sl.o v9) (Sl.len v9) (Sl.cap v9) (Sl.o v11) (Sl.len v11) (Sl.cap v11)
                                          v16 v18 v16 v18)
                                        v13
                            else none := hide (by kernel_rfl)
theorem f3z4_f3e8 (y0 : ByteArray) (y1 : Nat) (y2 : ByteArray) (y3 : Int) (y4 : ByteArray) (y5 : Int) (y6 : Int) (y7 : Int) (y8 : Int) (y9 : ByteArray) (y10 : Option (Nat × Nat)) (y11 : Nat) (y12 : Option Nat) (y13 : Option (Nat × Nat)) (y14 : Nat) (y15 : Option Nat) (y16 : ByteArray) (y17 : Int) (y18 : ByteArray) (y19 : Int) : Ann.clr f3a4 (f3e8 y0 y1 y2 y3 y4 y5 y6 y7 y8 y9 y10 y11 y12 y13 y14 y15 y16 y17 y18 y19) = f3e9 y0 y1 y2 y3 := hide (by kernel_rfl)
theorem f3n12 {R : Type} (call : Bool → CallF R) (dem : Bool) (N : Nat) (J : KF R) (e : Env) (σ : St) : runK Tryz.prog call dem N f3c12 f3a12 J e σ = runK Tryz.prog call dem N f3c13 f3a13 (seqC (fun K e σ => runK Tryz.prog call dem N f3c14 f3a14 K e σ) f3a12 J) e σ := runK_seq' (by kernel_rfl) (by kernel_rfl) (by kernel_rfl)
theorem f3n13 {R : Type} (call : Bool → CallF R) (dem : Bool) (N : Nat) (J : KF R) (e : Env) (σ : St) : runK Tryz.prog call dem N f3c13 f3a13 J e σ = runK Tryz.prog call dem N f3c15 f3a15 (seqC (fun K e σ => runK Tryz.prog call dem N f3c16 f3a16 K e σ) f3a13 J) e σ := runK_seq' (by kernel_rfl) (by kernel_rfl) (by kernel_rfl)
theorem f3r15_f3e9 {R : Type} (call : Bool → CallF R) (dem : Bool) (N : Nat) (y0 : ByteArray) (y1 : Nat) (y2 : ByteArray) (y3 : Int) (J : KF R) (σ : St) :
    runK Tryz.prog call dem N f3c15 f3a15 J (f3e9 y0 y1 y2 y3) σ =
J Ex.normal (f3e10 y0 y1 y2 y3 y3 (y3 == (0 : Int))) σ := hide (by kernel_rfl)
theorem f3z13_f3e10 (y0 : ByteArray) (y1 : Nat) (y2 : ByteArray) (y3 : Int) (y4 : Int) (y5 : Bool) : Ann.clr f3a13 (f3e10 y0 y1 y2 y3 y4 y5) = f3e11 y0 y1 y2 y5 := hide (by kernel_rfl)
theorem f3x16_f3e11 {R : Type} (call : Bool → CallF R) (dem : Bool) (N : Nat) (y0 : ByteArray) (y1 : Nat) (y2 : ByteArray) (y3 : Bool) (J : KF R) (σ : St) : runK Tryz.prog call dem N f3c16 f3a16 J (f3e11 y0 y1 y2 y3) σ = if y3 = true then runK Tryz.prog call dem N f3c17 f3a17 (condC f3a16 J) (f3e11 y0 y1 y2 y3) σ else runK Tryz.prog call dem N f3c18 f3a18 (condC f3a16 J) (f3e11 y0 y1 y2 y3) σ := runK_cond' (o := Operand.tmp (29 : Nat)) (by kernel_rfl) (by kernel_rfl) (by kernel_rfl) (by kernel_rfl)
theorem f3n17 {R : Type} (call : Bool → CallF R) (dem : Bool) (N : Nat) (J : KF R) (e : Env) (σ : St) : runK Tryz.prog call dem N f3c17 f3a17 J e σ = runK Tryz.prog call dem N f3c19 f3a19 (seqC (fun K e σ => runK Tryz.prog call dem N f3c20 f3a20 K e σ) f3a17 J) e σ := runK_seq' (by kernel_rfl) (by kernel_rfl) (by kernel_rfl)
theorem f3r19_f3e11 {R : Type} (call : Bool → CallF R) (dem : Bool) (N : Nat) (y0 : ByteArray) (y1 : Nat) (y2 : ByteArray) (y3 : Bool) (J : KF R) (σ : St) :
    runK Tryz.prog call dem N f3c19 f3a19 J (f3e11 y0 y1 y2 y3) σ =
call dem (8 : Nat) [AV.str y2] σ fun v0 v1 =>
  Option.bind (AV.toTuple v0) fun v2 =>
    if List.length v2 = (3 : Nat) then
      Option.bind (List.head? v2) fun v3 =>
        Option.bind (AV.toAgg v3) fun v4 =>
          if List.length v4 = (6 : Nat) then
            Option.bind (List.head? v4) fun v5 =>
              Option.bind (AV.toInt IntKind.i64 v5) fun v6 =>
                Option.bind (List.head? (List.tail v4)) fun v7 =>
                  Option.bind (AV.toInt IntKind.i64 v7) fun v8 =>
                    Option.bind (List.head? (List.tail (List.tail v4))) fun v9 =>
                      Option.bind (AV.toInt IntKind.i64 v9) fun v10 =>
                        Option.bind (List.head? (List.tail (List.tail (List.tail v4)))) fun v11 =>
                          Option.bind (AV.toStr v11) fun v12 =>
                            Option.bind (List.head? (List.tail (List.tail (List.tail (List.tail v4))))) fun v13 =>
                              Option.bind (AV.toSl (1 : Nat) v13) fun v14 =>
                                Option.bind (List.head? (List.tail (List.tail (List.tail (List.tail (List.tail v4)))))) fun v15 =>
                                  Option.bind (AV.toSl (12 : Nat) v15) fun v16 =>
                                    Option.bind (List.head? (List.tail v2)) fun v17 =>
                                      Option.bind (AV.toInt IntKind.i64 v17) fun v18 =>
                                        Option.bind (List.head? (List.tail (List.tail v2))) fun v19 =>
                                          Option.bind (AV.toInt IntKind.i64 v19) fun v20 =>
                                            Option.bind
                                              (St.st
                                                (St.new v1
                                                  (Blk.cells
                                                    [AV.int IntKind.i64 (0 : Int), AV.int IntKind.i64 (0 : Int), AV.int IntKind.i64 (0 : Int),
                                                      AV.str (ByteArray.mk #[]), AV.slice none (0 : Nat) (some (0 : Nat)) (1 : Nat),
                                                      AV.slice none (0 : Nat) (some (0 : Nat)) (12 : Nat)]
                                                    true))
                                                (St.next v1) (0 : Nat)
                                                [AV.int IntKind.i64 v6, AV.int IntKind.i64 v8, AV.int IntKind.i64 v10, AV.str v12,
                                                  AV.slice (Sl.o v14) (Sl.len v14) (Sl.cap v14) (1 : Nat),
                                                  AV.slice (Sl.o v16) (Sl.len v16) (Sl.cap v16) (12 : Nat)])
                                              fun v21 =>
                                              J Ex.normal
                                                (f3e12 y0 y1 y2 (St.next v1) v18 v20 y3 v6 v8 v10 v12 (Sl.o v14) (Sl.len v14) (Sl.cap v14) (Sl.o v16)
                                                  (Sl.len v16) (Sl.cap v16) v18 v20 y2 v6 v8 v10 v12 (Sl.o v14) (Sl.len v14) (Sl.cap v14) (Sl.o v16)
                                                  (Sl.len v16) (Sl.cap v16) v18 v20 v6 v8 v10 v12 (Sl.o v14) (Sl.len v14) (Sl.cap v14) (Sl.o v16)
                                                  (Sl.len v16) (Sl.cap v16) v18 v20)
                                                v21
          else none
    else none := hide (by kernel_rfl)
theorem f3z17_f3e12 (y0 : ByteArray) (y1 : Nat) (y2 : ByteArray) (y3 : Nat) (y4 : Int) (y5 : Int) (y6 : Bool) (y7 : Int) (y8 : Int) (y9 : Int) (y10 : ByteArray) (y11 : Option (Nat × Nat)) (y12 : Nat) (y13 : Option Nat) (y14 : Option (Nat × Nat)) (y15 : Nat) (y16 : Option Nat) (y17 : Int) (y18 : Int) (y19 : ByteArray) (y20 : Int) (y21 : Int) (y22 : Int) (y23 : ByteArray) (y24 : Option (Nat × Nat)) (y25 : Nat) (y26 : Option Nat) (y27 : Option (Nat × Nat)) (y28 : Nat) (y29 : Option Nat) (y30 : Int) (y31 : Int) (y32 : Int) (y33 : Int) (y34 : Int) (y35 : ByteArray) (y36 : Option (Nat × Nat)) (y37 : Nat) (y38 : Option Nat) (y39 : Option (Nat × Nat)) (y40 : Nat) (y41 : Option Nat) (y42 : Int) (y43 : Int) : Ann.clr f3a17 (f3e12 y0 y1 y2 y3 y4 y5 y6 y7 y8 y9 y10 y11 y12 y13 y14 y15 y16 y17 y18 y19 y20 y21 y22 y23 y24 y25 y26 y27 y28 y29 y30 y31 y32 y33 y34 y35 y36 y37
  y38 y39 y40 y41 y42 y43) = f3e13 y0 y1 y3 y4 y5 := hide (by kernel_rfl)
theorem f3n20 {R : Type} (call : Bool → CallF R) (dem : Bool) (N : Nat) (J : KF R) (e : Env) (σ : St) : runK Tryz.prog call dem N f3c20 f3a20 J e σ = runK Tryz.prog call dem N f3c21 f3a21 (seqC (fun K e σ => runK Tryz.prog call dem N f3c22 f3a22 K e σ) f3a20 J) e σ := runK_seq' (by kernel_rfl) (by kernel_rfl) (by kernel_rfl)
theorem f3r21_f3e13 {R : Type} (call : Bool → CallF R) (dem : Bool) (N : Nat) (y0 : ByteArray) (y1 : Nat) (y2 : Nat) (y3 : Int) (y4 : Int) (J : KF R) (σ : St) :
    runK Tryz.prog call dem N f3c21 f3a21 J (f3e13 y0 y1 y2 y3 y4) σ =
if (y4 != (0 : Int)) = true then J Ex.normal (f3e14 y0 y1 y2 y3 y4 y4 (y4 != (0 : Int)) true true true true) σ
else
  if (y3 != (0 : Int)) = true then J Ex.normal (f3e15 y0 y1 y2 y3 y4 y4 (y4 != (0 : Int)) false y3 (y3 != (0 : Int)) (y3 != (0 : Int)) true true) σ
  else
    Option.bind (St.ld σ y2 (0 : Nat)) fun v0 =>
      Option.bind (AV.toInt IntKind.i64 v0) fun v1 =>
        Option.bind (St.ld σ y2 (1 : Nat)) fun v2 =>
          Option.bind (AV.toInt IntKind.i64 v2) fun v3 =>
            Option.bind (St.ld σ y2 (2 : Nat)) fun v4 =>
              Option.bind (AV.toInt IntKind.i64 v4) fun v5 =>
                Option.bind (St.ld σ y2 (3 : Nat)) fun v6 =>
                  Option.bind (AV.toStr v6) fun v7 =>
                    Option.bind (St.ld σ y2 (4 : Nat)) fun v8 =>
                      Option.bind (AV.toSl (1 : Nat) v8) fun v9 =>
                        Option.bind (St.ld σ y2 (5 : Nat)) fun v10 =>
                          Option.bind (AV.toSl (12 : Nat) v10) fun v11 =>
                            call false (10 : Nat)
                              [AV.agg
                                  [AV.int IntKind.i64 v1, AV.int IntKind.i64 v3, AV.int IntKind.i64 v5, AV.str v7,
                                    AV.slice (Sl.o v9) (Sl.len v9) (Sl.cap v9) (1 : Nat), AV.slice (Sl.o v11) (Sl.len v11) (Sl.cap v11) (12 : Nat)]]
                              σ fun v12 v13 =>
                              Option.bind (AV.toAgg v12) fun v14 =>
                                if List.length v14 = (6 : Nat) then
                                  Option.bind (List.head? v14) fun v15 =>
                                    Option.bind (AV.toInt IntKind.i64 v15) fun v16 =>
                                      Option.bind (List.head? (List.tail v14)) fun v17 =>
                                        Option.bind (AV.toInt IntKind.i64 v17) fun v18 =>
                                          Option.bind (List.head? (List.tail (List.tail v14))) fun v19 =>
                                            Option.bind (AV.toInt IntKind.i64 v19) fun v20 =>
                                              Option.bind (List.head? (List.tail (List.tail (List.tail v14)))) fun v21 =>
                                                Option.bind (AV.toStr v21) fun v22 =>
                                                  Option.bind (List.head? (List.tail (List.tail (List.tail (List.tail v14))))) fun v23 =>
                                                    Option.bind (AV.toSl (1 : Nat) v23) fun v24 =>
                                                      Option.bind (List.head? (List.tail (List.tail (List.tail (List.tail (List.tail v14))))))
                                                        fun v25 =>
                                                        Option.bind (AV.toSl (12 : Nat) v25) fun v26 =>
                                                          Option.bind (St.ld v13 y1 (0 : Nat)) fun v27 =>
                                                            Option.bind (AV.toInt IntKind.i64 v27) fun v28 =>
                                                              Option.bind (St.ld v13 y1 (1 : Nat)) fun v29 =>
                                                                Option.bind (AV.toInt IntKind.i64 v29) fun v30 =>
                                                                  Option.bind (St.ld v13 y1 (2 : Nat)) fun v31 =>
                                                                    Option.bind (AV.toInt IntKind.i64 v31) fun v32 =>
                                                                      Option.bind (St.ld v13 y1 (3 : Nat)) fun v33 =>
                                                                        Option.bind (AV.toStr v33) fun v34 =>
                                                                          Option.bind (St.ld v13 y1 (4 : Nat)) fun v35 =>
                                                                            Option.bind (AV.toSl (1 : Nat) v35) fun v36 =>
                                                                              Option.bind (St.ld v13 y1 (5 : Nat)) fun v37 =>
                                                                                Option.bind (AV.toSl (12 : Nat) v37) fun v38 =>
                                                                                  if
                                                                                      St.same σ y1 (0 : Nat)
                                                                                          [AV.int IntKind.i64 v28, AV.int IntKind.i64 v30,
                                                                                            AV.int IntKind.i64 v32, AV.str v34,
                                                                                            AV.slice (Sl.o v36) (Sl.len v36) (Sl.cap v36) (1 : Nat),
                                                                                            AV.slice (Sl.o v38) (Sl.len v38) (Sl.cap v38)
                                                                                              (12 : Nat)] =
                                                                                        true then
                                                                                    call false (10 : Nat)
                                                                                      [AV.agg
                                                                                          [AV.int IntKind.i64 v28, AV.int IntKind.i64 v30,
                                                                                            AV.int IntKind.i64 v32, AV.str v34,
                                                                                            AV.slice (Sl.o v36) (Sl.len v36) (Sl.cap v36) (1 : Nat),
                                                                                            AV.slice (Sl.o v38) (Sl.len v38) (Sl.cap v38) (12 : Nat)]]
                                                                                      v13 fun v39 v40 =>
                                                                                      Option.bind (AV.toAgg v39) fun v41 =>
                                                                                        if List.length v41 = (6 : Nat) then
                                                                                          Option.bind (List.head? v41) fun v42 =>
                                                                                            Option.bind (AV.toInt IntKind.i64 v42) fun v43 =>
                                                                                              Option.bind (List.head? (List.tail v41)) fun v44 =>
                                                                                                Option.bind (AV.toInt IntKind.i64 v44) fun v45 =>
                                                                                                  Option.bind (List.head? (List.tail (List.tail v41)))
                                                                                                    fun v46 =>
                                                                                                    Option.bind (AV.toInt IntKind.i64 v46) fun v47 =>
                                                                                                      Option.bind
                                                                                                        (List.head?
                                                                                                          (List.tail (List.tail (List.tail v41))))
                                                                                                        fun v48 =>
                                                                                                        Option.bind (AV.toStr v48) fun v49 =>
                                                                                                          Option.bind
                                                                                                            (List.head?
                                                                                                              (List.tail
                                                                                                                (List.tail
                                                                                                                  (List.tail (List.tail v41)))))
                                                                                                            fun v50 =>
                                                                                                            Option.bind (AV.toSl (1 : Nat) v50)
                                                                                                              fun v51 =>
                                                                                                              Option.bind
                                                                                                                (List.head?
                                                                                                                  (List.tail
                                                                                                                    (List.tail
                                                                                                                      (List.tail
                                                                                                                        (List.tail
                                                                                                                          (List.tail v41))))))
                                                                                                                fun v52 =>
                                                                                                                Option.bind (AV.toSl (12 : Nat) v52)
                                                                                                                  fun v53 =>
                                                                                                                  call false (9 : Nat)
                                                                                                                    [AV.agg
                                                                                                                        [AV.int IntKind.i64 v16,
                                                                                                                          AV.int IntKind.i64 v18,
                                                                                                                          AV.int IntKind.i64 v20,
                                                                                                                          AV.str v22,
                                                                                                                          AV.slice (Sl.o v24)
                                                                                                                            (Sl.len v24) (Sl.cap v24)
                                                                                                                            (1 : Nat),
                                                                                                                          AV.slice (Sl.o v26)
                                                                                                                            (Sl.len v26) (Sl.cap v26)
                                                                                                                            (12 : Nat)],
                                                                                                                      AV.agg
                                                                                                                        [AV.int IntKind.i64 v43,
                                                                                                                          AV.int IntKind.i64 v45,
                                                                                                                          AV.int IntKind.i64 v47,
                                                                                                                          AV.str v49,
                                                                                                                          AV.slice (Sl.o v51)
                                                                                                                            (Sl.len v51) (Sl.cap v51)
                                                                                                                            (1 : Nat),
                                                                                                                          AV.slice (Sl.o v53)
                                                                                                                            (Sl.len v53) (Sl.cap v53)
                                                                                                                            (12 : Nat)]]
                                                                                                                    v40 fun v54 v55 =>
                                                                                                                    Option.bind (AV.toBool v54)
                                                                                                                      fun v56 =>
                                                                                                                      J Ex.normal
                                                                                                                        (f3e16 y0 y1 y2 y3 y4 y4
                                                                                                                          (y4 != (0 : Int)) false y3
                                                                                                                          (y3 != (0 : Int))
                                                                                                                          (y3 != (0 : Int)) false v1
                                                                                                                          v3 v5 v7 (Sl.o v9)
                                                                                                                          (Sl.len v9) (Sl.cap v9)
                                                                                                                          (Sl.o v11) (Sl.len v11)
                                                                                                                          (Sl.cap v11) v16 v18 v20 v22
                                                                                                                          (Sl.o v24) (Sl.len v24)
                                                                                                                          (Sl.cap v24) (Sl.o v26)
                                                                                                                          (Sl.len v26) (Sl.cap v26)
                                                                                                                          v28 v30 v32 v34 (Sl.o v36)
                                                                                                                          (Sl.len v36) (Sl.cap v36)
                                                                                                                          (Sl.o v38) (Sl.len v38)
                                                                                                                          (Sl.cap v38) v43 v45 v47 v49
                                                                                                                          (Sl.o v51) (Sl.len v51)
                                                                                                                          (Sl.cap v51) (Sl.o v53)
                                                                                                                          (Sl.len v53) (Sl.cap v53)
                                                                                                                          v56 (!v56) !v56)
                                                                                                                        v55
                                                                                        else none
                                                                                  else none
                                else none := hide (by kernel_rfl)
theorem f3z20_f3e14 (y0 : ByteArray) (y1 : Nat) (y2 : Nat) (y3 : Int) (y4 : Int) (y5 : Int) (y6 : Bool) (y7 : Bool) (y8 : Bool) (y9 : Bool) (y10 : Bool) : Ann.clr f3a20 (f3e14 y0 y1 y2 y3 y4 y5 y6 y7 y8 y9 y10) = f3e17 y0 y10 := hide (by kernel_rfl)
theorem f3x22_f3e17 {R : Type} (call : Bool → CallF R) (dem : Bool) (N : Nat) (y0 : ByteArray) (y1 : Bool) (J : KF R) (σ : St) : runK Tryz.prog call dem N f3c22 f3a22 J (f3e17 y0 y1) σ = if y1 = true then runK Tryz.prog call dem N f3c23 f3a23 (condC f3a22 J) (f3e17 y0 y1) σ else runK Tryz.prog call dem N f3c24 f3a24 (condC f3a22 J) (f3e17 y0 y1) σ := runK_cond' (o := Operand.tmp (49 : Nat)) (by kernel_rfl) (by kernel_rfl) (by kernel_rfl) (by kernel_rfl)
theorem f3n23 {R : Type} (call : Bool → CallF R) (dem : Bool) (N : Nat) (J : KF R) (e : Env) (σ : St) : runK Tryz.prog call dem N f3c23 f3a23 J e σ = runK Tryz.prog call dem N f3c25 f3a25 (seqC (fun K e σ => runK Tryz.prog call dem N f3c26 f3a26 K e σ) f3a23 J) e σ := runK_seq' (by kernel_rfl) (by kernel_rfl) (by kernel_rfl)
theorem f3r25_f3e17 {R : Type} (call : Bool → CallF R) (dem : Bool) (N : Nat) (y0 : ByteArray) (y1 : Bool) (J : KF R) (σ : St) :
    runK Tryz.prog call dem N f3c25 f3a25 J (f3e17 y0 y1) σ =
J Ex.normal (f3e18 y0 false y1) σ := hide (by kernel_rfl)
theorem f3z23_f3e18 (y0 : ByteArray) (y1 : Bool) (y2 : Bool) : Ann.clr f3a23 (f3e18 y0 y1 y2) = f3e7 y1 := hide (by kernel_rfl)
theorem f3y26_f3e7 {R : Type} (call : Bool → CallF R) (dem : Bool) (N : Nat) (y0 : Bool) (J : KF R) (σ : St) : runK Tryz.prog call dem N f3c26 f3a26 J (f3e7 y0) σ = J .ret (f3e7 y0) σ := runK_ret' (by kernel_rfl) (by kernel_rfl)
theorem f3n24 {R : Type} (call : Bool → CallF R) (dem : Bool) (N : Nat) (J : KF R) (e : Env) (σ : St) : runK Tryz.prog call dem N f3c24 f3a24 J e σ = J .normal e σ := runK_skip' (by kernel_rfl)
theorem f3z22_f3e17 (y0 : ByteArray) (y1 : Bool) : Ann.clr f3a22 (f3e17 y0 y1) = f3e19 y0 := hide (by kernel_rfl)
theorem f3z20_f3e15 (y0 : ByteArray) (y1 : Nat) (y2 : Nat) (y3 : Int) (y4 : Int) (y5 : Int) (y6 : Bool) (y7 : Bool) (y8 : Int) (y9 : Bool) (y10 : Bool) (y11 : Bool) (y12 : Bool) : Ann.clr f3a20 (f3e15 y0 y1 y2 y3 y4 y5 y6 y7 y8 y9 y10 y11 y12) = f3e17 y0 y12 := hide (by kernel_rfl)
theorem f3z20_f3e16 (y0 : ByteArray) (y1 : Nat) (y2 : Nat) (y3 : Int) (y4 : Int) (y5 : Int) (y6 : Bool) (y7 : Bool) (y8 : Int) (y9 : Bool) (y10 : Bool) (y11 : Bool) (y12 : Int) (y13 : Int) (y14 : Int) (y15 : ByteArray) (y16 : Option (Nat × Nat)) (y17 : Nat) (y18 : Option Nat) (y19 : Option (Nat × Nat)) (y20 : Nat) (y21 : Option Nat) (y22 : Int) (y23 : Int) (y24 : Int) (y25 : ByteArray) (y26 : Option (Nat × Nat)) (y27 : Nat) (y28 : Option Nat) (y29 : Option (Nat × Nat)) (y30 : Nat) (y31 : Option Nat) (y32 : Int) (y33 : Int) (y34 : Int) (y35 : ByteArray) (y36 : Option (Nat × Nat)) (y37 : Nat) (y38 : Option Nat) (y39 : Option (Nat × Nat)) (y40 : Nat) (y41 : Option Nat) (y42 : Int) (y43 : Int) (y44 : Int) (y45 : ByteArray) (y46 : Option (Nat × Nat)) (y47 : Nat) (y48 : Option Nat) (y49 : Option (Nat × Nat)) (y50 : Nat) (y51 : Option Nat) (y52 : Bool) (y53 : Bool) (y54 : Bool) : Ann.clr f3a20 (f3e16 y0 y1 y2 y3 y4 y5 y6 y7 y8 y9 y10 y11 y12 y13 y14 y15 y16 y17 y18 y19 y20 y21 y22 y23 y24 y25 y26 y27 y28 y29 y30 y31 y32 y33 y34 y35 y36 y37
  y38 y39 y40 y41 y42 y43 y44 y45 y46 y47 y48 y49 y50 y51 y52 y53 y54) = f3e17 y0 y54 := hide (by kernel_rfl)
theorem f3z16_f3e19 (y0 : ByteArray) : Ann.clr f3a16 (f3e19 y0) = f3e19 y0 := hide (by kernel_rfl)
theorem f3n18 {R : Type} (call : Bool → CallF R) (dem : Bool) (N : Nat) (J : KF R) (e : Env) (σ : St) : runK Tryz.prog call dem N f3c18 f3a18 J e σ = J .normal e σ := runK_skip' (by kernel_rfl)
theorem f3z16_f3e11 (y0 : ByteArray) (y1 : Nat) (y2 : ByteArray) (y3 : Bool) : Ann.clr f3a16 (f3e11 y0 y1 y2 y3) = f3e19 y0 := hide (by kernel_rfl)
theorem f3z12_f3e19 (y0 : ByteArray) : Ann.clr f3a12 (f3e19 y0) = f3e19 y0 := hide (by kernel_rfl)
theorem f3n14 {R : Type} (call : Bool → CallF R) (dem : Bool) (N : Nat) (J : KF R) (e : Env) (σ : St) : runK Tryz.prog call dem N f3c14 f3a14 J e σ = runK Tryz.prog call dem N f3c27 f3a27 (seqC (fun K e σ => runK Tryz.prog call dem N f3c28 f3a28 K e σ) f3a14 J) e σ := runK_seq' (by kernel_rfl) (by kernel_rfl) (by kernel_rfl)
theorem f3r27_f3e19 {R : Type} (call : Bool → CallF R) (dem : Bool) (N : Nat) (y0 : ByteArray) (J : KF R) (σ : St) :
    runK Tryz.prog call dem N f3c27 f3a27 J (f3e19 y0) σ =
call dem (8 : Nat) [AV.str y0] σ fun v0 v1 =>
  Option.bind (AV.toTuple v0) fun v2 =>
    if List.length v2 = (3 : Nat) then
      Option.bind (List.head? v2) fun v3 =>
        Option.bind (AV.toAgg v3) fun v4 =>
          if List.length v4 = (6 : Nat) then
            Option.bind (List.head? v4) fun v5 =>
              Option.bind (AV.toInt IntKind.i64 v5) fun v6 =>
                Option.bind (List.head? (List.tail v4)) fun v7 =>
                  Option.bind (AV.toInt IntKind.i64 v7) fun v8 =>
                    Option.bind (List.head? (List.tail (List.tail v4))) fun v9 =>
                      Option.bind (AV.toInt IntKind.i64 v9) fun v10 =>
                        Option.bind (List.head? (List.tail (List.tail (List.tail v4)))) fun v11 =>
                          Option.bind (AV.toStr v11) fun v12 =>
                            Option.bind (List.head? (List.tail (List.tail (List.tail (List.tail v4))))) fun v13 =>
                              Option.bind (AV.toSl (1 : Nat) v13) fun v14 =>
                                Option.bind (List.head? (List.tail (List.tail (List.tail (List.tail (List.tail v4)))))) fun v15 =>
                                  Option.bind (AV.toSl (12 : Nat) v15) fun v16 =>
                                    Option.bind (List.head? (List.tail v2)) fun v17 =>
                                      Option.bind (AV.toInt IntKind.i64 v17) fun v18 =>
                                        Option.bind (List.head? (List.tail (List.tail v2))) fun v19 =>
                                          Option.bind (AV.toInt IntKind.i64 v19) fun v20 =>
                                            Option.bind
                                              (St.st
                                                (St.new v1
                                                  (Blk.cells
                                                    [AV.int IntKind.i64 (0 : Int), AV.int IntKind.i64 (0 : Int), AV.int IntKind.i64 (0 : Int),
                                                      AV.str (ByteArray.mk #[]), AV.slice none (0 : Nat) (some (0 : Nat)) (1 : Nat),
                                                      AV.slice none (0 : Nat) (some (0 : Nat)) (12 : Nat)]
                                                    true))
                                                (St.next v1) (0 : Nat)
                                                [AV.int IntKind.i64 v6, AV.int IntKind.i64 v8, AV.int IntKind.i64 v10, AV.str v12,
                                                  AV.slice (Sl.o v14) (Sl.len v14) (Sl.cap v14) (1 : Nat),
                                                  AV.slice (Sl.o v16) (Sl.len v16) (Sl.cap v16) (12 : Nat)])
                                              fun v21 =>
                                              J Ex.normal
                                                (f3e20 y0 (St.next v1) v18 v20 v6 v8 v10 v12 (Sl.o v14) (Sl.len v14) (Sl.cap v14) (Sl.o v16)
                                                  (Sl.len v16) (Sl.cap v16) v18 v20 y0 v6 v8 v10 v12 (Sl.o v14) (Sl.len v14) (Sl.cap v14) (Sl.o v16)
                                                  (Sl.len v16) (Sl.cap v16) v18 v20 v6 v8 v10 v12 (Sl.o v14) (Sl.len v14) (Sl.cap v14) (Sl.o v16)
                                                  (Sl.len v16) (Sl.cap v16) v18 v20)
                                                v21
          else none
    else none := hide (by kernel_rfl)
theorem f3z14_f3e20 (y0 : ByteArray) (y1 : Nat) (y2 : Int) (y3 : Int) (y4 : Int) (y5 : Int) (y6 : Int) (y7 : ByteArray) (y8 : Option (Nat × Nat)) (y9 : Nat) (y10 : Option Nat) (y11 : Option (Nat × Nat)) (y12 : Nat) (y13 : Option Nat) (y14 : Int) (y15 : Int) (y16 : ByteArray) (y17 : Int) (y18 : Int) (y19 : Int) (y20 : ByteArray) (y21 : Option (Nat × Nat)) (y22 : Nat) (y23 : Option Nat) (y24 : Option (Nat × Nat)) (y25 : Nat) (y26 : Option Nat) (y27 : Int) (y28 : Int) (y29 : Int) (y30 : Int) (y31 : Int) (y32 : ByteArray) (y33 : Option (Nat × Nat)) (y34 : Nat) (y35 : Option Nat) (y36 : Option (Nat × Nat)) (y37 : Nat) (y38 : Option Nat) (y39 : Int) (y40 : Int) : Ann.clr f3a14 (f3e20 y0 y1 y2 y3 y4 y5 y6 y7 y8 y9 y10 y11 y12 y13 y14 y15 y16 y17 y18 y19 y20 y21 y22 y23 y24 y25 y26 y27 y28 y29 y30 y31 y32 y33 y34 y35 y36 y37
  y38 y39 y40) = f3e21 y0 y1 y3 := hide (by kernel_rfl)
theorem f3n28 {R : Type} (call : Bool → CallF R) (dem : Bool) (N : Nat) (J : KF R) (e : Env) (σ : St) : runK Tryz.prog call dem N f3c28 f3a28 J e σ = runK Tryz.prog call dem N f3c29 f3a29 (seqC (fun K e σ => runK Tryz.prog call dem N f3c30 f3a30 K e σ) f3a28 J) e σ := runK_seq' (by kernel_rfl) (by kernel_rfl) (by kernel_rfl)
theorem f3n29 {R : Type} (call : Bool → CallF R) (dem : Bool) (N : Nat) (J : KF R) (e : Env) (σ : St) : runK Tryz.prog call dem N f3c29 f3a29 J e σ = runK Tryz.prog call dem N f3c31 f3a31 (seqC (fun K e σ => runK Tryz.prog call dem N f3c32 f3a32 K e σ) f3a29 J) e σ := runK_seq' (by kernel_rfl) (by kernel_rfl) (by kernel_rfl)
theorem f3r31_f3e21 {R : Type} (call : Bool → CallF R) (dem : Bool) (N : Nat) (y0 : ByteArray) (y1 : Nat) (y2 : Int) (J : KF R) (σ : St) :
    runK Tryz.prog call dem N f3c31 f3a31 J (f3e21 y0 y1 y2) σ =
J Ex.normal (f3e22 y0 y1 y2 y2 (y2 != (0 : Int))) σ := hide (by kernel_rfl)
theorem f3z29_f3e22 (y0 : ByteArray) (y1 : Nat) (y2 : Int) (y3 : Int) (y4 : Bool) : Ann.clr f3a29 (f3e22 y0 y1 y2 y3 y4) = f3e23 y0 y1 y4 := hide (by kernel_rfl)
theorem f3x32_f3e23 {R : Type} (call : Bool → CallF R) (dem : Bool) (N : Nat) (y0 : ByteArray) (y1 : Nat) (y2 : Bool) (J : KF R) (σ : St) : runK Tryz.prog call dem N f3c32 f3a32 J (f3e23 y0 y1 y2) σ = if y2 = true then runK Tryz.prog call dem N f3c33 f3a33 (condC f3a32 J) (f3e23 y0 y1 y2) σ else runK Tryz.prog call dem N f3c34 f3a34 (condC f3a32 J) (f3e23 y0 y1 y2) σ := runK_cond' (o := Operand.tmp (57 : Nat)) (by kernel_rfl) (by kernel_rfl) (by kernel_rfl) (by kernel_rfl)
theorem f3n33 {R : Type} (call : Bool → CallF R) (dem : Bool) (N : Nat) (J : KF R) (e : Env) (σ : St) : runK Tryz.prog call dem N f3c33 f3a33 J e σ = runK Tryz.prog call dem N f3c35 f3a35 (seqC (fun K e σ => runK Tryz.prog call dem N f3c36 f3a36 K e σ) f3a33 J) e σ := runK_seq' (by kernel_rfl) (by kernel_rfl) (by kernel_rfl)
theorem f3r35_f3e23 {R : Type} (call : Bool → CallF R) (dem : Bool) (N : Nat) (y0 : ByteArray) (y1 : Nat) (y2 : Bool) (J : KF R) (σ : St) :
    runK Tryz.prog call dem N f3c35 f3a35 J (f3e23 y0 y1 y2) σ =
Option.bind (St.ld σ y1 (0 : Nat)) fun v0 =>
  Option.bind (AV.toInt IntKind.i64 v0) fun v1 =>
    Option.bind (St.ld σ y1 (1 : Nat)) fun v2 =>
      Option.bind (AV.toInt IntKind.i64 v2) fun v3 =>
        Option.bind (St.ld σ y1 (2 : Nat)) fun v4 =>
          Option.bind (AV.toInt IntKind.i64 v4) fun v5 =>
            Option.bind (St.ld σ y1 (3 : Nat)) fun v6 =>
              Option.bind (AV.toStr v6) fun v7 =>
                Option.bind (St.ld σ y1 (4 : Nat)) fun v8 =>
                  Option.bind (AV.toSl (1 : Nat) v8) fun v9 =>
                    Option.bind (St.ld σ y1 (5 : Nat)) fun v10 =>
                      Option.bind (AV.toSl (12 : Nat) v10) fun v11 =>
                        call dem (10 : Nat)
                          [AV.agg
                              [AV.int IntKind.i64 v1, AV.int IntKind.i64 v3, AV.int IntKind.i64 v5, AV.str v7,
                                AV.slice (Sl.o v9) (Sl.len v9) (Sl.cap v9) (1 : Nat), AV.slice (Sl.o v11) (Sl.len v11) (Sl.cap v11) (12 : Nat)]]
                          σ fun v12 v13 =>
                          Option.bind (AV.toAgg v12) fun v14 =>
                            if List.length v14 = (6 : Nat) then
                              Option.bind (List.head? v14) fun v15 =>
                                Option.bind (AV.toInt IntKind.i64 v15) fun v16 =>
                                  Option.bind (List.head? (List.tail v14)) fun v17 =>
                                    Option.bind (AV.toInt IntKind.i64 v17) fun v18 =>
                                      Option.bind (List.head? (List.tail (List.tail v14))) fun v19 =>
                                        Option.bind (AV.toInt IntKind.i64 v19) fun v20 =>
                                          Option.bind (List.head? (List.tail (List.tail (List.tail v14)))) fun v21 =>
                                            Option.bind (AV.toStr v21) fun v22 =>
                                              Option.bind (List.head? (List.tail (List.tail (List.tail (List.tail v14))))) fun v23 =>
                                                Option.bind (AV.toSl (1 : Nat) v23) fun v24 =>
                                                  Option.bind (List.head? (List.tail (List.tail (List.tail (List.tail (List.tail v14)))))) fun v25 =>
                                                    Option.bind (AV.toSl (12 : Nat) v25) fun v26 =>
                                                      call dem (9 : Nat)
                                                        [AV.agg
                                                            [AV.int IntKind.i64 v16, AV.int IntKind.i64 v18, AV.int IntKind.i64 v20, AV.str v22,
                                                              AV.slice (Sl.o v24) (Sl.len v24) (Sl.cap v24) (1 : Nat),
                                                              AV.slice (Sl.o v26) (Sl.len v26) (Sl.cap v26) (12 : Nat)],
                                                          AV.agg
                                                            [AV.int IntKind.i64 (0 : Int), AV.int IntKind.i64 (0 : Int), AV.int IntKind.i64 (0 : Int),
                                                              AV.str (ByteArray.mk #[]), AV.slice none (0 : Nat) (some (0 : Nat)) (1 : Nat),
                                                              AV.slice none (0 : Nat) (some (0 : Nat)) (12 : Nat)]]
                                                        v13 fun v27 v28 =>
                                                        Option.bind (AV.toBool v27) fun v29 =>
                                                          if v29 = true then
                                                            call dem (6 : Nat) [] v28 fun v30 v31 =>
                                                              Option.bind (AV.toBool v30) fun v32 =>
                                                                J Ex.normal
                                                                  (f3e24 y0 v32 y1 y2 v1 v3 v5 v7 (Sl.o v9) (Sl.len v9) (Sl.cap v9) (Sl.o v11)
                                                                    (Sl.len v11) (Sl.cap v11) v16 v18 v20 v22 (Sl.o v24) (Sl.len v24) (Sl.cap v24)
                                                                    (Sl.o v26) (Sl.len v26) (Sl.cap v26) (0 : Int) (0 : Int) (0 : Int)
                                                                    (ByteArray.mk #[]) none (0 : Nat) (some (0 : Nat)) none (0 : Nat) (some (0 : Nat))
                                                                    v29 true v32 v32)
                                                                  v31
                                                          else
                                                            J Ex.normal
                                                              (f3e25 y0 false y1 y2 v1 v3 v5 v7 (Sl.o v9) (Sl.len v9) (Sl.cap v9) (Sl.o v11)
                                                                (Sl.len v11) (Sl.cap v11) v16 v18 v20 v22 (Sl.o v24) (Sl.len v24) (Sl.cap v24)
                                                                (Sl.o v26) (Sl.len v26) (Sl.cap v26) (0 : Int) (0 : Int) (0 : Int) (ByteArray.mk #[])
                                                                none (0 : Nat) (some (0 : Nat)) none (0 : Nat) (some (0 : Nat)) v29 false false)
                                                              v28
                            else none := hide (by kernel_rfl)
theorem f3z33_f3e24 (y0 : ByteArray) (y1 : Bool) (y2 : Nat) (y3 : Bool) (y4 : Int) (y5 : Int) (y6 : Int) (y7 : ByteArray) (y8 : Option (Nat × Nat)) (y9 : Nat) (y10 : Option Nat) (y11 : Option (Nat × Nat)) (y12 : Nat) (y13 : Option Nat) (y14 : Int) (y15 : Int) (y16 : Int) (y17 : ByteArray) (y18 : Option (Nat × Nat)) (y19 : Nat) (y20 : Option Nat) (y21 : Option (Nat × Nat)) (y22 : Nat) (y23 : Option Nat) (y24 : Int) (y25 : Int) (y26 : Int) (y27 : ByteArray) (y28 : Option (Nat × Nat)) (y29 : Nat) (y30 : Option Nat) (y31 : Option (Nat × Nat)) (y32 : Nat) (y33 : Option Nat) (y34 : Bool) (y35 : Bool) (y36 : Bool) (y37 : Bool) : Ann.clr f3a33 (f3e24 y0 y1 y2 y3 y4 y5 y6 y7 y8 y9 y10 y11 y12 y13 y14 y15 y16 y17 y18 y19 y20 y21 y22 y23 y24 y25 y26 y27 y28 y29 y30 y31 y32 y33 y34 y35 y36 y37) = f3e7 y1 := hide (by kernel_rfl)
theorem f3y36_f3e7 {R : Type} (call : Bool → CallF R) (dem : Bool) (N : Nat) (y0 : Bool) (J : KF R) (σ : St) : runK Tryz.prog call dem N f3c36 f3a36 J (f3e7 y0) σ = J .ret (f3e7 y0) σ := runK_ret' (by kernel_rfl) (by kernel_rfl)
theorem f3z33_f3e25 (y0 : ByteArray) (y1 : Bool) (y2 : Nat) (y3 : Bool) (y4 : Int) (y5 : Int) (y6 : Int) (y7 : ByteArray) (y8 : Option (Nat × Nat)) (y9 : Nat) (y10 : Option Nat) (y11 : Option (Nat × Nat)) (y12 : Nat) (y13 : Option Nat) (y14 : Int) (y15 : Int) (y16 : Int) (y17 : ByteArray) (y18 : Option (Nat × Nat)) (y19 : Nat) (y20 : Option Nat) (y21 : Option (Nat × Nat)) (y22 : Nat) (y23 : Option Nat) (y24 : Int) (y25 : Int) (y26 : Int) (y27 : ByteArray) (y28 : Option (Nat × Nat)) (y29 : Nat) (y30 : Option Nat) (y31 : Option (Nat × Nat)) (y32 : Nat) (y33 : Option Nat) (y34 : Bool) (y35 : Bool) (y36 : Bool) : Ann.clr f3a33 (f3e25 y0 y1 y2 y3 y4 y5 y6 y7 y8 y9 y10 y11 y12 y13 y14 y15 y16 y17 y18 y19 y20 y21 y22 y23 y24 y25 y26 y27 y28 y29 y30 y31 y32 y33 y34 y35 y36) = f3e7 y1 := hide (by kernel_rfl)
theorem f3n34 {R : Type} (call : Bool → CallF R) (dem : Bool) (N : Nat) (J : KF R) (e : Env) (σ : St) : runK Tryz.prog call dem N f3c34 f3a34 J e σ = J .normal e σ := runK_skip' (by kernel_rfl)
theorem f3z32_f3e23 (y0 : ByteArray) (y1 : Nat) (y2 : Bool) : Ann.clr f3a32 (f3e23 y0 y1 y2) = f3e26 y0 y1 := hide (by kernel_rfl)
theorem f3z28_f3e26 (y0 : ByteArray) (y1 : Nat) : Ann.clr f3a28 (f3e26 y0 y1) = f3e26 y0 y1 := hide (by kernel_rfl)
theorem f3n30 {R : Type} (call : Bool → CallF R) (dem : Bool) (N : Nat) (J : KF R) (e : Env) (σ : St) : runK Tryz.prog call dem N f3c30 f3a30 J e σ = runK Tryz.prog call dem N f3c37 f3a37 (seqC (fun K e σ => runK Tryz.prog call dem N f3c38 f3a38 K e σ) f3a30 J) e σ := runK_seq' (by kernel_rfl) (by kernel_rfl) (by kernel_rfl)
theorem f3r37_f3e26 {R : Type} (call : Bool → CallF R) (dem : Bool) (N : Nat) (y0 : ByteArray) (y1 : Nat) (J : KF R) (σ : St) :
    runK Tryz.prog call dem N f3c37 f3a37 J (f3e26 y0 y1) σ =
Option.bind (St.ld σ y1 (0 : Nat)) fun v0 =>
  Option.bind (AV.toInt IntKind.i64 v0) fun v1 =>
    Option.bind (St.ld σ y1 (1 : Nat)) fun v2 =>
      Option.bind (AV.toInt IntKind.i64 v2) fun v3 =>
        Option.bind (St.ld σ y1 (2 : Nat)) fun v4 =>
          Option.bind (AV.toInt IntKind.i64 v4) fun v5 =>
            Option.bind (St.ld σ y1 (3 : Nat)) fun v6 =>
              Option.bind (AV.toStr v6) fun v7 =>
                Option.bind (St.ld σ y1 (4 : Nat)) fun v8 =>
                  Option.bind (AV.toSl (1 : Nat) v8) fun v9 =>
                    Option.bind (St.ld σ y1 (5 : Nat)) fun v10 =>
                      Option.bind (AV.toSl (12 : Nat) v10) fun v11 =>
                        call dem (7 : Nat)
                          [AV.agg
                              [AV.int IntKind.i64 v1, AV.int IntKind.i64 v3, AV.int IntKind.i64 v5, AV.str v7,
                                AV.slice (Sl.o v9) (Sl.len v9) (Sl.cap v9) (1 : Nat), AV.slice (Sl.o v11) (Sl.len v11) (Sl.cap v11) (12 : Nat)]]
                          σ fun v12 v13 =>
                          Option.bind (AV.toTuple v12) fun v14 =>
                            if List.length v14 = (2 : Nat) then
                              Option.bind (List.head? v14) fun v15 =>
                                Option.bind (AV.toStr v15) fun v16 =>
                                  Option.bind (List.head? (List.tail v14)) fun v17 =>
                                    Option.bind (AV.toInt IntKind.i64 v17) fun v18 =>
                                      J Ex.normal
                                        (f3e27 y0 y1 v16 v18 v16 v18 v1 v3 v5 v7 (Sl.o v9) (Sl.len v9) (Sl.cap v9) (Sl.o v11) (Sl.len v11)
                                          (Sl.cap v11) v16 v18 v16 v18)
                                        v13
                            else none := hide (by kernel_rfl)
theorem f3z30_f3e27 (y0 : ByteArray) (y1 : Nat) (y2 : ByteArray) (y3 : Int) (y4 : ByteArray) (y5 : Int) (y6 : Int) (y7 : Int) (y8 : Int) (y9 : ByteArray) (y10 : Option (Nat × Nat)) (y11 : Nat) (y12 : Option Nat) (y13 : Option (Nat × Nat)) (y14 : Nat) (y15 : Option Nat) (y16 : ByteArray) (y17 : Int) (y18 : ByteArray) (y19 : Int) : Ann.clr f3a30 (f3e27 y0 y1 y2 y3 y4 y5 y6 y7 y8 y9 y10 y11 y12 y13 y14 y15 y16 y17 y18 y19) = f3e28 y0 y2 y3 := hide (by kernel_rfl)
theorem f3n38 {R : Type} (call : Bool → CallF R) (dem : Bool) (N : Nat) (J : KF R) (e : Env) (σ : St) : runK Tryz.prog call dem N f3c38 f3a38 J e σ = runK Tryz.prog call dem N f3c39 f3a39 (seqC (fun K e σ => runK Tryz.prog call dem N f3c40 f3a40 K e σ) f3a38 J) e σ := runK_seq' (by kernel_rfl) (by kernel_rfl) (by kernel_rfl)
theorem f3r39_f3e28 {R : Type} (call : Bool → CallF R) (dem : Bool) (N : Nat) (y0 : ByteArray) (y1 : ByteArray) (y2 : Int) (J : KF R) (σ : St) :
    runK Tryz.prog call dem N f3c39 f3a39 J (f3e28 y0 y1 y2) σ =
if (y2 == (0 : Int)) = true then
  if decide (y1 = y0) = true then
    call dem (6 : Nat) [] σ fun v0 v1 =>
      Option.bind (AV.toBool v0) fun v2 =>
        J Ex.normal (f3e29 y0 v2 y1 y2 y2 (y2 == (0 : Int)) true y1 y0 (decide (y1 = y0)) (decide (y1 = y0)) true v2 v2) v1
  else J Ex.normal (f3e30 y0 false y1 y2 y2 (y2 == (0 : Int)) true y1 y0 (decide (y1 = y0)) (decide (y1 = y0)) false false) σ
else J Ex.normal (f3e31 y0 false y1 y2 y2 (y2 == (0 : Int)) false false false false) σ := hide (by kernel_rfl)
theorem f3z38_f3e29 (y0 : ByteArray) (y1 : Bool) (y2 : ByteArray) (y3 : Int) (y4 : Int) (y5 : Bool) (y6 : Bool) (y7 : ByteArray) (y8 : ByteArray) (y9 : Bool) (y10 : Bool) (y11 : Bool) (y12 : Bool) (y13 : Bool) : Ann.clr f3a38 (f3e29 y0 y1 y2 y3 y4 y5 y6 y7 y8 y9 y10 y11 y12 y13) = f3e7 y1 := hide (by kernel_rfl)
theorem f3y40_f3e7 {R : Type} (call : Bool → CallF R) (dem : Bool) (N : Nat) (y0 : Bool) (J : KF R) (σ : St) : runK Tryz.prog call dem N f3c40 f3a40 J (f3e7 y0) σ = J .ret (f3e7 y0) σ := runK_ret' (by kernel_rfl) (by kernel_rfl)
theorem f3z38_f3e30 (y0 : ByteArray) (y1 : Bool) (y2 : ByteArray) (y3 : Int) (y4 : Int) (y5 : Bool) (y6 : Bool) (y7 : ByteArray) (y8 : ByteArray) (y9 : Bool) (y10 : Bool) (y11 : Bool) (y12 : Bool) : Ann.clr f3a38 (f3e30 y0 y1 y2 y3 y4 y5 y6 y7 y8 y9 y10 y11 y12) = f3e7 y1 := hide (by kernel_rfl)
theorem f3z38_f3e31 (y0 : ByteArray) (y1 : Bool) (y2 : ByteArray) (y3 : Int) (y4 : Int) (y5 : Bool) (y6 : Bool) (y7 : Bool) (y8 : Bool) (y9 : Bool) : Ann.clr f3a38 (f3e31 y0 y1 y2 y3 y4 y5 y6 y7 y8 y9) = f3e7 y1 := hide (by kernel_rfl)
theorem f3b_f3e7_r {R : Type} (y0 : Bool) (σ : St) (K : AV → St → Option R) : bodyC Tryz.prog f3rs K (Ex.ret) (f3e7 y0) σ =
K (AV.bool y0) σ := hide (by kernel_rfl)
attribute [go_sem] f3_eq f3n0 f3r1_f3e0 f3z0_f3e1 f3n2 f3n3 f3r5_f3e2 f3z3_f3e3 f3x6_f3e5 f3n7 f3r9_f3e5 f3z7_f3e6 f3y10_f3e7 f3n8 f3z6_f3e5 f3z3_f3e4 f3z2_f3e2 f3n4 f3r11_f3e2 f3z4_f3e8 f3n12 f3n13 f3r15_f3e9 f3z13_f3e10 f3x16_f3e11 f3n17 f3r19_f3e11 f3z17_f3e12 f3n20 f3r21_f3e13 f3z20_f3e14 f3x22_f3e17 f3n23 f3r25_f3e17 f3z23_f3e18 f3y26_f3e7 f3n24 f3z22_f3e17 f3z20_f3e15 f3z20_f3e16 f3z16_f3e19 f3n18 f3z16_f3e11 f3z12_f3e19 f3n14 f3r27_f3e19 f3z14_f3e20 f3n28 f3n29 f3r31_f3e21 f3z29_f3e22 f3x32_f3e23 f3n33 f3r35_f3e23 f3z33_f3e24 f3y36_f3e7 f3z33_f3e25 f3n34 f3z32_f3e23 f3z28_f3e26 f3n30 f3r37_f3e26 f3z30_f3e27 f3n38 f3r39_f3e28 f3z38_f3e29 f3y40_f3e7 f3z38_f3e30 f3z38_f3e31 f3b_f3e7_r

noncomputable def f5rs : List ResultVar := [ResultVar.tmp (2 : Nat)]
noncomputable def f5c0 : Code := subCode [] (bodyOf Tryz.prog 5)
def f5a0 : Ann := subAnn [] ann5
noncomputable def f5c1 : Code := subCode [0] (bodyOf Tryz.prog 5)
def f5a1 : Ann := subAnn [0] ann5
noncomputable def f5c2 : Code := subCode [1] (bodyOf Tryz.prog 5)
def f5a2 : Ann := subAnn [1] ann5
noncomputable def f5c3 : Code := subCode [1, 0] (bodyOf Tryz.prog 5)
def f5a3 : Ann := subAnn [1, 0] ann5
noncomputable def f5c4 : Code := subCode [1, 1] (bodyOf Tryz.prog 5)
def f5a4 : Ann := subAnn [1, 1] ann5
noncomputable def f5c5 : Code := subCode [1, 1, 0] (bodyOf Tryz.prog 5)
def f5a5 : Ann := subAnn [1, 1, 0] ann5
noncomputable def f5c6 : Code := subCode [1, 1, 1] (bodyOf Tryz.prog 5)
def f5a6 : Ann := subAnn [1, 1, 1] ann5
noncomputable def f5c7 : Code := subCode [1, 1, 0, 0] (bodyOf Tryz.prog 5)
def f5a7 : Ann := subAnn [1, 1, 0, 0] ann5
noncomputable def f5c8 : Code := subCode [1, 1, 0, 1] (bodyOf Tryz.prog 5)
def f5a8 : Ann := subAnn [1, 1, 0, 1] ann5
noncomputable def f5c9 : Code := subCode [1, 1, 0, 1, 0] (bodyOf Tryz.prog 5)
def f5a9 : Ann := subAnn [1, 1, 0, 1, 0] ann5
noncomputable def f5c10 : Code := subCode [1, 1, 0, 1, 0, 0] (bodyOf Tryz.prog 5)
def f5a10 : Ann := subAnn [1, 1, 0, 1, 0, 0] ann5
noncomputable def f5c11 : Code := subCode [1, 1, 0, 1, 0, 0, 0] (bodyOf Tryz.prog 5)
def f5a11 : Ann := subAnn [1, 1, 0, 1, 0, 0, 0] ann5
noncomputable def f5c12 : Code := subCode [1, 1, 0, 1, 0, 0, 1] (bodyOf Tryz.prog 5)
def f5a12 : Ann := subAnn [1, 1, 0, 1, 0, 0, 1] ann5
noncomputable def f5c13 : Code := subCode [1, 1, 0, 1, 0, 0, 1, 0] (bodyOf Tryz.prog 5)
def f5a13 : Ann := subAnn [1, 1, 0, 1, 0, 0, 1, 0] ann5
noncomputable def f5c14 : Code := subCode [1, 1, 0, 1, 0, 0, 1, 1] (bodyOf Tryz.prog 5)
def f5a14 : Ann := subAnn [1, 1, 0, 1, 0, 0, 1, 1] ann5
noncomputable def f5c15 : Code := subCode [1, 1, 0, 1, 0, 0, 1, 0, 0] (bodyOf Tryz.prog 5)
def f5a15 : Ann := subAnn [1, 1, 0, 1, 0, 0, 1, 0, 0] ann5
noncomputable def f5c16 : Code := subCode [1, 1, 0, 1, 0, 0, 1, 0, 1] (bodyOf Tryz.prog 5)
def f5a16 : Ann := subAnn [1, 1, 0, 1, 0, 0, 1, 0, 1] ann5
noncomputable def f5c17 : Code := subCode [1, 1, 0, 1, 0, 0, 1, 1, 0] (bodyOf Tryz.prog 5)
def f5a17 : Ann := subAnn [1, 1, 0, 1, 0, 0, 1, 1, 0] ann5
noncomputable def f5c18 : Code := subCode [1, 1, 0, 1, 0, 0, 1, 1, 1] (bodyOf Tryz.prog 5)
def f5a18 : Ann := subAnn [1, 1, 0, 1, 0, 0, 1, 1, 1] ann5
noncomputable def f5c19 : Code := subCode [1, 1, 0, 1, 0, 0, 1, 1, 0, 0] (bodyOf Tryz.prog 5)
def f5a19 : Ann := subAnn [1, 1, 0, 1, 0, 0, 1, 1, 0, 0] ann5
noncomputable def f5c20 : Code := subCode [1, 1, 0, 1, 0, 0, 1, 1, 0, 0, 0] (bodyOf Tryz.prog 5)
def f5a20 : Ann := subAnn [1, 1, 0, 1, 0, 0, 1, 1, 0, 0, 0] ann5
noncomputable def f5c21 : Code := subCode [1, 1, 0, 1, 0, 0, 1, 1, 0, 0, 1] (bodyOf Tryz.prog 5)
def f5a21 : Ann := subAnn [1, 1, 0, 1, 0, 0, 1, 1, 0, 0, 1] ann5
noncomputable def f5c22 : Code := subCode [1, 1, 0, 1, 0, 0, 1, 1, 0, 0, 1, 0] (bodyOf Tryz.prog 5)
def f5a22 : Ann := subAnn [1, 1, 0, 1, 0, 0, 1, 1, 0, 0, 1, 0] ann5
noncomputable def f5c23 : Code := subCode [1, 1, 0, 1, 0, 0, 1, 1, 0, 0, 1, 1] (bodyOf Tryz.prog 5)
def f5a23 : Ann := subAnn [1, 1, 0, 1, 0, 0, 1, 1, 0, 0, 1, 1] ann5
noncomputable def f5c24 : Code := subCode [1, 1, 0, 1, 0, 0, 1, 1, 0, 0, 1, 1, 0] (bodyOf Tryz.prog 5)
def f5a24 : Ann := subAnn [1, 1, 0, 1, 0, 0, 1, 1, 0, 0, 1, 1, 0] ann5
noncomputable def f5c25 : Code := subCode [1, 1, 0, 1, 0, 0, 1, 1, 0, 0, 1, 1, 1] (bodyOf Tryz.prog 5)
def f5a25 : Ann := subAnn [1, 1, 0, 1, 0, 0, 1, 1, 0, 0, 1, 1, 1] ann5
noncomputable def f5c26 : Code := subCode [1, 1, 0, 1, 0, 0, 1, 1, 0, 0, 1, 1, 1, 0] (bodyOf Tryz.prog 5)
def f5a26 : Ann := subAnn [1, 1, 0, 1, 0, 0, 1, 1, 0, 0, 1, 1, 1, 0] ann5
noncomputable def f5c27 : Code := subCode [1, 1, 0, 1, 0, 0, 1, 1, 0, 0, 1, 1, 1, 1] (bodyOf Tryz.prog 5)
def f5a27 : Ann := subAnn [1, 1, 0, 1, 0, 0, 1, 1, 0, 0, 1, 1, 1, 1] ann5
noncomputable def f5c28 : Code := subCode [1, 1, 0, 1, 0, 0, 1, 1, 0, 0, 1, 1, 1, 0, 0] (bodyOf Tryz.prog 5)
def f5a28 : Ann := subAnn [1, 1, 0, 1, 0, 0, 1, 1, 0, 0, 1, 1, 1, 0, 0] ann5
noncomputable def f5c29 : Code := subCode [1, 1, 0, 1, 0, 0, 1, 1, 0, 0, 1, 1, 1, 0, 1] (bodyOf Tryz.prog 5)
def f5a29 : Ann := subAnn [1, 1, 0, 1, 0, 0, 1, 1, 0, 0, 1, 1, 1, 0, 1] ann5
noncomputable def f5c30 : Code := subCode [1, 1, 1, 0] (bodyOf Tryz.prog 5)
def f5a30 : Ann := subAnn [1, 1, 1, 0] ann5
noncomputable def f5c31 : Code := subCode [1, 1, 1, 1] (bodyOf Tryz.prog 5)
def f5a31 : Ann := subAnn [1, 1, 1, 1] ann5
noncomputable def f5L9 {R : Type} (call : Bool → CallF R) (dem : Bool) (N : Nat) : KF R → Env → St → Option R := fun K e σ => runK Tryz.prog call dem N f5c10 f5a10 K e σ
def f5e0 (y0 : Int) (y1 : Int) (y2 : Int) (y3 : ByteArray) (y4 : Option (Nat × Nat)) (y5 : Nat) (y6 : Option Nat) (y7 : Option (Nat × Nat)) (y8 : Nat) (y9 : Option Nat) : Env := AV.agg [AV.int IntKind.i64 y0, AV.int IntKind.i64 y1, AV.int IntKind.i64 y2, AV.str y3, AV.slice y4 y5 y6 (1 : Nat), AV.slice y7 y8 y9 (12 : Nat)] :: Env.sp 45 []
def f5e1 (y0 : Int) (y1 : Int) (y2 : Int) (y3 : ByteArray) (y4 : Option (Nat × Nat)) (y5 : Nat) (y6 : Option Nat) (y7 : Option (Nat × Nat)) (y8 : Nat) (y9 : Option Nat) (y10 : Nat) (y11 : Bool) : Env := AV.agg [AV.int IntKind.i64 y0, AV.int IntKind.i64 y1, AV.int IntKind.i64 y2, AV.str y3, AV.slice y4 y5 y6 (1 : Nat), AV.slice y7 y8 y9 (12 : Nat)] :: AV.ptr (some (y10, (0 : Nat))) :: AV.bool y11 :: Env.sp 43 []
def f5e2 (y0 : Nat) : Env := Env.sp 1 (AV.ptr (some (y0, (0 : Nat))) :: Env.sp 44 [])
def f5e3 (y0 : Nat) (y1 : Int) (y2 : Nat) (y3 : ByteArray) (y4 : Int) : Env := Env.sp 1 (AV.ptr (some (y0, (0 : Nat))) :: Env.sp 1 (AV.int IntKind.i64 y1 :: Env.sp 2 (AV.ptr (some (y2, (3 : Nat))) :: AV.str y3 :: AV.int IntKind.i64 y4 :: Env.sp 37 [])))
def f5e4 (y0 : Nat) (y1 : Int) : Env := Env.sp 1 (AV.ptr (some (y0, (0 : Nat))) :: Env.sp 1 (AV.int IntKind.i64 y1 :: Env.sp 42 []))
def f5e5 (y0 : Nat) (y1 : Int) (y2 : Nat) (y3 : Option (Nat × Nat)) (y4 : Nat) (y5 : Option Nat) (y6 : Int) (y7 : Int) : Env := Env.sp 1 (AV.ptr (some (y0, (0 : Nat))) :: Env.sp 1 (AV.int IntKind.i64 y1 :: Env.sp 5 (AV.ptr (some (y2, (5 : Nat))) :: AV.slice y3 y4 y5 (12 : Nat) :: AV.int IntKind.i64 y6 :: AV.int IntKind.i64 y7 :: Env.sp 33 [])))
def f5e6 (y0 : Nat) (y1 : Int) (y2 : Option (Nat × Nat)) (y3 : Nat) (y4 : Option Nat) (y5 : Int) (y6 : Int) : Env := Env.sp 1 (AV.ptr (some (y0, (0 : Nat))) :: Env.sp 1 (AV.int IntKind.i64 y1 :: Env.sp 6 (AV.slice y2 y3 y4 (12 : Nat) :: AV.int IntKind.i64 y5 :: AV.int IntKind.i64 y6 :: Env.sp 33 [])))
def f5e7 (y0 : Nat) (y1 : Int) (y2 : Option (Nat × Nat)) (y3 : Nat) (y4 : Option Nat) (y5 : Int) (y6 : Int) (y7 : Bool) : Env := Env.sp 1 (AV.ptr (some (y0, (0 : Nat))) :: Env.sp 1 (AV.int IntKind.i64 y1 :: Env.sp 6 (AV.slice y2 y3 y4 (12 : Nat) :: AV.int IntKind.i64 y5 :: AV.int IntKind.i64 y6 :: AV.bool y7 :: Env.sp 32 [])))
def f5e8 (y0 : Nat) (y1 : Int) (y2 : Nat) (y3 : Option (Nat × Nat)) (y4 : Nat) (y5 : Option Nat) (y6 : Int) (y7 : Int) (y8 : Option (Nat × Nat)) (y9 : Int) (y10 : Int) (y11 : Int) (y12 : Int) (y13 : Int) (y14 : Int) (y15 : Int) (y16 : Int) (y17 : ByteArray) (y18 : ByteArray) (y19 : ByteArray) (y20 : ByteArray) : Env := Env.sp 1 (AV.ptr (some (y0, (0 : Nat))) :: Env.sp 1 (AV.int IntKind.i64 y1 :: Env.sp 1 (AV.ptr (some (y2, (0 : Nat))) :: Env.sp 4 (AV.slice y3 y4 y5 (12 : Nat) :: AV.int IntKind.i64 y6 :: AV.int IntKind.i64 y7 :: Env.sp 1 (AV.ptr y8 :: AV.agg
  [AV.int IntKind.i64 y9, AV.int IntKind.i64 y10, AV.int IntKind.i64 y11, AV.int IntKind.i64 y12, AV.int IntKind.i64 y13, AV.int IntKind.i64 y14,
    AV.int IntKind.i64 y15, AV.int IntKind.i64 y16, AV.str y17, AV.str y18, AV.str y19, AV.str y20] :: Env.sp 30 [])))))
def f5e9 (y0 : Nat) (y1 : Int) (y2 : Nat) (y3 : Option (Nat × Nat)) (y4 : Nat) (y5 : Option Nat) (y6 : Int) (y7 : Int) : Env := Env.sp 1 (AV.ptr (some (y0, (0 : Nat))) :: Env.sp 1 (AV.int IntKind.i64 y1 :: Env.sp 1 (AV.ptr (some (y2, (0 : Nat))) :: Env.sp 4 (AV.slice y3 y4 y5 (12 : Nat) :: AV.int IntKind.i64 y6 :: AV.int IntKind.i64 y7 :: Env.sp 33 []))))
def f5e10 (y0 : Nat) (y1 : Int) (y2 : Nat) (y3 : Option (Nat × Nat)) (y4 : Nat) (y5 : Option Nat) (y6 : Int) (y7 : Int) (y8 : Int) (y9 : Nat) (y10 : ByteArray) (y11 : Int) (y12 : Int) (y13 : Nat) (y14 : ByteArray) (y15 : Int) (y16 : Int) (y17 : Nat) (y18 : ByteArray) (y19 : Int) (y20 : Int) (y21 : Nat) (y22 : ByteArray) (y23 : Int) (y24 : Int) : Env := Env.sp 1 (AV.ptr (some (y0, (0 : Nat))) :: Env.sp 1 (AV.int IntKind.i64 y1 :: Env.sp 1 (AV.ptr (some (y2, (0 : Nat))) :: Env.sp 4 (AV.slice y3 y4 y5 (12 : Nat) :: AV.int IntKind.i64 y6 :: AV.int IntKind.i64 y7 :: Env.sp 3 (AV.int IntKind.i64 y8 :: AV.ptr (some (y9, (8 : Nat))) :: AV.str y10 :: AV.int IntKind.i64 y11 :: AV.int IntKind.i64 y12 :: AV.ptr (some (y13, (9 : Nat))) :: AV.str y14 :: AV.int IntKind.i64 y15 :: AV.int IntKind.i64 y16 :: AV.ptr (some (y17, (10 : Nat))) :: AV.str y18 :: AV.int IntKind.i64 y19 :: AV.int IntKind.i64 y20 :: AV.ptr (some (y21, (11 : Nat))) :: AV.str y22 :: AV.int IntKind.i64 y23 :: AV.int IntKind.i64 y24 :: Env.sp 13 [])))))
def f5e11 (y0 : Nat) (y1 : Int) (y2 : Option (Nat × Nat)) (y3 : Nat) (y4 : Option Nat) (y5 : Int) (y6 : Int) (y7 : Int) (y8 : Bool) : Env := Env.sp 1 (AV.ptr (some (y0, (0 : Nat))) :: Env.sp 1 (AV.int IntKind.i64 y1 :: Env.sp 6 (AV.slice y2 y3 y4 (12 : Nat) :: AV.int IntKind.i64 y5 :: AV.int IntKind.i64 y6 :: Env.sp 20 (AV.int IntKind.i64 y7 :: AV.bool y8 :: Env.sp 11 []))))
def f5e12 (y0 : Nat) (y1 : Int) (y2 : Option (Nat × Nat)) (y3 : Nat) (y4 : Option Nat) (y5 : Int) (y6 : Int) (y7 : Bool) : Env := Env.sp 1 (AV.ptr (some (y0, (0 : Nat))) :: Env.sp 1 (AV.int IntKind.i64 y1 :: Env.sp 6 (AV.slice y2 y3 y4 (12 : Nat) :: AV.int IntKind.i64 y5 :: AV.int IntKind.i64 y6 :: Env.sp 21 (AV.bool y7 :: Env.sp 11 []))))
def f5e13 (y0 : Nat) (y1 : Bool) (y2 : Int) (y3 : Option (Nat × Nat)) (y4 : Nat) (y5 : Option Nat) (y6 : Int) (y7 : Int) (y8 : Bool) : Env := Env.sp 1 (AV.ptr (some (y0, (0 : Nat))) :: AV.bool y1 :: AV.int IntKind.i64 y2 :: Env.sp 6 (AV.slice y3 y4 y5 (12 : Nat) :: AV.int IntKind.i64 y6 :: AV.int IntKind.i64 y7 :: Env.sp 21 (AV.bool y8 :: Env.sp 11 [])))
def f5e14 (y0 : Bool) : Env := Env.sp 2 (AV.bool y0 :: Env.sp 43 [])
def f5e15 (y0 : Nat) (y1 : Int) (y2 : Option (Nat × Nat)) (y3 : Nat) (y4 : Option Nat) (y5 : Int) (y6 : Int) (y7 : Int) : Env := Env.sp 1 (AV.ptr (some (y0, (0 : Nat))) :: Env.sp 1 (AV.int IntKind.i64 y1 :: Env.sp 6 (AV.slice y2 y3 y4 (12 : Nat) :: AV.int IntKind.i64 y5 :: AV.int IntKind.i64 y6 :: Env.sp 22 (AV.int IntKind.i64 y7 :: Env.sp 10 []))))
def f5e16 (y0 : Nat) (y1 : Bool) (y2 : Nat) (y3 : Option (Nat × Nat)) (y4 : Nat) (y5 : Option Nat) (y6 : Int) (y7 : Bool) (y8 : Bool) (y9 : Bool) : Env := Env.sp 1 (AV.ptr (some (y0, (0 : Nat))) :: AV.bool y1 :: Env.sp 33 (AV.ptr (some (y2, (5 : Nat))) :: AV.slice y3 y4 y5 (12 : Nat) :: AV.int IntKind.i64 y6 :: AV.bool y7 :: AV.bool y8 :: AV.tuple [] :: AV.tuple [] :: AV.tuple [] :: AV.tuple [] :: AV.bool y9 :: []))
def f5e17 (y0 : Nat) (y1 : Bool) (y2 : Nat) (y3 : Option (Nat × Nat)) (y4 : Nat) (y5 : Option Nat) (y6 : Int) (y7 : Bool) (y8 : Bool) (y9 : Nat) (y10 : Option (Nat × Nat)) (y11 : Nat) (y12 : Option Nat) (y13 : Int) (y14 : Bool) (y15 : Bool) : Env := Env.sp 1 (AV.ptr (some (y0, (0 : Nat))) :: AV.bool y1 :: Env.sp 33 (AV.ptr (some (y2, (5 : Nat))) :: AV.slice y3 y4 y5 (12 : Nat) :: AV.int IntKind.i64 y6 :: AV.bool y7 :: AV.bool y8 :: AV.ptr (some (y9, (4 : Nat))) :: AV.slice y10 y11 y12 (1 : Nat) :: AV.int IntKind.i64 y13 :: AV.bool y14 :: AV.bool y15 :: []))

/- function 5 -/
theorem f5_eq {R : Type} (call : Bool → CallF R) (dem : Bool) (N : Nat) (y0 : Int) (y1 : Int) (y2 : Int) (y3 : ByteArray) (y4 : Option (Nat × Nat)) (y5 : Nat) (y6 : Option Nat) (y7 : Option (Nat × Nat)) (y8 : Nat) (y9 : Option Nat) (σ : St) (K : AV → St → Option R) :
    bodyK Tryz.prog call dem N ann 5 [AV.agg [AV.int IntKind.i64 y0, AV.int IntKind.i64 y1, AV.int IntKind.i64 y2, AV.str y3, AV.slice y4 y5 y6 (1 : Nat), AV.slice y7 y8 y9 (12 : Nat)]] σ K = runK Tryz.prog call dem N f5c0 f5a0 (bodyC Tryz.prog f5rs K) (f5e0 y0 y1 y2 y3 y4 y5 y6 y7 y8 y9) σ := bodyK_of (fn := ((Tryz.prog.funcs[5]?).get rfl)) (by kernel_rfl) (by kernel_rfl) (by kernel_rfl) (by kernel_rfl) (by kernel_rfl) (by kernel_rfl)
theorem f5n0 {R : Type} (call : Bool → CallF R) (dem : Bool) (N : Nat) (J : KF R) (e : Env) (σ : St) : runK Tryz.prog call dem N f5c0 f5a0 J e σ = runK Tryz.prog call dem N f5c1 f5a1 (seqC (fun K e σ => runK Tryz.prog call dem N f5c2 f5a2 K e σ) f5a0 J) e σ := runK_seq' (by kernel_rfl) (by kernel_rfl) (by kernel_rfl)
theorem f5r1_f5e0 {R : Type} (call : Bool → CallF R) (dem : Bool) (N : Nat) (y0 : Int) (y1 : Int) (y2 : Int) (y3 : ByteArray) (y4 : Option (Nat × Nat)) (y5 : Nat) (y6 : Option Nat) (y7 : Option (Nat × Nat)) (y8 : Nat) (y9 : Option Nat) (J : KF R) (σ : St) :
    runK Tryz.prog call dem N f5c1 f5a1 J (f5e0 y0 y1 y2 y3 y4 y5 y6 y7 y8 y9) σ =
J Ex.normal (f5e1 y0 y1 y2 y3 y4 y5 y6 y7 y8 y9 (St.next σ) false)
  (St.new σ
    (Blk.cells
      [AV.int IntKind.i64 y0, AV.int IntKind.i64 y1, AV.int IntKind.i64 y2, AV.str y3, AV.slice y4 y5 y6 (1 : Nat), AV.slice y7 y8 y9 (12 : Nat)]
      true)) := hide (by kernel_rfl)
theorem f5z0_f5e1 (y0 : Int) (y1 : Int) (y2 : Int) (y3 : ByteArray) (y4 : Option (Nat × Nat)) (y5 : Nat) (y6 : Option Nat) (y7 : Option (Nat × Nat)) (y8 : Nat) (y9 : Option Nat) (y10 : Nat) (y11 : Bool) : Ann.clr f5a0 (f5e1 y0 y1 y2 y3 y4 y5 y6 y7 y8 y9 y10 y11) = f5e2 y10 := hide (by kernel_rfl)
theorem f5n2 {R : Type} (call : Bool → CallF R) (dem : Bool) (N : Nat) (J : KF R) (e : Env) (σ : St) : runK Tryz.prog call dem N f5c2 f5a2 J e σ = runK Tryz.prog call dem N f5c3 f5a3 (seqC (fun K e σ => runK Tryz.prog call dem N f5c4 f5a4 K e σ) f5a2 J) e σ := runK_seq' (by kernel_rfl) (by kernel_rfl) (by kernel_rfl)
theorem f5r3_f5e2 {R : Type} (call : Bool → CallF R) (dem : Bool) (N : Nat) (y0 : Nat) (J : KF R) (σ : St) :
    runK Tryz.prog call dem N f5c3 f5a3 J (f5e2 y0) σ =
Option.bind (St.ld σ y0 (3 : Nat)) fun v0 =>
  Option.bind (AV.toStr v0) fun v1 => J Ex.normal (f5e3 y0 (↑(ByteArray.size v1) : Int) y0 v1 (↑(ByteArray.size v1) : Int)) σ := hide (by kernel_rfl)
theorem f5z2_f5e3 (y0 : Nat) (y1 : Int) (y2 : Nat) (y3 : ByteArray) (y4 : Int) : Ann.clr f5a2 (f5e3 y0 y1 y2 y3 y4) = f5e4 y0 y1 := hide (by kernel_rfl)
theorem f5n4 {R : Type} (call : Bool → CallF R) (dem : Bool) (N : Nat) (J : KF R) (e : Env) (σ : St) : runK Tryz.prog call dem N f5c4 f5a4 J e σ = runK Tryz.prog call dem N f5c5 f5a5 (seqC (fun K e σ => runK Tryz.prog call dem N f5c6 f5a6 K e σ) f5a4 J) e σ := runK_seq' (by kernel_rfl) (by kernel_rfl) (by kernel_rfl)
theorem f5n5 {R : Type} (call : Bool → CallF R) (dem : Bool) (N : Nat) (J : KF R) (e : Env) (σ : St) : runK Tryz.prog call dem N f5c5 f5a5 J e σ = runK Tryz.prog call dem N f5c7 f5a7 (seqC (fun K e σ => runK Tryz.prog call dem N f5c8 f5a8 K e σ) f5a5 J) e σ := runK_seq' (by kernel_rfl) (by kernel_rfl) (by kernel_rfl)
theorem f5r7_f5e4 {R : Type} (call : Bool → CallF R) (dem : Bool) (N : Nat) (y0 : Nat) (y1 : Int) (J : KF R) (σ : St) :
    runK Tryz.prog call dem N f5c7 f5a7 J (f5e4 y0 y1) σ =
Option.bind (St.ld σ y0 (5 : Nat)) fun v0 =>
  Option.bind (AV.toSl (12 : Nat) v0) fun v1 => J Ex.normal (f5e5 y0 y1 y0 (Sl.o v1) (Sl.len v1) (Sl.cap v1) (↑(Sl.len v1) : Int) (0 : Int)) σ := hide (by kernel_rfl)
theorem f5z5_f5e5 (y0 : Nat) (y1 : Int) (y2 : Nat) (y3 : Option (Nat × Nat)) (y4 : Nat) (y5 : Option Nat) (y6 : Int) (y7 : Int) : Ann.clr f5a5 (f5e5 y0 y1 y2 y3 y4 y5 y6 y7) = f5e6 y0 y1 y3 y4 y5 y6 y7 := hide (by kernel_rfl)
theorem f5n8 {R : Type} (call : Bool → CallF R) (dem : Bool) (N : Nat) (J : KF R) (e : Env) (σ : St) : runK Tryz.prog call dem N f5c8 f5a8 J e σ = runK Tryz.prog call dem N f5c9 f5a9 (blockC 0 f5a8 J) e σ := runK_block' (by kernel_rfl) (by kernel_rfl)
theorem f5L9_eq {R : Type} (call : Bool → CallF R) (dem : Bool) (N : Nat) (J : KF R) (e : Env) (σ : St) : f5L9 call dem N J e σ = runK Tryz.prog call dem N f5c10 f5a10 J e σ := hide rfl
theorem f5z9_f5e6 (y0 : Nat) (y1 : Int) (y2 : Option (Nat × Nat)) (y3 : Nat) (y4 : Option Nat) (y5 : Int) (y6 : Int) : Ann.clr f5a9 (f5e6 y0 y1 y2 y3 y4 y5 y6) = f5e6 y0 y1 y2 y3 y4 y5 y6 := hide (by kernel_rfl)
theorem f5l9_f5e6 {R : Type} (call : Bool → CallF R) (dem : Bool) (N : Nat) (y0 : Nat) (y1 : Int) (y2 : Option (Nat × Nat)) (y3 : Nat) (y4 : Option Nat) (y5 : Int) (y6 : Int) (J : KF R) (σ : St) : runK Tryz.prog call dem N f5c9 f5a9 J (f5e6 y0 y1 y2 y3 y4 y5 y6) σ = loopK (f5L9 call dem N) f5a9 N J (f5e6 y0 y1 y2 y3 y4 y5 y6) σ := runK_loop' (by kernel_rfl) (by kernel_rfl) (by kernel_rfl)
theorem f5n10 {R : Type} (call : Bool → CallF R) (dem : Bool) (N : Nat) (J : KF R) (e : Env) (σ : St) : runK Tryz.prog call dem N f5c10 f5a10 J e σ = runK Tryz.prog call dem N f5c11 f5a11 (seqC (fun K e σ => runK Tryz.prog call dem N f5c12 f5a12 K e σ) f5a10 J) e σ := runK_seq' (by kernel_rfl) (by kernel_rfl) (by kernel_rfl)
theorem f5r11_f5e6 {R : Type} (call : Bool → CallF R) (dem : Bool) (N : Nat) (y0 : Nat) (y1 : Int) (y2 : Option (Nat × Nat)) (y3 : Nat) (y4 : Option Nat) (y5 : Int) (y6 : Int) (J : KF R) (σ : St) :
    runK Tryz.prog call dem N f5c11 f5a11 J (f5e6 y0 y1 y2 y3 y4 y5 y6) σ =
J Ex.normal (f5e7 y0 y1 y2 y3 y4 y5 y6 (decide (y6 < y5))) σ := hide (by kernel_rfl)
theorem f5z10_f5e7 (y0 : Nat) (y1 : Int) (y2 : Option (Nat × Nat)) (y3 : Nat) (y4 : Option Nat) (y5 : Int) (y6 : Int) (y7 : Bool) : Ann.clr f5a10 (f5e7 y0 y1 y2 y3 y4 y5 y6 y7) = f5e7 y0 y1 y2 y3 y4 y5 y6 y7 := hide (by kernel_rfl)
theorem f5n12 {R : Type} (call : Bool → CallF R) (dem : Bool) (N : Nat) (J : KF R) (e : Env) (σ : St) : runK Tryz.prog call dem N f5c12 f5a12 J e σ = runK Tryz.prog call dem N f5c13 f5a13 (seqC (fun K e σ => runK Tryz.prog call dem N f5c14 f5a14 K e σ) f5a12 J) e σ := runK_seq' (by kernel_rfl) (by kernel_rfl) (by kernel_rfl)
theorem f5x13_f5e7 {R : Type} (call : Bool → CallF R) (dem : Bool) (N : Nat) (y0 : Nat) (y1 : Int) (y2 : Option (Nat × Nat)) (y3 : Nat) (y4 : Option Nat) (y5 : Int) (y6 : Int) (y7 : Bool) (J : KF R) (σ : St) : runK Tryz.prog call dem N f5c13 f5a13 J (f5e7 y0 y1 y2 y3 y4 y5 y6 y7) σ = if y7 = true then runK Tryz.prog call dem N f5c15 f5a15 (condC f5a13 J) (f5e7 y0 y1 y2 y3 y4 y5 y6 y7) σ else runK Tryz.prog call dem N f5c16 f5a16 (condC f5a13 J) (f5e7 y0 y1 y2 y3 y4 y5 y6 y7) σ := runK_cond' (o := Operand.tmp (13 : Nat)) (by kernel_rfl) (by kernel_rfl) (by kernel_rfl) (by kernel_rfl)
theorem f5n15 {R : Type} (call : Bool → CallF R) (dem : Bool) (N : Nat) (J : KF R) (e : Env) (σ : St) : runK Tryz.prog call dem N f5c15 f5a15 J e σ = J .normal e σ := runK_skip' (by kernel_rfl)
theorem f5z13_f5e7 (y0 : Nat) (y1 : Int) (y2 : Option (Nat × Nat)) (y3 : Nat) (y4 : Option Nat) (y5 : Int) (y6 : Int) (y7 : Bool) : Ann.clr f5a13 (f5e7 y0 y1 y2 y3 y4 y5 y6 y7) = f5e6 y0 y1 y2 y3 y4 y5 y6 := hide (by kernel_rfl)
theorem f5y16_f5e7 {R : Type} (call : Bool → CallF R) (dem : Bool) (N : Nat) (y0 : Nat) (y1 : Int) (y2 : Option (Nat × Nat)) (y3 : Nat) (y4 : Option Nat) (y5 : Int) (y6 : Int) (y7 : Bool) (J : KF R) (σ : St) : runK Tryz.prog call dem N f5c16 f5a16 J (f5e7 y0 y1 y2 y3 y4 y5 y6 y7) σ = J (.exit 0) (f5e2 y0) σ := runK_exit' (by kernel_rfl) (by kernel_rfl)
theorem f5z12_f5e6 (y0 : Nat) (y1 : Int) (y2 : Option (Nat × Nat)) (y3 : Nat) (y4 : Option Nat) (y5 : Int) (y6 : Int) : Ann.clr f5a12 (f5e6 y0 y1 y2 y3 y4 y5 y6) = f5e6 y0 y1 y2 y3 y4 y5 y6 := hide (by kernel_rfl)
theorem f5n14 {R : Type} (call : Bool → CallF R) (dem : Bool) (N : Nat) (J : KF R) (e : Env) (σ : St) : runK Tryz.prog call dem N f5c14 f5a14 J e σ = runK Tryz.prog call dem N f5c17 f5a17 (seqC (fun K e σ => runK Tryz.prog call dem N f5c18 f5a18 K e σ) f5a14 J) e σ := runK_seq' (by kernel_rfl) (by kernel_rfl) (by kernel_rfl)
theorem f5n17 {R : Type} (call : Bool → CallF R) (dem : Bool) (N : Nat) (J : KF R) (e : Env) (σ : St) : runK Tryz.prog call dem N f5c17 f5a17 J e σ = runK Tryz.prog call dem N f5c19 f5a19 (blockC 1 f5a17 J) e σ := runK_block' (by kernel_rfl) (by kernel_rfl)
theorem f5n19 {R : Type} (call : Bool → CallF R) (dem : Bool) (N : Nat) (J : KF R) (e : Env) (σ : St) : runK Tryz.prog call dem N f5c19 f5a19 J e σ = runK Tryz.prog call dem N f5c20 f5a20 (seqC (fun K e σ => runK Tryz.prog call dem N f5c21 f5a21 K e σ) f5a19 J) e σ := runK_seq' (by kernel_rfl) (by kernel_rfl) (by kernel_rfl)
theorem f5r20_f5e6 {R : Type} (call : Bool → CallF R) (dem : Bool) (N : Nat) (y0 : Nat) (y1 : Int) (y2 : Option (Nat × Nat)) (y3 : Nat) (y4 : Option Nat) (y5 : Int) (y6 : Int) (J : KF R) (σ : St) :
    runK Tryz.prog call dem N f5c20 f5a20 J (f5e6 y0 y1 y2 y3 y4 y5 y6) σ =
if (0 : Int) ≤ y6 ∧ y6 < (↑y3 : Int) then
  Option.bind y2 fun v0 =>
    Option.bind (St.ld σ (Prod.fst v0) (Prod.snd v0 + Int.toNat y6 * (12 : Nat))) fun v1 =>
      Option.bind (AV.toInt IntKind.i64 v1) fun v2 =>
        Option.bind (St.ld σ (Prod.fst v0) (Prod.snd v0 + Int.toNat y6 * (12 : Nat) + (1 : Nat))) fun v3 =>
          Option.bind (AV.toInt IntKind.i64 v3) fun v4 =>
            Option.bind (St.ld σ (Prod.fst v0) (Prod.snd v0 + Int.toNat y6 * (12 : Nat) + (2 : Nat))) fun v5 =>
              Option.bind (AV.toInt IntKind.i64 v5) fun v6 =>
                Option.bind (St.ld σ (Prod.fst v0) (Prod.snd v0 + Int.toNat y6 * (12 : Nat) + (3 : Nat))) fun v7 =>
                  Option.bind (AV.toInt IntKind.i64 v7) fun v8 =>
                    Option.bind (St.ld σ (Prod.fst v0) (Prod.snd v0 + Int.toNat y6 * (12 : Nat) + (4 : Nat))) fun v9 =>
                      Option.bind (AV.toInt IntKind.i64 v9) fun v10 =>
                        Option.bind (St.ld σ (Prod.fst v0) (Prod.snd v0 + Int.toNat y6 * (12 : Nat) + (5 : Nat))) fun v11 =>
                          Option.bind (AV.toInt IntKind.i64 v11) fun v12 =>
                            Option.bind (St.ld σ (Prod.fst v0) (Prod.snd v0 + Int.toNat y6 * (12 : Nat) + (6 : Nat))) fun v13 =>
                              Option.bind (AV.toInt IntKind.i64 v13) fun v14 =>
                                Option.bind (St.ld σ (Prod.fst v0) (Prod.snd v0 + Int.toNat y6 * (12 : Nat) + (7 : Nat))) fun v15 =>
                                  Option.bind (AV.toInt IntKind.i64 v15) fun v16 =>
                                    Option.bind (St.ld σ (Prod.fst v0) (Prod.snd v0 + Int.toNat y6 * (12 : Nat) + (8 : Nat))) fun v17 =>
                                      Option.bind (AV.toStr v17) fun v18 =>
                                        Option.bind (St.ld σ (Prod.fst v0) (Prod.snd v0 + Int.toNat y6 * (12 : Nat) + (9 : Nat))) fun v19 =>
                                          Option.bind (AV.toStr v19) fun v20 =>
                                            Option.bind (St.ld σ (Prod.fst v0) (Prod.snd v0 + Int.toNat y6 * (12 : Nat) + (10 : Nat))) fun v21 =>
                                              Option.bind (AV.toStr v21) fun v22 =>
                                                Option.bind (St.ld σ (Prod.fst v0) (Prod.snd v0 + Int.toNat y6 * (12 : Nat) + (11 : Nat))) fun v23 =>
                                                  Option.bind (AV.toStr v23) fun v24 =>
                                                    Option.bind
                                                      (St.st
                                                        (St.new σ
                                                          (Blk.cells
                                                            [AV.int IntKind.i64 (0 : Int), AV.int IntKind.i64 (0 : Int), AV.int IntKind.i64 (0 : Int),
                                                              AV.int IntKind.i64 (0 : Int), AV.int IntKind.i64 (0 : Int),
                                                              AV.int IntKind.i64 (0 : Int), AV.int IntKind.i64 (0 : Int),
                                                              AV.int IntKind.i64 (0 : Int), AV.str (ByteArray.mk #[]), AV.str (ByteArray.mk #[]),
                                                              AV.str (ByteArray.mk #[]), AV.str (ByteArray.mk #[])]
                                                            true))
                                                        (St.next σ) (0 : Nat)
                                                        [AV.int IntKind.i64 v2, AV.int IntKind.i64 v4, AV.int IntKind.i64 v6, AV.int IntKind.i64 v8,
                                                          AV.int IntKind.i64 v10, AV.int IntKind.i64 v12, AV.int IntKind.i64 v14,
                                                          AV.int IntKind.i64 v16, AV.str v18, AV.str v20, AV.str v22, AV.str v24])
                                                      fun v25 =>
                                                      J Ex.normal
                                                        (f5e8 y0 y1 (St.next σ) y2 y3 y4 y5 y6
                                                          (some (Prod.fst v0, Prod.snd v0 + Int.toNat y6 * (12 : Nat))) v2 v4 v6 v8 v10 v12 v14 v16
                                                          v18 v20 v22 v24)
                                                        v25
else none := hide (by kernel_rfl)
theorem f5z19_f5e8 (y0 : Nat) (y1 : Int) (y2 : Nat) (y3 : Option (Nat × Nat)) (y4 : Nat) (y5 : Option Nat) (y6 : Int) (y7 : Int) (y8 : Option (Nat × Nat)) (y9 : Int) (y10 : Int) (y11 : Int) (y12 : Int) (y13 : Int) (y14 : Int) (y15 : Int) (y16 : Int) (y17 : ByteArray) (y18 : ByteArray) (y19 : ByteArray) (y20 : ByteArray) : Ann.clr f5a19 (f5e8 y0 y1 y2 y3 y4 y5 y6 y7 y8 y9 y10 y11 y12 y13 y14 y15 y16 y17 y18 y19 y20) = f5e9 y0 y1 y2 y3 y4 y5 y6 y7 := hide (by kernel_rfl)
theorem f5n21 {R : Type} (call : Bool → CallF R) (dem : Bool) (N : Nat) (J : KF R) (e : Env) (σ : St) : runK Tryz.prog call dem N f5c21 f5a21 J e σ = runK Tryz.prog call dem N f5c22 f5a22 (seqC (fun K e σ => runK Tryz.prog call dem N f5c23 f5a23 K e σ) f5a21 J) e σ := runK_seq' (by kernel_rfl) (by kernel_rfl) (by kernel_rfl)
theorem f5r22_f5e9 {R : Type} (call : Bool → CallF R) (dem : Bool) (N : Nat) (y0 : Nat) (y1 : Int) (y2 : Nat) (y3 : Option (Nat × Nat)) (y4 : Nat) (y5 : Option Nat) (y6 : Int) (y7 : Int) (J : KF R) (σ : St) :
    runK Tryz.prog call dem N f5c22 f5a22 J (f5e9 y0 y1 y2 y3 y4 y5 y6 y7) σ =
Option.bind (St.ld σ y2 (8 : Nat)) fun v0 =>
  Option.bind (AV.toStr v0) fun v1 =>
    Option.bind (St.ld σ y2 (9 : Nat)) fun v2 =>
      Option.bind (AV.toStr v2) fun v3 =>
        Option.bind (St.ld σ y2 (10 : Nat)) fun v4 =>
          Option.bind (AV.toStr v4) fun v5 =>
            Option.bind (St.ld σ y2 (11 : Nat)) fun v6 =>
              Option.bind (AV.toStr v6) fun v7 =>
                J Ex.normal
                  (f5e10 y0
                    (IntKind.wrap IntKind.i64
                      (IntKind.wrap IntKind.i64
                          (IntKind.wrap IntKind.i64 (IntKind.wrap IntKind.i64 (y1 + (↑(ByteArray.size v1) : Int)) + (↑(ByteArray.size v3) : Int)) +
                            (↑(ByteArray.size v5) : Int)) +
                        (↑(ByteArray.size v7) : Int)))
                    y2 y3 y4 y5 y6 y7 y1 y2 v1 (↑(ByteArray.size v1) : Int) (IntKind.wrap IntKind.i64 (y1 + (↑(ByteArray.size v1) : Int))) y2 v3
                    (↑(ByteArray.size v3) : Int)
                    (IntKind.wrap IntKind.i64 (IntKind.wrap IntKind.i64 (y1 + (↑(ByteArray.size v1) : Int)) + (↑(ByteArray.size v3) : Int))) y2 v5
                    (↑(ByteArray.size v5) : Int)
                    (IntKind.wrap IntKind.i64
                      (IntKind.wrap IntKind.i64 (IntKind.wrap IntKind.i64 (y1 + (↑(ByteArray.size v1) : Int)) + (↑(ByteArray.size v3) : Int)) +
                        (↑(ByteArray.size v5) : Int)))
                    y2 v7 (↑(ByteArray.size v7) : Int)
                    (IntKind.wrap IntKind.i64
                      (IntKind.wrap IntKind.i64
                          (IntKind.wrap IntKind.i64 (IntKind.wrap IntKind.i64 (y1 + (↑(ByteArray.size v1) : Int)) + (↑(ByteArray.size v3) : Int)) +
                            (↑(ByteArray.size v5) : Int)) +
                        (↑(ByteArray.size v7) : Int))))
                  σ := hide (by kernel_rfl)
theorem f5z21_f5e10 (y0 : Nat) (y1 : Int) (y2 : Nat) (y3 : Option (Nat × Nat)) (y4 : Nat) (y5 : Option Nat) (y6 : Int) (y7 : Int) (y8 : Int) (y9 : Nat) (y10 : ByteArray) (y11 : Int) (y12 : Int) (y13 : Nat) (y14 : ByteArray) (y15 : Int) (y16 : Int) (y17 : Nat) (y18 : ByteArray) (y19 : Int) (y20 : Int) (y21 : Nat) (y22 : ByteArray) (y23 : Int) (y24 : Int) : Ann.clr f5a21 (f5e10 y0 y1 y2 y3 y4 y5 y6 y7 y8 y9 y10 y11 y12 y13 y14 y15 y16 y17 y18 y19 y20 y21 y22 y23 y24) = f5e6 y0 y1 y3 y4 y5 y6 y7 := hide (by kernel_rfl)
theorem f5n23 {R : Type} (call : Bool → CallF R) (dem : Bool) (N : Nat) (J : KF R) (e : Env) (σ : St) : runK Tryz.prog call dem N f5c23 f5a23 J e σ = runK Tryz.prog call dem N f5c24 f5a24 (seqC (fun K e σ => runK Tryz.prog call dem N f5c25 f5a25 K e σ) f5a23 J) e σ := runK_seq' (by kernel_rfl) (by kernel_rfl) (by kernel_rfl)
theorem f5r24_f5e6 {R : Type} (call : Bool → CallF R) (dem : Bool) (N : Nat) (y0 : Nat) (y1 : Int) (y2 : Option (Nat × Nat)) (y3 : Nat) (y4 : Option Nat) (y5 : Int) (y6 : Int) (J : KF R) (σ : St) :
    runK Tryz.prog call dem N f5c24 f5a24 J (f5e6 y0 y1 y2 y3 y4 y5 y6) σ =
J Ex.normal (f5e11 y0 y1 y2 y3 y4 y5 y6 y1 (decide (y1 > (20000 : Int)))) σ := hide (by kernel_rfl)
theorem f5z23_f5e11 (y0 : Nat) (y1 : Int) (y2 : Option (Nat × Nat)) (y3 : Nat) (y4 : Option Nat) (y5 : Int) (y6 : Int) (y7 : Int) (y8 : Bool) : Ann.clr f5a23 (f5e11 y0 y1 y2 y3 y4 y5 y6 y7 y8) = f5e12 y0 y1 y2 y3 y4 y5 y6 y8 := hide (by kernel_rfl)
theorem f5x25_f5e12 {R : Type} (call : Bool → CallF R) (dem : Bool) (N : Nat) (y0 : Nat) (y1 : Int) (y2 : Option (Nat × Nat)) (y3 : Nat) (y4 : Option Nat) (y5 : Int) (y6 : Int) (y7 : Bool) (J : KF R) (σ : St) : runK Tryz.prog call dem N f5c25 f5a25 J (f5e12 y0 y1 y2 y3 y4 y5 y6 y7) σ = if y7 = true then runK Tryz.prog call dem N f5c26 f5a26 (condC f5a25 J) (f5e12 y0 y1 y2 y3 y4 y5 y6 y7) σ else runK Tryz.prog call dem N f5c27 f5a27 (condC f5a25 J) (f5e12 y0 y1 y2 y3 y4 y5 y6 y7) σ := runK_cond' (o := Operand.tmp (34 : Nat)) (by kernel_rfl) (by kernel_rfl) (by kernel_rfl) (by kernel_rfl)
theorem f5n26 {R : Type} (call : Bool → CallF R) (dem : Bool) (N : Nat) (J : KF R) (e : Env) (σ : St) : runK Tryz.prog call dem N f5c26 f5a26 J e σ = runK Tryz.prog call dem N f5c28 f5a28 (seqC (fun K e σ => runK Tryz.prog call dem N f5c29 f5a29 K e σ) f5a26 J) e σ := runK_seq' (by kernel_rfl) (by kernel_rfl) (by kernel_rfl)
theorem f5r28_f5e12 {R : Type} (call : Bool → CallF R) (dem : Bool) (N : Nat) (y0 : Nat) (y1 : Int) (y2 : Option (Nat × Nat)) (y3 : Nat) (y4 : Option Nat) (y5 : Int) (y6 : Int) (y7 : Bool) (J : KF R) (σ : St) :
    runK Tryz.prog call dem N f5c28 f5a28 J (f5e12 y0 y1 y2 y3 y4 y5 y6 y7) σ =
J Ex.normal (f5e13 y0 true y1 y2 y3 y4 y5 y6 y7) σ := hide (by kernel_rfl)
theorem f5z26_f5e13 (y0 : Nat) (y1 : Bool) (y2 : Int) (y3 : Option (Nat × Nat)) (y4 : Nat) (y5 : Option Nat) (y6 : Int) (y7 : Int) (y8 : Bool) : Ann.clr f5a26 (f5e13 y0 y1 y2 y3 y4 y5 y6 y7 y8) = f5e14 y1 := hide (by kernel_rfl)
theorem f5y29_f5e14 {R : Type} (call : Bool → CallF R) (dem : Bool) (N : Nat) (y0 : Bool) (J : KF R) (σ : St) : runK Tryz.prog call dem N f5c29 f5a29 J (f5e14 y0) σ = J .ret (f5e14 y0) σ := runK_ret' (by kernel_rfl) (by kernel_rfl)
theorem f5n27 {R : Type} (call : Bool → CallF R) (dem : Bool) (N : Nat) (J : KF R) (e : Env) (σ : St) : runK Tryz.prog call dem N f5c27 f5a27 J e σ = J .normal e σ := runK_skip' (by kernel_rfl)
theorem f5z25_f5e12 (y0 : Nat) (y1 : Int) (y2 : Option (Nat × Nat)) (y3 : Nat) (y4 : Option Nat) (y5 : Int) (y6 : Int) (y7 : Bool) : Ann.clr f5a25 (f5e12 y0 y1 y2 y3 y4 y5 y6 y7) = f5e6 y0 y1 y2 y3 y4 y5 y6 := hide (by kernel_rfl)
theorem f5z17_f5e6 (y0 : Nat) (y1 : Int) (y2 : Option (Nat × Nat)) (y3 : Nat) (y4 : Option Nat) (y5 : Int) (y6 : Int) : Ann.clr f5a17 (f5e6 y0 y1 y2 y3 y4 y5 y6) = f5e6 y0 y1 y2 y3 y4 y5 y6 := hide (by kernel_rfl)
theorem f5z14_f5e6 (y0 : Nat) (y1 : Int) (y2 : Option (Nat × Nat)) (y3 : Nat) (y4 : Option Nat) (y5 : Int) (y6 : Int) : Ann.clr f5a14 (f5e6 y0 y1 y2 y3 y4 y5 y6) = f5e6 y0 y1 y2 y3 y4 y5 y6 := hide (by kernel_rfl)
theorem f5r18_f5e6 {R : Type} (call : Bool → CallF R) (dem : Bool) (N : Nat) (y0 : Nat) (y1 : Int) (y2 : Option (Nat × Nat)) (y3 : Nat) (y4 : Option Nat) (y5 : Int) (y6 : Int) (J : KF R) (σ : St) :
    runK Tryz.prog call dem N f5c18 f5a18 J (f5e6 y0 y1 y2 y3 y4 y5 y6) σ =
J Ex.normal (f5e15 y0 y1 y2 y3 y4 y5 (IntKind.wrap IntKind.i64 (y6 + (1 : Int))) (IntKind.wrap IntKind.i64 (y6 + (1 : Int)))) σ := hide (by kernel_rfl)
theorem f5z9_f5e15 (y0 : Nat) (y1 : Int) (y2 : Option (Nat × Nat)) (y3 : Nat) (y4 : Option Nat) (y5 : Int) (y6 : Int) (y7 : Int) : Ann.clr f5a9 (f5e15 y0 y1 y2 y3 y4 y5 y6 y7) = f5e6 y0 y1 y2 y3 y4 y5 y6 := hide (by kernel_rfl)
theorem f5z8_f5e2 (y0 : Nat) : Ann.clr f5a8 (f5e2 y0) = f5e2 y0 := hide (by kernel_rfl)
theorem f5z4_f5e2 (y0 : Nat) : Ann.clr f5a4 (f5e2 y0) = f5e2 y0 := hide (by kernel_rfl)
theorem f5n6 {R : Type} (call : Bool → CallF R) (dem : Bool) (N : Nat) (J : KF R) (e : Env) (σ : St) : runK Tryz.prog call dem N f5c6 f5a6 J e σ = runK Tryz.prog call dem N f5c30 f5a30 (seqC (fun K e σ => runK Tryz.prog call dem N f5c31 f5a31 K e σ) f5a6 J) e σ := runK_seq' (by kernel_rfl) (by kernel_rfl) (by kernel_rfl)
theorem f5r30_f5e2 {R : Type} (call : Bool → CallF R) (dem : Bool) (N : Nat) (y0 : Nat) (J : KF R) (σ : St) :
    runK Tryz.prog call dem N f5c30 f5a30 J (f5e2 y0) σ =
Option.bind (St.ld σ y0 (5 : Nat)) fun v0 =>
  Option.bind (AV.toSl (12 : Nat) v0) fun v1 =>
    if decide ((↑(Sl.len v1) : Int) > (400 : Int)) = true then
      J Ex.normal (f5e16 y0 true y0 (Sl.o v1) (Sl.len v1) (Sl.cap v1) (↑(Sl.len v1) : Int) (decide ((↑(Sl.len v1) : Int) > (400 : Int))) true true) σ
    else
      Option.bind (St.ld σ y0 (4 : Nat)) fun v2 =>
        Option.bind (AV.toSl (1 : Nat) v2) fun v3 =>
          J Ex.normal
            (f5e17 y0 (decide ((↑(Sl.len v3) : Int) > (100 : Int))) y0 (Sl.o v1) (Sl.len v1) (Sl.cap v1) (↑(Sl.len v1) : Int)
              (decide ((↑(Sl.len v1) : Int) > (400 : Int))) false y0 (Sl.o v3) (Sl.len v3) (Sl.cap v3) (↑(Sl.len v3) : Int)
              (decide ((↑(Sl.len v3) : Int) > (100 : Int))) (decide ((↑(Sl.len v3) : Int) > (100 : Int))))
            σ := hide (by kernel_rfl)
theorem f5z6_f5e16 (y0 : Nat) (y1 : Bool) (y2 : Nat) (y3 : Option (Nat × Nat)) (y4 : Nat) (y5 : Option Nat) (y6 : Int) (y7 : Bool) (y8 : Bool) (y9 : Bool) : Ann.clr f5a6 (f5e16 y0 y1 y2 y3 y4 y5 y6 y7 y8 y9) = f5e14 y1 := hide (by kernel_rfl)
theorem f5y31_f5e14 {R : Type} (call : Bool → CallF R) (dem : Bool) (N : Nat) (y0 : Bool) (J : KF R) (σ : St) : runK Tryz.prog call dem N f5c31 f5a31 J (f5e14 y0) σ = J .ret (f5e14 y0) σ := runK_ret' (by kernel_rfl) (by kernel_rfl)
theorem f5z6_f5e17 (y0 : Nat) (y1 : Bool) (y2 : Nat) (y3 : Option (Nat × Nat)) (y4 : Nat) (y5 : Option Nat) (y6 : Int) (y7 : Bool) (y8 : Bool) (y9 : Nat) (y10 : Option (Nat × Nat)) (y11 : Nat) (y12 : Option Nat) (y13 : Int) (y14 : Bool) (y15 : Bool) : Ann.clr f5a6 (f5e17 y0 y1 y2 y3 y4 y5 y6 y7 y8 y9 y10 y11 y12 y13 y14 y15) = f5e14 y1 := hide (by kernel_rfl)
theorem f5b_f5e14_r {R : Type} (y0 : Bool) (σ : St) (K : AV → St → Option R) : bodyC Tryz.prog f5rs K (Ex.ret) (f5e14 y0) σ =
K (AV.bool y0) σ := hide (by kernel_rfl)
attribute [go_sem] f5_eq f5n0 f5r1_f5e0 f5z0_f5e1 f5n2 f5r3_f5e2 f5z2_f5e3 f5n4 f5n5 f5r7_f5e4 f5z5_f5e5 f5n8 f5L9_eq f5z9_f5e6 f5l9_f5e6 f5n10 f5r11_f5e6 f5z10_f5e7 f5n12 f5x13_f5e7 f5n15 f5z13_f5e7 f5y16_f5e7 f5z12_f5e6 f5n14 f5n17 f5n19 f5r20_f5e6 f5z19_f5e8 f5n21 f5r22_f5e9 f5z21_f5e10 f5n23 f5r24_f5e6 f5z23_f5e11 f5x25_f5e12 f5n26 f5r28_f5e12 f5z26_f5e13 f5y29_f5e14 f5n27 f5z25_f5e12 f5z17_f5e6 f5z14_f5e6 f5r18_f5e6 f5z9_f5e15 f5z8_f5e2 f5z4_f5e2 f5n6 f5r30_f5e2 f5z6_f5e16 f5y31_f5e14 f5z6_f5e17 f5b_f5e14_r

noncomputable def f9rs : List ResultVar := [ResultVar.tmp (4 : Nat)]
noncomputable def f9c0 : Code := subCode [] (bodyOf Tryz.prog 9)
def f9a0 : Ann := subAnn [] ann9
noncomputable def f9c1 : Code := subCode [0] (bodyOf Tryz.prog 9)
def f9a1 : Ann := subAnn [0] ann9
noncomputable def f9c2 : Code := subCode [1] (bodyOf Tryz.prog 9)
def f9a2 : Ann := subAnn [1] ann9
noncomputable def f9c3 : Code := subCode [1, 0] (bodyOf Tryz.prog 9)
def f9a3 : Ann := subAnn [1, 0] ann9
noncomputable def f9c4 : Code := subCode [1, 1] (bodyOf Tryz.prog 9)
def f9a4 : Ann := subAnn [1, 1] ann9
noncomputable def f9c5 : Code := subCode [1, 0, 0] (bodyOf Tryz.prog 9)
def f9a5 : Ann := subAnn [1, 0, 0] ann9
noncomputable def f9c6 : Code := subCode [1, 0, 1] (bodyOf Tryz.prog 9)
def f9a6 : Ann := subAnn [1, 0, 1] ann9
noncomputable def f9c7 : Code := subCode [1, 0, 1, 0] (bodyOf Tryz.prog 9)
def f9a7 : Ann := subAnn [1, 0, 1, 0] ann9
noncomputable def f9c8 : Code := subCode [1, 0, 1, 1] (bodyOf Tryz.prog 9)
def f9a8 : Ann := subAnn [1, 0, 1, 1] ann9
noncomputable def f9c9 : Code := subCode [1, 0, 1, 0, 0] (bodyOf Tryz.prog 9)
def f9a9 : Ann := subAnn [1, 0, 1, 0, 0] ann9
noncomputable def f9c10 : Code := subCode [1, 0, 1, 0, 1] (bodyOf Tryz.prog 9)
def f9a10 : Ann := subAnn [1, 0, 1, 0, 1] ann9
noncomputable def f9c11 : Code := subCode [1, 1, 0] (bodyOf Tryz.prog 9)
def f9a11 : Ann := subAnn [1, 1, 0] ann9
noncomputable def f9c12 : Code := subCode [1, 1, 1] (bodyOf Tryz.prog 9)
def f9a12 : Ann := subAnn [1, 1, 1] ann9
noncomputable def f9c13 : Code := subCode [1, 1, 0, 0] (bodyOf Tryz.prog 9)
def f9a13 : Ann := subAnn [1, 1, 0, 0] ann9
noncomputable def f9c14 : Code := subCode [1, 1, 0, 1] (bodyOf Tryz.prog 9)
def f9a14 : Ann := subAnn [1, 1, 0, 1] ann9
noncomputable def f9c15 : Code := subCode [1, 1, 0, 1, 0] (bodyOf Tryz.prog 9)
def f9a15 : Ann := subAnn [1, 1, 0, 1, 0] ann9
noncomputable def f9c16 : Code := subCode [1, 1, 0, 1, 0, 0] (bodyOf Tryz.prog 9)
def f9a16 : Ann := subAnn [1, 1, 0, 1, 0, 0] ann9
noncomputable def f9c17 : Code := subCode [1, 1, 0, 1, 0, 0, 0] (bodyOf Tryz.prog 9)
def f9a17 : Ann := subAnn [1, 1, 0, 1, 0, 0, 0] ann9
noncomputable def f9c18 : Code := subCode [1, 1, 0, 1, 0, 0, 1] (bodyOf Tryz.prog 9)
def f9a18 : Ann := subAnn [1, 1, 0, 1, 0, 0, 1] ann9
noncomputable def f9c19 : Code := subCode [1, 1, 0, 1, 0, 0, 1, 0] (bodyOf Tryz.prog 9)
def f9a19 : Ann := subAnn [1, 1, 0, 1, 0, 0, 1, 0] ann9
noncomputable def f9c20 : Code := subCode [1, 1, 0, 1, 0, 0, 1, 1] (bodyOf Tryz.prog 9)
def f9a20 : Ann := subAnn [1, 1, 0, 1, 0, 0, 1, 1] ann9
noncomputable def f9c21 : Code := subCode [1, 1, 0, 1, 0, 0, 1, 0, 0] (bodyOf Tryz.prog 9)
def f9a21 : Ann := subAnn [1, 1, 0, 1, 0, 0, 1, 0, 0] ann9
noncomputable def f9c22 : Code := subCode [1, 1, 0, 1, 0, 0, 1, 0, 1] (bodyOf Tryz.prog 9)
def f9a22 : Ann := subAnn [1, 1, 0, 1, 0, 0, 1, 0, 1] ann9
noncomputable def f9c23 : Code := subCode [1, 1, 0, 1, 0, 0, 1, 1, 0] (bodyOf Tryz.prog 9)
def f9a23 : Ann := subAnn [1, 1, 0, 1, 0, 0, 1, 1, 0] ann9
noncomputable def f9c24 : Code := subCode [1, 1, 0, 1, 0, 0, 1, 1, 1] (bodyOf Tryz.prog 9)
def f9a24 : Ann := subAnn [1, 1, 0, 1, 0, 0, 1, 1, 1] ann9
noncomputable def f9c25 : Code := subCode [1, 1, 0, 1, 0, 0, 1, 1, 0, 0] (bodyOf Tryz.prog 9)
def f9a25 : Ann := subAnn [1, 1, 0, 1, 0, 0, 1, 1, 0, 0] ann9
noncomputable def f9c26 : Code := subCode [1, 1, 0, 1, 0, 0, 1, 1, 0, 0, 0] (bodyOf Tryz.prog 9)
def f9a26 : Ann := subAnn [1, 1, 0, 1, 0, 0, 1, 1, 0, 0, 0] ann9
noncomputable def f9c27 : Code := subCode [1, 1, 0, 1, 0, 0, 1, 1, 0, 0, 1] (bodyOf Tryz.prog 9)
def f9a27 : Ann := subAnn [1, 1, 0, 1, 0, 0, 1, 1, 0, 0, 1] ann9
noncomputable def f9c28 : Code := subCode [1, 1, 0, 1, 0, 0, 1, 1, 0, 0, 1, 0] (bodyOf Tryz.prog 9)
def f9a28 : Ann := subAnn [1, 1, 0, 1, 0, 0, 1, 1, 0, 0, 1, 0] ann9
noncomputable def f9c29 : Code := subCode [1, 1, 0, 1, 0, 0, 1, 1, 0, 0, 1, 1] (bodyOf Tryz.prog 9)
def f9a29 : Ann := subAnn [1, 1, 0, 1, 0, 0, 1, 1, 0, 0, 1, 1] ann9
noncomputable def f9c30 : Code := subCode [1, 1, 0, 1, 0, 0, 1, 1, 0, 0, 1, 1, 0] (bodyOf Tryz.prog 9)
def f9a30 : Ann := subAnn [1, 1, 0, 1, 0, 0, 1, 1, 0, 0, 1, 1, 0] ann9
noncomputable def f9c31 : Code := subCode [1, 1, 0, 1, 0, 0, 1, 1, 0, 0, 1, 1, 1] (bodyOf Tryz.prog 9)
def f9a31 : Ann := subAnn [1, 1, 0, 1, 0, 0, 1, 1, 0, 0, 1, 1, 1] ann9
noncomputable def f9c32 : Code := subCode [1, 1, 0, 1, 0, 0, 1, 1, 0, 0, 1, 1, 0, 0] (bodyOf Tryz.prog 9)
def f9a32 : Ann := subAnn [1, 1, 0, 1, 0, 0, 1, 1, 0, 0, 1, 1, 0, 0] ann9
noncomputable def f9c33 : Code := subCode [1, 1, 0, 1, 0, 0, 1, 1, 0, 0, 1, 1, 0, 1] (bodyOf Tryz.prog 9)
def f9a33 : Ann := subAnn [1, 1, 0, 1, 0, 0, 1, 1, 0, 0, 1, 1, 0, 1] ann9
noncomputable def f9c34 : Code := subCode [1, 1, 1, 0] (bodyOf Tryz.prog 9)
def f9a34 : Ann := subAnn [1, 1, 1, 0] ann9
noncomputable def f9c35 : Code := subCode [1, 1, 1, 1] (bodyOf Tryz.prog 9)
def f9a35 : Ann := subAnn [1, 1, 1, 1] ann9
noncomputable def f9L15 {R : Type} (call : Bool → CallF R) (dem : Bool) (N : Nat) : KF R → Env → St → Option R := fun K e σ => runK Tryz.prog call dem N f9c16 f9a16 K e σ
def f9e0 (y0 : Int) (y1 : Int) (y2 : Int) (y3 : ByteArray) (y4 : Option (Nat × Nat)) (y5 : Nat) (y6 : Option Nat) (y7 : Option (Nat × Nat)) (y8 : Nat) (y9 : Option Nat) (y10 : Int) (y11 : Int) (y12 : Int) (y13 : ByteArray) (y14 : Option (Nat × Nat)) (y15 : Nat) (y16 : Option Nat) (y17 : Option (Nat × Nat)) (y18 : Nat) (y19 : Option Nat) : Env := AV.agg [AV.int IntKind.i64 y0, AV.int IntKind.i64 y1, AV.int IntKind.i64 y2, AV.str y3, AV.slice y4 y5 y6 (1 : Nat), AV.slice y7 y8 y9 (12 : Nat)] :: AV.agg
  [AV.int IntKind.i64 y10, AV.int IntKind.i64 y11, AV.int IntKind.i64 y12, AV.str y13, AV.slice y14 y15 y16 (1 : Nat),
    AV.slice y17 y18 y19 (12 : Nat)] :: Env.sp 65 []
def f9e1 (y0 : Int) (y1 : Int) (y2 : Int) (y3 : ByteArray) (y4 : Option (Nat × Nat)) (y5 : Nat) (y6 : Option Nat) (y7 : Option (Nat × Nat)) (y8 : Nat) (y9 : Option Nat) (y10 : Int) (y11 : Int) (y12 : Int) (y13 : ByteArray) (y14 : Option (Nat × Nat)) (y15 : Nat) (y16 : Option Nat) (y17 : Option (Nat × Nat)) (y18 : Nat) (y19 : Option Nat) (y20 : Nat) (y21 : Nat) (y22 : Bool) : Env := AV.agg [AV.int IntKind.i64 y0, AV.int IntKind.i64 y1, AV.int IntKind.i64 y2, AV.str y3, AV.slice y4 y5 y6 (1 : Nat), AV.slice y7 y8 y9 (12 : Nat)] :: AV.agg
  [AV.int IntKind.i64 y10, AV.int IntKind.i64 y11, AV.int IntKind.i64 y12, AV.str y13, AV.slice y14 y15 y16 (1 : Nat),
    AV.slice y17 y18 y19 (12 : Nat)] :: AV.ptr (some (y20, (0 : Nat))) :: AV.ptr (some (y21, (0 : Nat))) :: AV.bool y22 :: Env.sp 62 []
def f9e2 (y0 : Nat) (y1 : Nat) : Env := Env.sp 2 (AV.ptr (some (y0, (0 : Nat))) :: AV.ptr (some (y1, (0 : Nat))) :: Env.sp 63 [])
def f9e3 (y0 : Nat) (y1 : Nat) (y2 : Nat) (y3 : Int) (y4 : Nat) (y5 : Int) (y6 : Bool) (y7 : Bool) (y8 : Bool) (y9 : Bool) (y10 : Bool) (y11 : Bool) (y12 : Bool) (y13 : Bool) (y14 : Bool) (y15 : Bool) (y16 : Bool) : Env := Env.sp 2 (AV.ptr (some (y0, (0 : Nat))) :: AV.ptr (some (y1, (0 : Nat))) :: Env.sp 2 (AV.ptr (some (y2, (0 : Nat))) :: AV.int IntKind.i64 y3 :: AV.ptr (some (y4, (0 : Nat))) :: AV.int IntKind.i64 y5 :: AV.bool y6 :: AV.bool y7 :: AV.tuple [] :: AV.tuple [] :: AV.tuple [] :: AV.tuple [] :: AV.tuple [] :: AV.bool y8 :: AV.bool y9 :: AV.tuple [] :: AV.tuple [] :: AV.tuple [] :: AV.tuple [] :: AV.tuple [] :: AV.bool y10 :: AV.bool y11 :: AV.tuple [] :: AV.tuple [] :: AV.tuple [] :: AV.tuple [] :: AV.tuple [] :: AV.bool y12 :: AV.bool y13 :: AV.tuple [] :: AV.tuple [] :: AV.tuple [] :: AV.tuple [] :: AV.tuple [] :: AV.tuple [] :: AV.bool y14 :: AV.bool y15 :: AV.tuple [] :: AV.tuple [] :: AV.tuple [] :: AV.tuple [] :: AV.tuple [] :: AV.tuple [] :: AV.tuple [] :: AV.bool y16 :: Env.sp 18 []))
def f9e4 (y0 : Nat) (y1 : Nat) (y2 : Nat) (y3 : Int) (y4 : Nat) (y5 : Int) (y6 : Bool) (y7 : Bool) (y8 : Nat) (y9 : Int) (y10 : Nat) (y11 : Int) (y12 : Bool) (y13 : Bool) (y14 : Bool) (y15 : Bool) (y16 : Bool) (y17 : Bool) (y18 : Bool) (y19 : Bool) (y20 : Bool) (y21 : Bool) : Env := Env.sp 2 (AV.ptr (some (y0, (0 : Nat))) :: AV.ptr (some (y1, (0 : Nat))) :: Env.sp 2 (AV.ptr (some (y2, (0 : Nat))) :: AV.int IntKind.i64 y3 :: AV.ptr (some (y4, (0 : Nat))) :: AV.int IntKind.i64 y5 :: AV.bool y6 :: AV.bool y7 :: AV.ptr (some (y8, (1 : Nat))) :: AV.int IntKind.i64 y9 :: AV.ptr (some (y10, (1 : Nat))) :: AV.int IntKind.i64 y11 :: AV.bool y12 :: AV.bool y13 :: AV.bool y14 :: AV.tuple [] :: AV.tuple [] :: AV.tuple [] :: AV.tuple [] :: AV.tuple [] :: AV.bool y15 :: AV.bool y16 :: AV.tuple [] :: AV.tuple [] :: AV.tuple [] :: AV.tuple [] :: AV.tuple [] :: AV.bool y17 :: AV.bool y18 :: AV.tuple [] :: AV.tuple [] :: AV.tuple [] :: AV.tuple [] :: AV.tuple [] :: AV.tuple [] :: AV.bool y19 :: AV.bool y20 :: AV.tuple [] :: AV.tuple [] :: AV.tuple [] :: AV.tuple [] :: AV.tuple [] :: AV.tuple [] :: AV.tuple [] :: AV.bool y21 :: Env.sp 18 []))
def f9e5 (y0 : Nat) (y1 : Nat) (y2 : Nat) (y3 : Int) (y4 : Nat) (y5 : Int) (y6 : Bool) (y7 : Bool) (y8 : Nat) (y9 : Int) (y10 : Nat) (y11 : Int) (y12 : Bool) (y13 : Bool) (y14 : Bool) (y15 : Nat) (y16 : Int) (y17 : Nat) (y18 : Int) (y19 : Bool) (y20 : Bool) (y21 : Bool) (y22 : Bool) (y23 : Bool) (y24 : Bool) (y25 : Bool) (y26 : Bool) : Env := Env.sp 2 (AV.ptr (some (y0, (0 : Nat))) :: AV.ptr (some (y1, (0 : Nat))) :: Env.sp 2 (AV.ptr (some (y2, (0 : Nat))) :: AV.int IntKind.i64 y3 :: AV.ptr (some (y4, (0 : Nat))) :: AV.int IntKind.i64 y5 :: AV.bool y6 :: AV.bool y7 :: AV.ptr (some (y8, (1 : Nat))) :: AV.int IntKind.i64 y9 :: AV.ptr (some (y10, (1 : Nat))) :: AV.int IntKind.i64 y11 :: AV.bool y12 :: AV.bool y13 :: AV.bool y14 :: AV.ptr (some (y15, (2 : Nat))) :: AV.int IntKind.i64 y16 :: AV.ptr (some (y17, (2 : Nat))) :: AV.int IntKind.i64 y18 :: AV.bool y19 :: AV.bool y20 :: AV.bool y21 :: AV.tuple [] :: AV.tuple [] :: AV.tuple [] :: AV.tuple [] :: AV.tuple [] :: AV.bool y22 :: AV.bool y23 :: AV.tuple [] :: AV.tuple [] :: AV.tuple [] :: AV.tuple [] :: AV.tuple [] :: AV.tuple [] :: AV.bool y24 :: AV.bool y25 :: AV.tuple [] :: AV.tuple [] :: AV.tuple [] :: AV.tuple [] :: AV.tuple [] :: AV.tuple [] :: AV.tuple [] :: AV.bool y26 :: Env.sp 18 []))
def f9e6 (y0 : Nat) (y1 : Nat) (y2 : Nat) (y3 : Int) (y4 : Nat) (y5 : Int) (y6 : Bool) (y7 : Bool) (y8 : Nat) (y9 : Int) (y10 : Nat) (y11 : Int) (y12 : Bool) (y13 : Bool) (y14 : Bool) (y15 : Nat) (y16 : Int) (y17 : Nat) (y18 : Int) (y19 : Bool) (y20 : Bool) (y21 : Bool) (y22 : Nat) (y23 : ByteArray) (y24 : Nat) (y25 : ByteArray) (y26 : Bool) (y27 : Bool) (y28 : Bool) (y29 : Bool) (y30 : Bool) (y31 : Bool) : Env := Env.sp 2 (AV.ptr (some (y0, (0 : Nat))) :: AV.ptr (some (y1, (0 : Nat))) :: Env.sp 2 (AV.ptr (some (y2, (0 : Nat))) :: AV.int IntKind.i64 y3 :: AV.ptr (some (y4, (0 : Nat))) :: AV.int IntKind.i64 y5 :: AV.bool y6 :: AV.bool y7 :: AV.ptr (some (y8, (1 : Nat))) :: AV.int IntKind.i64 y9 :: AV.ptr (some (y10, (1 : Nat))) :: AV.int IntKind.i64 y11 :: AV.bool y12 :: AV.bool y13 :: AV.bool y14 :: AV.ptr (some (y15, (2 : Nat))) :: AV.int IntKind.i64 y16 :: AV.ptr (some (y17, (2 : Nat))) :: AV.int IntKind.i64 y18 :: AV.bool y19 :: AV.bool y20 :: AV.bool y21 :: AV.ptr (some (y22, (3 : Nat))) :: AV.str y23 :: AV.ptr (some (y24, (3 : Nat))) :: AV.str y25 :: AV.bool y26 :: AV.bool y27 :: AV.bool y28 :: AV.tuple [] :: AV.tuple [] :: AV.tuple [] :: AV.tuple [] :: AV.tuple [] :: AV.tuple [] :: AV.bool y29 :: AV.bool y30 :: AV.tuple [] :: AV.tuple [] :: AV.tuple [] :: AV.tuple [] :: AV.tuple [] :: AV.tuple [] :: AV.tuple [] :: AV.bool y31 :: Env.sp 18 []))
def f9e7 (y0 : Nat) (y1 : Nat) (y2 : Nat) (y3 : Int) (y4 : Nat) (y5 : Int) (y6 : Bool) (y7 : Bool) (y8 : Nat) (y9 : Int) (y10 : Nat) (y11 : Int) (y12 : Bool) (y13 : Bool) (y14 : Bool) (y15 : Nat) (y16 : Int) (y17 : Nat) (y18 : Int) (y19 : Bool) (y20 : Bool) (y21 : Bool) (y22 : Nat) (y23 : ByteArray) (y24 : Nat) (y25 : ByteArray) (y26 : Bool) (y27 : Bool) (y28 : Bool) (y29 : Nat) (y30 : Option (Nat × Nat)) (y31 : Nat) (y32 : Option Nat) (y33 : Nat) (y34 : Option (Nat × Nat)) (y35 : Nat) (y36 : Option Nat) (y37 : Bool) (y38 : Bool) (y39 : Bool) (y40 : Bool) (y41 : Bool) : Env := Env.sp 2 (AV.ptr (some (y0, (0 : Nat))) :: AV.ptr (some (y1, (0 : Nat))) :: Env.sp 2 (AV.ptr (some (y2, (0 : Nat))) :: AV.int IntKind.i64 y3 :: AV.ptr (some (y4, (0 : Nat))) :: AV.int IntKind.i64 y5 :: AV.bool y6 :: AV.bool y7 :: AV.ptr (some (y8, (1 : Nat))) :: AV.int IntKind.i64 y9 :: AV.ptr (some (y10, (1 : Nat))) :: AV.int IntKind.i64 y11 :: AV.bool y12 :: AV.bool y13 :: AV.bool y14 :: AV.ptr (some (y15, (2 : Nat))) :: AV.int IntKind.i64 y16 :: AV.ptr (some (y17, (2 : Nat))) :: AV.int IntKind.i64 y18 :: AV.bool y19 :: AV.bool y20 :: AV.bool y21 :: AV.ptr (some (y22, (3 : Nat))) :: AV.str y23 :: AV.ptr (some (y24, (3 : Nat))) :: AV.str y25 :: AV.bool y26 :: AV.bool y27 :: AV.bool y28 :: AV.ptr (some (y29, (4 : Nat))) :: AV.slice y30 y31 y32 (1 : Nat) :: AV.ptr (some (y33, (4 : Nat))) :: AV.slice y34 y35 y36 (1 : Nat) :: AV.bool y37 :: AV.bool y38 :: AV.bool y39 :: AV.bool y40 :: AV.tuple [] :: AV.tuple [] :: AV.tuple [] :: AV.tuple [] :: AV.tuple [] :: AV.tuple [] :: AV.tuple [] :: AV.bool y41 :: Env.sp 18 []))
def f9e8 (y0 : Nat) (y1 : Nat) (y2 : Nat) (y3 : Int) (y4 : Nat) (y5 : Int) (y6 : Bool) (y7 : Bool) (y8 : Nat) (y9 : Int) (y10 : Nat) (y11 : Int) (y12 : Bool) (y13 : Bool) (y14 : Bool) (y15 : Nat) (y16 : Int) (y17 : Nat) (y18 : Int) (y19 : Bool) (y20 : Bool) (y21 : Bool) (y22 : Nat) (y23 : ByteArray) (y24 : Nat) (y25 : ByteArray) (y26 : Bool) (y27 : Bool) (y28 : Bool) (y29 : Nat) (y30 : Option (Nat × Nat)) (y31 : Nat) (y32 : Option Nat) (y33 : Nat) (y34 : Option (Nat × Nat)) (y35 : Nat) (y36 : Option Nat) (y37 : Bool) (y38 : Bool) (y39 : Bool) (y40 : Bool) (y41 : Nat) (y42 : Option (Nat × Nat)) (y43 : Nat) (y44 : Option Nat) (y45 : Int) (y46 : Nat) (y47 : Option (Nat × Nat)) (y48 : Nat) (y49 : Option Nat) (y50 : Int) (y51 : Bool) (y52 : Bool) : Env := Env.sp 2 (AV.ptr (some (y0, (0 : Nat))) :: AV.ptr (some (y1, (0 : Nat))) :: Env.sp 2 (AV.ptr (some (y2, (0 : Nat))) :: AV.int IntKind.i64 y3 :: AV.ptr (some (y4, (0 : Nat))) :: AV.int IntKind.i64 y5 :: AV.bool y6 :: AV.bool y7 :: AV.ptr (some (y8, (1 : Nat))) :: AV.int IntKind.i64 y9 :: AV.ptr (some (y10, (1 : Nat))) :: AV.int IntKind.i64 y11 :: AV.bool y12 :: AV.bool y13 :: AV.bool y14 :: AV.ptr (some (y15, (2 : Nat))) :: AV.int IntKind.i64 y16 :: AV.ptr (some (y17, (2 : Nat))) :: AV.int IntKind.i64 y18 :: AV.bool y19 :: AV.bool y20 :: AV.bool y21 :: AV.ptr (some (y22, (3 : Nat))) :: AV.str y23 :: AV.ptr (some (y24, (3 : Nat))) :: AV.str y25 :: AV.bool y26 :: AV.bool y27 :: AV.bool y28 :: AV.ptr (some (y29, (4 : Nat))) :: AV.slice y30 y31 y32 (1 : Nat) :: AV.ptr (some (y33, (4 : Nat))) :: AV.slice y34 y35 y36 (1 : Nat) :: AV.bool y37 :: AV.bool y38 :: AV.bool y39 :: AV.bool y40 :: AV.ptr (some (y41, (5 : Nat))) :: AV.slice y42 y43 y44 (12 : Nat) :: AV.int IntKind.i64 y45 :: AV.ptr (some (y46, (5 : Nat))) :: AV.slice y47 y48 y49 (12 : Nat) :: AV.int IntKind.i64 y50 :: AV.bool y51 :: AV.bool y52 :: Env.sp 18 []))
def f9e9 (y0 : Nat) (y1 : Nat) (y2 : Bool) : Env := Env.sp 2 (AV.ptr (some (y0, (0 : Nat))) :: AV.ptr (some (y1, (0 : Nat))) :: Env.sp 44 (AV.bool y2 :: Env.sp 18 []))
def f9e10 (y0 : Nat) (y1 : Nat) (y2 : Bool) (y3 : Bool) : Env := Env.sp 2 (AV.ptr (some (y0, (0 : Nat))) :: AV.ptr (some (y1, (0 : Nat))) :: AV.bool y2 :: Env.sp 43 (AV.bool y3 :: Env.sp 18 []))
def f9e11 (y0 : Bool) : Env := Env.sp 4 (AV.bool y0 :: Env.sp 62 [])
def f9e12 (y0 : Nat) (y1 : Nat) (y2 : Nat) (y3 : Option (Nat × Nat)) (y4 : Nat) (y5 : Option Nat) (y6 : Int) (y7 : Int) : Env := Env.sp 2 (AV.ptr (some (y0, (0 : Nat))) :: AV.ptr (some (y1, (0 : Nat))) :: Env.sp 45 (AV.ptr (some (y2, (5 : Nat))) :: AV.slice y3 y4 y5 (12 : Nat) :: AV.int IntKind.i64 y6 :: AV.int IntKind.i64 y7 :: Env.sp 14 []))
def f9e13 (y0 : Nat) (y1 : Nat) (y2 : Int) (y3 : Int) : Env := Env.sp 2 (AV.ptr (some (y0, (0 : Nat))) :: AV.ptr (some (y1, (0 : Nat))) :: Env.sp 47 (AV.int IntKind.i64 y2 :: AV.int IntKind.i64 y3 :: Env.sp 14 []))
def f9e14 (y0 : Nat) (y1 : Nat) (y2 : Int) (y3 : Int) (y4 : Bool) : Env := Env.sp 2 (AV.ptr (some (y0, (0 : Nat))) :: AV.ptr (some (y1, (0 : Nat))) :: Env.sp 47 (AV.int IntKind.i64 y2 :: AV.int IntKind.i64 y3 :: AV.bool y4 :: Env.sp 13 []))
def f9e15 : Env := Env.sp 67 []
def f9e16 (y0 : Nat) (y1 : Nat) (y2 : Int) (y3 : Int) (y4 : Int) (y5 : Int) : Env := Env.sp 2 (AV.ptr (some (y0, (0 : Nat))) :: AV.ptr (some (y1, (0 : Nat))) :: Env.sp 1 (AV.int IntKind.i64 y2 :: Env.sp 45 (AV.int IntKind.i64 y3 :: AV.int IntKind.i64 y4 :: Env.sp 1 (AV.int IntKind.i64 y5 :: Env.sp 12 []))))
def f9e17 (y0 : Nat) (y1 : Nat) (y2 : Int) (y3 : Int) (y4 : Int) : Env := Env.sp 2 (AV.ptr (some (y0, (0 : Nat))) :: AV.ptr (some (y1, (0 : Nat))) :: Env.sp 1 (AV.int IntKind.i64 y2 :: Env.sp 45 (AV.int IntKind.i64 y3 :: AV.int IntKind.i64 y4 :: Env.sp 14 [])))
def f9e18 (y0 : Nat) (y1 : Nat) (y2 : Int) (y3 : Int) (y4 : Int) (y5 : Nat) (y6 : Option (Nat × Nat)) (y7 : Nat) (y8 : Option Nat) (y9 : Int) (y10 : Option (Nat × Nat)) (y11 : Int) (y12 : Int) (y13 : Int) (y14 : Int) (y15 : Int) (y16 : Int) (y17 : Int) (y18 : Int) (y19 : ByteArray) (y20 : ByteArray) (y21 : ByteArray) (y22 : ByteArray) (y23 : Nat) (y24 : Option (Nat × Nat)) (y25 : Nat) (y26 : Option Nat) (y27 : Int) (y28 : Option (Nat × Nat)) (y29 : Int) (y30 : Int) (y31 : Int) (y32 : Int) (y33 : Int) (y34 : Int) (y35 : Int) (y36 : Int) (y37 : ByteArray) (y38 : ByteArray) (y39 : ByteArray) (y40 : ByteArray) (y41 : Bool) : Env := Env.sp 2 (AV.ptr (some (y0, (0 : Nat))) :: AV.ptr (some (y1, (0 : Nat))) :: Env.sp 1 (AV.int IntKind.i64 y2 :: Env.sp 45 (AV.int IntKind.i64 y3 :: AV.int IntKind.i64 y4 :: Env.sp 2 (AV.ptr (some (y5, (5 : Nat))) :: AV.slice y6 y7 y8 (12 : Nat) :: AV.int IntKind.i64 y9 :: AV.ptr y10 :: AV.agg
  [AV.int IntKind.i64 y11, AV.int IntKind.i64 y12, AV.int IntKind.i64 y13, AV.int IntKind.i64 y14, AV.int IntKind.i64 y15, AV.int IntKind.i64 y16,
    AV.int IntKind.i64 y17, AV.int IntKind.i64 y18, AV.str y19, AV.str y20, AV.str y21, AV.str y22] :: AV.ptr (some (y23, (5 : Nat))) :: AV.slice y24 y25 y26 (12 : Nat) :: AV.int IntKind.i64 y27 :: AV.ptr y28 :: AV.agg
  [AV.int IntKind.i64 y29, AV.int IntKind.i64 y30, AV.int IntKind.i64 y31, AV.int IntKind.i64 y32, AV.int IntKind.i64 y33, AV.int IntKind.i64 y34,
    AV.int IntKind.i64 y35, AV.int IntKind.i64 y36, AV.str y37, AV.str y38, AV.str y39, AV.str y40] :: AV.bool y41 :: Env.sp 1 []))))
def f9e19 (y0 : Nat) (y1 : Nat) (y2 : Int) (y3 : Int) (y4 : Bool) : Env := Env.sp 2 (AV.ptr (some (y0, (0 : Nat))) :: AV.ptr (some (y1, (0 : Nat))) :: Env.sp 47 (AV.int IntKind.i64 y2 :: AV.int IntKind.i64 y3 :: Env.sp 12 (AV.bool y4 :: Env.sp 1 [])))
def f9e20 (y0 : Nat) (y1 : Nat) (y2 : Bool) (y3 : Int) (y4 : Int) (y5 : Bool) : Env := Env.sp 2 (AV.ptr (some (y0, (0 : Nat))) :: AV.ptr (some (y1, (0 : Nat))) :: AV.bool y2 :: Env.sp 46 (AV.int IntKind.i64 y3 :: AV.int IntKind.i64 y4 :: Env.sp 12 (AV.bool y5 :: Env.sp 1 [])))
def f9e21 (y0 : Nat) (y1 : Nat) (y2 : Int) (y3 : Int) (y4 : Int) : Env := Env.sp 2 (AV.ptr (some (y0, (0 : Nat))) :: AV.ptr (some (y1, (0 : Nat))) :: Env.sp 47 (AV.int IntKind.i64 y2 :: AV.int IntKind.i64 y3 :: Env.sp 13 (AV.int IntKind.i64 y4 :: [])))

/- function 9 -/
theorem f9_eq {R : Type} (call : Bool → CallF R) (dem : Bool) (N : Nat) (y0 : Int) (y1 : Int) (y2 : Int) (y3 : ByteArray) (y4 : Option (Nat × Nat)) (y5 : Nat) (y6 : Option Nat) (y7 : Option (Nat × Nat)) (y8 : Nat) (y9 : Option Nat) (y10 : Int) (y11 : Int) (y12 : Int) (y13 : ByteArray) (y14 : Option (Nat × Nat)) (y15 : Nat) (y16 : Option Nat) (y17 : Option (Nat × Nat)) (y18 : Nat) (y19 : Option Nat) (σ : St) (K : AV → St → Option R) :
    bodyK Tryz.prog call dem N ann 9 [AV.agg [AV.int IntKind.i64 y0, AV.int IntKind.i64 y1, AV.int IntKind.i64 y2, AV.str y3, AV.slice y4 y5 y6 (1 : Nat), AV.slice y7 y8 y9 (12 : Nat)],
  AV.agg
    [AV.int IntKind.i64 y10, AV.int IntKind.i64 y11, AV.int IntKind.i64 y12, AV.str y13, AV.slice y14 y15 y16 (1 : Nat),
      AV.slice y17 y18 y19 (12 : Nat)]] σ K = runK Tryz.prog call dem N f9c0 f9a0 (bodyC Tryz.prog f9rs K) (f9e0 y0 y1 y2 y3 y4 y5 y6 y7 y8 y9 y10 y11 y12 y13 y14 y15 y16 y17 y18 y19) σ := bodyK_of (fn := ((Tryz.prog.funcs[9]?).get rfl)) (by kernel_rfl) (by kernel_rfl) (by kernel_rfl) (by kernel_rfl) (by kernel_rfl) (by kernel_rfl)
theorem f9n0 {R : Type} (call : Bool → CallF R) (dem : Bool) (N : Nat) (J : KF R) (e : Env) (σ : St) : runK Tryz.prog call dem N f9c0 f9a0 J e σ = runK Tryz.prog call dem N f9c1 f9a1 (seqC (fun K e σ => runK Tryz.prog call dem N f9c2 f9a2 K e σ) f9a0 J) e σ := runK_seq' (by kernel_rfl) (by kernel_rfl) (by kernel_rfl)
theorem f9r1_f9e0 {R : Type} (call : Bool → CallF R) (dem : Bool) (N : Nat) (y0 : Int) (y1 : Int) (y2 : Int) (y3 : ByteArray) (y4 : Option (Nat × Nat)) (y5 : Nat) (y6 : Option Nat) (y7 : Option (Nat × Nat)) (y8 : Nat) (y9 : Option Nat) (y10 : Int) (y11 : Int) (y12 : Int) (y13 : ByteArray) (y14 : Option (Nat × Nat)) (y15 : Nat) (y16 : Option Nat) (y17 : Option (Nat × Nat)) (y18 : Nat) (y19 : Option Nat) (J : KF R) (σ : St) :
    runK Tryz.prog call dem N f9c1 f9a1 J (f9e0 y0 y1 y2 y3 y4 y5 y6 y7 y8 y9 y10 y11 y12 y13 y14 y15 y16 y17 y18 y19) σ =
J Ex.normal
  (f9e1 y0 y1 y2 y3 y4 y5 y6 y7 y8 y9 y10 y11 y12 y13 y14 y15 y16 y17 y18 y19 (St.next σ)
    (St.next
      (St.new σ
        (Blk.cells
          [AV.int IntKind.i64 y0, AV.int IntKind.i64 y1, AV.int IntKind.i64 y2, AV.str y3, AV.slice y4 y5 y6 (1 : Nat), AV.slice y7 y8 y9 (12 : Nat)]
          true)))
    false)
  (St.new
    (St.new σ
      (Blk.cells
        [AV.int IntKind.i64 y0, AV.int IntKind.i64 y1, AV.int IntKind.i64 y2, AV.str y3, AV.slice y4 y5 y6 (1 : Nat), AV.slice y7 y8 y9 (12 : Nat)]
        true))
    (Blk.cells
      [AV.int IntKind.i64 y10, AV.int IntKind.i64 y11, AV.int IntKind.i64 y12, AV.str y13, AV.slice y14 y15 y16 (1 : Nat),
        AV.slice y17 y18 y19 (12 : Nat)]
      true)) := hide (by kernel_rfl)
theorem f9z0_f9e1 (y0 : Int) (y1 : Int) (y2 : Int) (y3 : ByteArray) (y4 : Option (Nat × Nat)) (y5 : Nat) (y6 : Option Nat) (y7 : Option (Nat × Nat)) (y8 : Nat) (y9 : Option Nat) (y10 : Int) (y11 : Int) (y12 : Int) (y13 : ByteArray) (y14 : Option (Nat × Nat)) (y15 : Nat) (y16 : Option Nat) (y17 : Option (Nat × Nat)) (y18 : Nat) (y19 : Option Nat) (y20 : Nat) (y21 : Nat) (y22 : Bool) : Ann.clr f9a0 (f9e1 y0 y1 y2 y3 y4 y5 y6 y7 y8 y9 y10 y11 y12 y13 y14 y15 y16 y17 y18 y19 y20 y21 y22) = f9e2 y20 y21 := hide (by kernel_rfl)
theorem f9n2 {R : Type} (call : Bool → CallF R) (dem : Bool) (N : Nat) (J : KF R) (e : Env) (σ : St) : runK Tryz.prog call dem N f9c2 f9a2 J e σ = runK Tryz.prog call dem N f9c3 f9a3 (seqC (fun K e σ => runK Tryz.prog call dem N f9c4 f9a4 K e σ) f9a2 J) e σ := runK_seq' (by kernel_rfl) (by kernel_rfl) (by kernel_rfl)
theorem f9n3 {R : Type} (call : Bool → CallF R) (dem : Bool) (N : Nat) (J : KF R) (e : Env) (σ : St) : runK Tryz.prog call dem N f9c3 f9a3 J e σ = runK Tryz.prog call dem N f9c5 f9a5 (seqC (fun K e σ => runK Tryz.prog call dem N f9c6 f9a6 K e σ) f9a3 J) e σ := runK_seq' (by kernel_rfl) (by kernel_rfl) (by kernel_rfl)
theorem f9r5_f9e2 {R : Type} (call : Bool → CallF R) (dem : Bool) (N : Nat) (y0 : Nat) (y1 : Nat) (J : KF R) (σ : St) :
    runK Tryz.prog call dem N f9c5 f9a5 J (f9e2 y0 y1) σ =
Option.bind (St.ld σ y0 (0 : Nat)) fun v0 =>
  Option.bind (AV.toInt IntKind.i64 v0) fun v1 =>
    Option.bind (St.ld σ y1 (0 : Nat)) fun v2 =>
      Option.bind (AV.toInt IntKind.i64 v2) fun v3 =>
        if (v1 != v3) = true then J Ex.normal (f9e3 y0 y1 y0 v1 y1 v3 (v1 != v3) true true true true true true true true true true) σ
        else
          Option.bind (St.ld σ y0 (1 : Nat)) fun v4 =>
            Option.bind (AV.toInt IntKind.i64 v4) fun v5 =>
              Option.bind (St.ld σ y1 (1 : Nat)) fun v6 =>
                Option.bind (AV.toInt IntKind.i64 v6) fun v7 =>
                  if (v5 != v7) = true then
                    J Ex.normal (f9e4 y0 y1 y0 v1 y1 v3 (v1 != v3) false y0 v5 y1 v7 (v5 != v7) (v5 != v7) true true true true true true true true) σ
                  else
                    Option.bind (St.ld σ y0 (2 : Nat)) fun v8 =>
                      Option.bind (AV.toInt IntKind.i64 v8) fun v9 =>
                        Option.bind (St.ld σ y1 (2 : Nat)) fun v10 =>
                          Option.bind (AV.toInt IntKind.i64 v10) fun v11 =>
                            if (v9 != v11) = true then
                              J Ex.normal
                                (f9e5 y0 y1 y0 v1 y1 v3 (v1 != v3) false y0 v5 y1 v7 (v5 != v7) (v5 != v7) false y0 v9 y1 v11 (v9 != v11) (v9 != v11)
                                  true true true true true true)
                                σ
                            else
                              Option.bind (St.ld σ y0 (3 : Nat)) fun v12 =>
                                Option.bind (AV.toStr v12) fun v13 =>
                                  Option.bind (St.ld σ y1 (3 : Nat)) fun v14 =>
                                    Option.bind (AV.toStr v14) fun v15 =>
                                      if (!decide (v13 = v15)) = true then
                                        J Ex.normal
                                          (f9e6 y0 y1 y0 v1 y1 v3 (v1 != v3) false y0 v5 y1 v7 (v5 != v7) (v5 != v7) false y0 v9 y1 v11 (v9 != v11)
                                            (v9 != v11) false y0 v13 y1 v15 (!decide (v13 = v15)) (!decide (v13 = v15)) true true true true)
                                          σ
                                      else
                                        Option.bind (St.ld σ y0 (4 : Nat)) fun v16 =>
                                          Option.bind (AV.toSl (1 : Nat) v16) fun v17 =>
                                            Option.bind (St.ld σ y1 (4 : Nat)) fun v18 =>
                                              Option.bind (AV.toSl (1 : Nat) v18) fun v19 =>
                                                call dem (19 : Nat)
                                                  [AV.slice (Sl.o v17) (Sl.len v17) (Sl.cap v17) (1 : Nat),
                                                    AV.slice (Sl.o v19) (Sl.len v19) (Sl.cap v19) (1 : Nat)]
                                                  σ fun v20 v21 =>
                                                  Option.bind (AV.toBool v20) fun v22 =>
                                                    if (!v22) = true then
                                                      J Ex.normal
                                                        (f9e7 y0 y1 y0 v1 y1 v3 (v1 != v3) false y0 v5 y1 v7 (v5 != v7) (v5 != v7) false y0 v9 y1 v11
                                                          (v9 != v11) (v9 != v11) false y0 v13 y1 v15 (!decide (v13 = v15)) (!decide (v13 = v15))
                                                          false y0 (Sl.o v17) (Sl.len v17) (Sl.cap v17) y1 (Sl.o v19) (Sl.len v19) (Sl.cap v19) v22
                                                          (!v22) (!v22) true true)
                                                        v21
                                                    else
                                                      Option.bind (St.ld v21 y0 (5 : Nat)) fun v23 =>
                                                        Option.bind (AV.toSl (12 : Nat) v23) fun v24 =>
                                                          Option.bind (St.ld v21 y1 (5 : Nat)) fun v25 =>
                                                            Option.bind (AV.toSl (12 : Nat) v25) fun v26 =>
                                                              J Ex.normal
                                                                (f9e8 y0 y1 y0 v1 y1 v3 (v1 != v3) false y0 v5 y1 v7 (v5 != v7) (v5 != v7) false y0 v9
                                                                  y1 v11 (v9 != v11) (v9 != v11) false y0 v13 y1 v15 (!decide (v13 = v15))
                                                                  (!decide (v13 = v15)) false y0 (Sl.o v17) (Sl.len v17) (Sl.cap v17) y1 (Sl.o v19)
                                                                  (Sl.len v19) (Sl.cap v19) v22 (!v22) (!v22) false y0 (Sl.o v24) (Sl.len v24)
                                                                  (Sl.cap v24) (↑(Sl.len v24) : Int) y1 (Sl.o v26) (Sl.len v26) (Sl.cap v26)
                                                                  (↑(Sl.len v26) : Int) ((↑(Sl.len v24) : Int) != (↑(Sl.len v26) : Int))
                                                                  ((↑(Sl.len v24) : Int) != (↑(Sl.len v26) : Int)))
                                                                v21 := hide (by kernel_rfl)
theorem f9z3_f9e3 (y0 : Nat) (y1 : Nat) (y2 : Nat) (y3 : Int) (y4 : Nat) (y5 : Int) (y6 : Bool) (y7 : Bool) (y8 : Bool) (y9 : Bool) (y10 : Bool) (y11 : Bool) (y12 : Bool) (y13 : Bool) (y14 : Bool) (y15 : Bool) (y16 : Bool) : Ann.clr f9a3 (f9e3 y0 y1 y2 y3 y4 y5 y6 y7 y8 y9 y10 y11 y12 y13 y14 y15 y16) = f9e9 y0 y1 y16 := hide (by kernel_rfl)
theorem f9x6_f9e9 {R : Type} (call : Bool → CallF R) (dem : Bool) (N : Nat) (y0 : Nat) (y1 : Nat) (y2 : Bool) (J : KF R) (σ : St) : runK Tryz.prog call dem N f9c6 f9a6 J (f9e9 y0 y1 y2) σ = if y2 = true then runK Tryz.prog call dem N f9c7 f9a7 (condC f9a6 J) (f9e9 y0 y1 y2) σ else runK Tryz.prog call dem N f9c8 f9a8 (condC f9a6 J) (f9e9 y0 y1 y2) σ := runK_cond' (o := Operand.tmp (48 : Nat)) (by kernel_rfl) (by kernel_rfl) (by kernel_rfl) (by kernel_rfl)
theorem f9n7 {R : Type} (call : Bool → CallF R) (dem : Bool) (N : Nat) (J : KF R) (e : Env) (σ : St) : runK Tryz.prog call dem N f9c7 f9a7 J e σ = runK Tryz.prog call dem N f9c9 f9a9 (seqC (fun K e σ => runK Tryz.prog call dem N f9c10 f9a10 K e σ) f9a7 J) e σ := runK_seq' (by kernel_rfl) (by kernel_rfl) (by kernel_rfl)
theorem f9r9_f9e9 {R : Type} (call : Bool → CallF R) (dem : Bool) (N : Nat) (y0 : Nat) (y1 : Nat) (y2 : Bool) (J : KF R) (σ : St) :
    runK Tryz.prog call dem N f9c9 f9a9 J (f9e9 y0 y1 y2) σ =
J Ex.normal (f9e10 y0 y1 false y2) σ := hide (by kernel_rfl)
theorem f9z7_f9e10 (y0 : Nat) (y1 : Nat) (y2 : Bool) (y3 : Bool) : Ann.clr f9a7 (f9e10 y0 y1 y2 y3) = f9e11 y2 := hide (by kernel_rfl)
theorem f9y10_f9e11 {R : Type} (call : Bool → CallF R) (dem : Bool) (N : Nat) (y0 : Bool) (J : KF R) (σ : St) : runK Tryz.prog call dem N f9c10 f9a10 J (f9e11 y0) σ = J .ret (f9e11 y0) σ := runK_ret' (by kernel_rfl) (by kernel_rfl)
theorem f9n8 {R : Type} (call : Bool → CallF R) (dem : Bool) (N : Nat) (J : KF R) (e : Env) (σ : St) : runK Tryz.prog call dem N f9c8 f9a8 J e σ = J .normal e σ := runK_skip' (by kernel_rfl)
theorem f9z6_f9e9 (y0 : Nat) (y1 : Nat) (y2 : Bool) : Ann.clr f9a6 (f9e9 y0 y1 y2) = f9e2 y0 y1 := hide (by kernel_rfl)
theorem f9z3_f9e4 (y0 : Nat) (y1 : Nat) (y2 : Nat) (y3 : Int) (y4 : Nat) (y5 : Int) (y6 : Bool) (y7 : Bool) (y8 : Nat) (y9 : Int) (y10 : Nat) (y11 : Int) (y12 : Bool) (y13 : Bool) (y14 : Bool) (y15 : Bool) (y16 : Bool) (y17 : Bool) (y18 : Bool) (y19 : Bool) (y20 : Bool) (y21 : Bool) : Ann.clr f9a3 (f9e4 y0 y1 y2 y3 y4 y5 y6 y7 y8 y9 y10 y11 y12 y13 y14 y15 y16 y17 y18 y19 y20 y21) = f9e9 y0 y1 y21 := hide (by kernel_rfl)
theorem f9z3_f9e5 (y0 : Nat) (y1 : Nat) (y2 : Nat) (y3 : Int) (y4 : Nat) (y5 : Int) (y6 : Bool) (y7 : Bool) (y8 : Nat) (y9 : Int) (y10 : Nat) (y11 : Int) (y12 : Bool) (y13 : Bool) (y14 : Bool) (y15 : Nat) (y16 : Int) (y17 : Nat) (y18 : Int) (y19 : Bool) (y20 : Bool) (y21 : Bool) (y22 : Bool) (y23 : Bool) (y24 : Bool) (y25 : Bool) (y26 : Bool) : Ann.clr f9a3 (f9e5 y0 y1 y2 y3 y4 y5 y6 y7 y8 y9 y10 y11 y12 y13 y14 y15 y16 y17 y18 y19 y20 y21 y22 y23 y24 y25 y26) = f9e9 y0 y1 y26 := hide (by kernel_rfl)
theorem f9z3_f9e6 (y0 : Nat) (y1 : Nat) (y2 : Nat) (y3 : Int) (y4 : Nat) (y5 : Int) (y6 : Bool) (y7 : Bool) (y8 : Nat) (y9 : Int) (y10 : Nat) (y11 : Int) (y12 : Bool) (y13 : Bool) (y14 : Bool) (y15 : Nat) (y16 : Int) (y17 : Nat) (y18 : Int) (y19 : Bool) (y20 : Bool) (y21 : Bool) (y22 : Nat) (y23 : ByteArray) (y24 : Nat) (y25 : ByteArray) (y26 : Bool) (y27 : Bool) (y28 : Bool) (y29 : Bool) (y30 : Bool) (y31 : Bool) : Ann.clr f9a3 (f9e6 y0 y1 y2 y3 y4 y5 y6 y7 y8 y9 y10 y11 y12 y13 y14 y15 y16 y17 y18 y19 y20 y21 y22 y23 y24 y25 y26 y27 y28 y29 y30 y31) = f9e9 y0 y1 y31 := hide (by kernel_rfl)
theorem f9z3_f9e7 (y0 : Nat) (y1 : Nat) (y2 : Nat) (y3 : Int) (y4 : Nat) (y5 : Int) (y6 : Bool) (y7 : Bool) (y8 : Nat) (y9 : Int) (y10 : Nat) (y11 : Int) (y12 : Bool) (y13 : Bool) (y14 : Bool) (y15 : Nat) (y16 : Int) (y17 : Nat) (y18 : Int) (y19 : Bool) (y20 : Bool) (y21 : Bool) (y22 : Nat) (y23 : ByteArray) (y24 : Nat) (y25 : ByteArray) (y26 : Bool) (y27 : Bool) (y28 : Bool) (y29 : Nat) (y30 : Option (Nat × Nat)) (y31 : Nat) (y32 : Option Nat) (y33 : Nat) (y34 : Option (Nat × Nat)) (y35 : Nat) (y36 : Option Nat) (y37 : Bool) (y38 : Bool) (y39 : Bool) (y40 : Bool) (y41 : Bool) : Ann.clr f9a3 (f9e7 y0 y1 y2 y3 y4 y5 y6 y7 y8 y9 y10 y11 y12 y13 y14 y15 y16 y17 y18 y19 y20 y21 y22 y23 y24 y25 y26 y27 y28 y29 y30 y31 y32 y33 y34 y35 y36 y37 y38
  y39 y40 y41) = f9e9 y0 y1 y41 := hide (by kernel_rfl)
theorem f9z3_f9e8 (y0 : Nat) (y1 : Nat) (y2 : Nat) (y3 : Int) (y4 : Nat) (y5 : Int) (y6 : Bool) (y7 : Bool) (y8 : Nat) (y9 : Int) (y10 : Nat) (y11 : Int) (y12 : Bool) (y13 : Bool) (y14 : Bool) (y15 : Nat) (y16 : Int) (y17 : Nat) (y18 : Int) (y19 : Bool) (y20 : Bool) (y21 : Bool) (y22 : Nat) (y23 : ByteArray) (y24 : Nat) (y25 : ByteArray) (y26 : Bool) (y27 : Bool) (y28 : Bool) (y29 : Nat) (y30 : Option (Nat × Nat)) (y31 : Nat) (y32 : Option Nat) (y33 : Nat) (y34 : Option (Nat × Nat)) (y35 : Nat) (y36 : Option Nat) (y37 : Bool) (y38 : Bool) (y39 : Bool) (y40 : Bool) (y41 : Nat) (y42 : Option (Nat × Nat)) (y43 : Nat) (y44 : Option Nat) (y45 : Int) (y46 : Nat) (y47 : Option (Nat × Nat)) (y48 : Nat) (y49 : Option Nat) (y50 : Int) (y51 : Bool) (y52 : Bool) : Ann.clr f9a3 (f9e8 y0 y1 y2 y3 y4 y5 y6 y7 y8 y9 y10 y11 y12 y13 y14 y15 y16 y17 y18 y19 y20 y21 y22 y23 y24 y25 y26 y27 y28 y29 y30 y31 y32 y33 y34 y35 y36 y37 y38
  y39 y40 y41 y42 y43 y44 y45 y46 y47 y48 y49 y50 y51 y52) = f9e9 y0 y1 y52 := hide (by kernel_rfl)
theorem f9z2_f9e2 (y0 : Nat) (y1 : Nat) : Ann.clr f9a2 (f9e2 y0 y1) = f9e2 y0 y1 := hide (by kernel_rfl)
theorem f9n4 {R : Type} (call : Bool → CallF R) (dem : Bool) (N : Nat) (J : KF R) (e : Env) (σ : St) : runK Tryz.prog call dem N f9c4 f9a4 J e σ = runK Tryz.prog call dem N f9c11 f9a11 (seqC (fun K e σ => runK Tryz.prog call dem N f9c12 f9a12 K e σ) f9a4 J) e σ := runK_seq' (by kernel_rfl) (by kernel_rfl) (by kernel_rfl)
theorem f9n11 {R : Type} (call : Bool → CallF R) (dem : Bool) (N : Nat) (J : KF R) (e : Env) (σ : St) : runK Tryz.prog call dem N f9c11 f9a11 J e σ = runK Tryz.prog call dem N f9c13 f9a13 (seqC (fun K e σ => runK Tryz.prog call dem N f9c14 f9a14 K e σ) f9a11 J) e σ := runK_seq' (by kernel_rfl) (by kernel_rfl) (by kernel_rfl)
theorem f9r13_f9e2 {R : Type} (call : Bool → CallF R) (dem : Bool) (N : Nat) (y0 : Nat) (y1 : Nat) (J : KF R) (σ : St) :
    runK Tryz.prog call dem N f9c13 f9a13 J (f9e2 y0 y1) σ =
Option.bind (St.ld σ y0 (5 : Nat)) fun v0 =>
  Option.bind (AV.toSl (12 : Nat) v0) fun v1 => J Ex.normal (f9e12 y0 y1 y0 (Sl.o v1) (Sl.len v1) (Sl.cap v1) (↑(Sl.len v1) : Int) (0 : Int)) σ := hide (by kernel_rfl)
theorem f9z11_f9e12 (y0 : Nat) (y1 : Nat) (y2 : Nat) (y3 : Option (Nat × Nat)) (y4 : Nat) (y5 : Option Nat) (y6 : Int) (y7 : Int) : Ann.clr f9a11 (f9e12 y0 y1 y2 y3 y4 y5 y6 y7) = f9e13 y0 y1 y6 y7 := hide (by kernel_rfl)
theorem f9n14 {R : Type} (call : Bool → CallF R) (dem : Bool) (N : Nat) (J : KF R) (e : Env) (σ : St) : runK Tryz.prog call dem N f9c14 f9a14 J e σ = runK Tryz.prog call dem N f9c15 f9a15 (blockC 0 f9a14 J) e σ := runK_block' (by kernel_rfl) (by kernel_rfl)
theorem f9L15_eq {R : Type} (call : Bool → CallF R) (dem : Bool) (N : Nat) (J : KF R) (e : Env) (σ : St) : f9L15 call dem N J e σ = runK Tryz.prog call dem N f9c16 f9a16 J e σ := hide rfl
theorem f9z15_f9e13 (y0 : Nat) (y1 : Nat) (y2 : Int) (y3 : Int) : Ann.clr f9a15 (f9e13 y0 y1 y2 y3) = f9e13 y0 y1 y2 y3 := hide (by kernel_rfl)
theorem f9l15_f9e13 {R : Type} (call : Bool → CallF R) (dem : Bool) (N : Nat) (y0 : Nat) (y1 : Nat) (y2 : Int) (y3 : Int) (J : KF R) (σ : St) : runK Tryz.prog call dem N f9c15 f9a15 J (f9e13 y0 y1 y2 y3) σ = loopK (f9L15 call dem N) f9a15 N J (f9e13 y0 y1 y2 y3) σ := runK_loop' (by kernel_rfl) (by kernel_rfl) (by kernel_rfl)
theorem f9n16 {R : Type} (call : Bool → CallF R) (dem : Bool) (N : Nat) (J : KF R) (e : Env) (σ : St) : runK Tryz.prog call dem N f9c16 f9a16 J e σ = runK Tryz.prog call dem N f9c17 f9a17 (seqC (fun K e σ => runK Tryz.prog call dem N f9c18 f9a18 K e σ) f9a16 J) e σ := runK_seq' (by kernel_rfl) (by kernel_rfl) (by kernel_rfl)
theorem f9r17_f9e13 {R : Type} (call : Bool → CallF R) (dem : Bool) (N : Nat) (y0 : Nat) (y1 : Nat) (y2 : Int) (y3 : Int) (J : KF R) (σ : St) :
    runK Tryz.prog call dem N f9c17 f9a17 J (f9e13 y0 y1 y2 y3) σ =
J Ex.normal (f9e14 y0 y1 y2 y3 (decide (y3 < y2))) σ := hide (by kernel_rfl)
theorem f9z16_f9e14 (y0 : Nat) (y1 : Nat) (y2 : Int) (y3 : Int) (y4 : Bool) : Ann.clr f9a16 (f9e14 y0 y1 y2 y3 y4) = f9e14 y0 y1 y2 y3 y4 := hide (by kernel_rfl)
theorem f9n18 {R : Type} (call : Bool → CallF R) (dem : Bool) (N : Nat) (J : KF R) (e : Env) (σ : St) : runK Tryz.prog call dem N f9c18 f9a18 J e σ = runK Tryz.prog call dem N f9c19 f9a19 (seqC (fun K e σ => runK Tryz.prog call dem N f9c20 f9a20 K e σ) f9a18 J) e σ := runK_seq' (by kernel_rfl) (by kernel_rfl) (by kernel_rfl)
theorem f9x19_f9e14 {R : Type} (call : Bool → CallF R) (dem : Bool) (N : Nat) (y0 : Nat) (y1 : Nat) (y2 : Int) (y3 : Int) (y4 : Bool) (J : KF R) (σ : St) : runK Tryz.prog call dem N f9c19 f9a19 J (f9e14 y0 y1 y2 y3 y4) σ = if y4 = true then runK Tryz.prog call dem N f9c21 f9a21 (condC f9a19 J) (f9e14 y0 y1 y2 y3 y4) σ else runK Tryz.prog call dem N f9c22 f9a22 (condC f9a19 J) (f9e14 y0 y1 y2 y3 y4) σ := runK_cond' (o := Operand.tmp (53 : Nat)) (by kernel_rfl) (by kernel_rfl) (by kernel_rfl) (by kernel_rfl)
theorem f9n21 {R : Type} (call : Bool → CallF R) (dem : Bool) (N : Nat) (J : KF R) (e : Env) (σ : St) : runK Tryz.prog call dem N f9c21 f9a21 J e σ = J .normal e σ := runK_skip' (by kernel_rfl)
theorem f9z19_f9e14 (y0 : Nat) (y1 : Nat) (y2 : Int) (y3 : Int) (y4 : Bool) : Ann.clr f9a19 (f9e14 y0 y1 y2 y3 y4) = f9e13 y0 y1 y2 y3 := hide (by kernel_rfl)
theorem f9y22_f9e14 {R : Type} (call : Bool → CallF R) (dem : Bool) (N : Nat) (y0 : Nat) (y1 : Nat) (y2 : Int) (y3 : Int) (y4 : Bool) (J : KF R) (σ : St) : runK Tryz.prog call dem N f9c22 f9a22 J (f9e14 y0 y1 y2 y3 y4) σ = J (.exit 0) (f9e15) σ := runK_exit' (by kernel_rfl) (by kernel_rfl)
theorem f9z18_f9e13 (y0 : Nat) (y1 : Nat) (y2 : Int) (y3 : Int) : Ann.clr f9a18 (f9e13 y0 y1 y2 y3) = f9e13 y0 y1 y2 y3 := hide (by kernel_rfl)
theorem f9n20 {R : Type} (call : Bool → CallF R) (dem : Bool) (N : Nat) (J : KF R) (e : Env) (σ : St) : runK Tryz.prog call dem N f9c20 f9a20 J e σ = runK Tryz.prog call dem N f9c23 f9a23 (seqC (fun K e σ => runK Tryz.prog call dem N f9c24 f9a24 K e σ) f9a20 J) e σ := runK_seq' (by kernel_rfl) (by kernel_rfl) (by kernel_rfl)
theorem f9n23 {R : Type} (call : Bool → CallF R) (dem : Bool) (N : Nat) (J : KF R) (e : Env) (σ : St) : runK Tryz.prog call dem N f9c23 f9a23 J e σ = runK Tryz.prog call dem N f9c25 f9a25 (blockC 1 f9a23 J) e σ := runK_block' (by kernel_rfl) (by kernel_rfl)
theorem f9n25 {R : Type} (call : Bool → CallF R) (dem : Bool) (N : Nat) (J : KF R) (e : Env) (σ : St) : runK Tryz.prog call dem N f9c25 f9a25 J e σ = runK Tryz.prog call dem N f9c26 f9a26 (seqC (fun K e σ => runK Tryz.prog call dem N f9c27 f9a27 K e σ) f9a25 J) e σ := runK_seq' (by kernel_rfl) (by kernel_rfl) (by kernel_rfl)
theorem f9r26_f9e13 {R : Type} (call : Bool → CallF R) (dem : Bool) (N : Nat) (y0 : Nat) (y1 : Nat) (y2 : Int) (y3 : Int) (J : KF R) (σ : St) :
    runK Tryz.prog call dem N f9c26 f9a26 J (f9e13 y0 y1 y2 y3) σ =
J Ex.normal (f9e16 y0 y1 y3 y2 y3 y3) σ := hide (by kernel_rfl)
theorem f9z25_f9e16 (y0 : Nat) (y1 : Nat) (y2 : Int) (y3 : Int) (y4 : Int) (y5 : Int) : Ann.clr f9a25 (f9e16 y0 y1 y2 y3 y4 y5) = f9e17 y0 y1 y2 y3 y4 := hide (by kernel_rfl)
theorem f9n27 {R : Type} (call : Bool → CallF R) (dem : Bool) (N : Nat) (J : KF R) (e : Env) (σ : St) : runK Tryz.prog call dem N f9c27 f9a27 J e σ = runK Tryz.prog call dem N f9c28 f9a28 (seqC (fun K e σ => runK Tryz.prog call dem N f9c29 f9a29 K e σ) f9a27 J) e σ := runK_seq' (by kernel_rfl) (by kernel_rfl) (by kernel_rfl)
theorem f9r28_f9e17 {R : Type} (call : Bool → CallF R) (dem : Bool) (N : Nat) (y0 : Nat) (y1 : Nat) (y2 : Int) (y3 : Int) (y4 : Int) (J : KF R) (σ : St) :
    runK Tryz.prog call dem N f9c28 f9a28 J (f9e17 y0 y1 y2 y3 y4) σ =
Option.bind (St.ld σ y0 (5 : Nat)) fun v0 =>
  Option.bind (AV.toSl (12 : Nat) v0) fun v1 =>
    if (0 : Int) ≤ y2 ∧ y2 < (↑(Sl.len v1) : Int) then
      Option.bind (Sl.o v1) fun v2 =>
        Option.bind (St.ld σ (Prod.fst v2) (Prod.snd v2 + Int.toNat y2 * (12 : Nat))) fun v3 =>
          Option.bind (AV.toInt IntKind.i64 v3) fun v4 =>
            Option.bind (St.ld σ (Prod.fst v2) (Prod.snd v2 + Int.toNat y2 * (12 : Nat) + (1 : Nat))) fun v5 =>
              Option.bind (AV.toInt IntKind.i64 v5) fun v6 =>
                Option.bind (St.ld σ (Prod.fst v2) (Prod.snd v2 + Int.toNat y2 * (12 : Nat) + (2 : Nat))) fun v7 =>
                  Option.bind (AV.toInt IntKind.i64 v7) fun v8 =>
                    Option.bind (St.ld σ (Prod.fst v2) (Prod.snd v2 + Int.toNat y2 * (12 : Nat) + (3 : Nat))) fun v9 =>
                      Option.bind (AV.toInt IntKind.i64 v9) fun v10 =>
                        Option.bind (St.ld σ (Prod.fst v2) (Prod.snd v2 + Int.toNat y2 * (12 : Nat) + (4 : Nat))) fun v11 =>
                          Option.bind (AV.toInt IntKind.i64 v11) fun v12 =>
                            Option.bind (St.ld σ (Prod.fst v2) (Prod.snd v2 + Int.toNat y2 * (12 : Nat) + (5 : Nat))) fun v13 =>
                              Option.bind (AV.toInt IntKind.i64 v13) fun v14 =>
                                Option.bind (St.ld σ (Prod.fst v2) (Prod.snd v2 + Int.toNat y2 * (12 : Nat) + (6 : Nat))) fun v15 =>
                                  Option.bind (AV.toInt IntKind.i64 v15) fun v16 =>
                                    Option.bind (St.ld σ (Prod.fst v2) (Prod.snd v2 + Int.toNat y2 * (12 : Nat) + (7 : Nat))) fun v17 =>
                                      Option.bind (AV.toInt IntKind.i64 v17) fun v18 =>
                                        Option.bind (St.ld σ (Prod.fst v2) (Prod.snd v2 + Int.toNat y2 * (12 : Nat) + (8 : Nat))) fun v19 =>
                                          Option.bind (AV.toStr v19) fun v20 =>
                                            Option.bind (St.ld σ (Prod.fst v2) (Prod.snd v2 + Int.toNat y2 * (12 : Nat) + (9 : Nat))) fun v21 =>
                                              Option.bind (AV.toStr v21) fun v22 =>
                                                Option.bind (St.ld σ (Prod.fst v2) (Prod.snd v2 + Int.toNat y2 * (12 : Nat) + (10 : Nat))) fun v23 =>
                                                  Option.bind (AV.toStr v23) fun v24 =>
                                                    Option.bind (St.ld σ (Prod.fst v2) (Prod.snd v2 + Int.toNat y2 * (12 : Nat) + (11 : Nat)))
                                                      fun v25 =>
                                                      Option.bind (AV.toStr v25) fun v26 =>
                                                        Option.bind (St.ld σ y1 (5 : Nat)) fun v27 =>
                                                          Option.bind (AV.toSl (12 : Nat) v27) fun v28 =>
                                                            if (0 : Int) ≤ y2 ∧ y2 < (↑(Sl.len v28) : Int) then
                                                              Option.bind (Sl.o v28) fun v29 =>
                                                                Option.bind (St.ld σ (Prod.fst v29) (Prod.snd v29 + Int.toNat y2 * (12 : Nat)))
                                                                  fun v30 =>
                                                                  Option.bind (AV.toInt IntKind.i64 v30) fun v31 =>
                                                                    Option.bind
                                                                      (St.ld σ (Prod.fst v29) (Prod.snd v29 + Int.toNat y2 * (12 : Nat) + (1 : Nat)))
                                                                      fun v32 =>
                                                                      Option.bind (AV.toInt IntKind.i64 v32) fun v33 =>
                                                                        Option.bind
                                                                          (St.ld σ (Prod.fst v29)
                                                                            (Prod.snd v29 + Int.toNat y2 * (12 : Nat) + (2 : Nat)))
                                                                          fun v34 =>
                                                                          Option.bind (AV.toInt IntKind.i64 v34) fun v35 =>
                                                                            Option.bind
                                                                              (St.ld σ (Prod.fst v29)
                                                                                (Prod.snd v29 + Int.toNat y2 * (12 : Nat) + (3 : Nat)))
                                                                              fun v36 =>
                                                                              Option.bind (AV.toInt IntKind.i64 v36) fun v37 =>
                                                                                Option.bind
                                                                                  (St.ld σ (Prod.fst v29)
                                                                                    (Prod.snd v29 + Int.toNat y2 * (12 : Nat) + (4 : Nat)))
                                                                                  fun v38 =>
                                                                                  Option.bind (AV.toInt IntKind.i64 v38) fun v39 =>
                                                                                    Option.bind
                                                                                      (St.ld σ (Prod.fst v29)
                                                                                        (Prod.snd v29 + Int.toNat y2 * (12 : Nat) + (5 : Nat)))
                                                                                      fun v40 =>
                                                                                      Option.bind (AV.toInt IntKind.i64 v40) fun v41 =>
                                                                                        Option.bind
                                                                                          (St.ld σ (Prod.fst v29)
                                                                                            (Prod.snd v29 + Int.toNat y2 * (12 : Nat) + (6 : Nat)))
                                                                                          fun v42 =>
                                                                                          Option.bind (AV.toInt IntKind.i64 v42) fun v43 =>
                                                                                            Option.bind
                                                                                              (St.ld σ (Prod.fst v29)
                                                                                                (Prod.snd v29 + Int.toNat y2 * (12 : Nat) +
                                                                                                  (7 : Nat)))
                                                                                              fun v44 =>
                                                                                              Option.bind (AV.toInt IntKind.i64 v44) fun v45 =>
                                                                                                Option.bind
                                                                                                  (St.ld σ (Prod.fst v29)
                                                                                                    (Prod.snd v29 + Int.toNat y2 * (12 : Nat) +
                                                                                                      (8 : Nat)))
                                                                                                  fun v46 =>
                                                                                                  Option.bind (AV.toStr v46) fun v47 =>
                                                                                                    Option.bind
                                                                                                      (St.ld σ (Prod.fst v29)
                                                                                                        (Prod.snd v29 + Int.toNat y2 * (12 : Nat) +
                                                                                                          (9 : Nat)))
                                                                                                      fun v48 =>
                                                                                                      Option.bind (AV.toStr v48) fun v49 =>
                                                                                                        Option.bind
                                                                                                          (St.ld σ (Prod.fst v29)
                                                                                                            (Prod.snd v29 +
                                                                                                                Int.toNat y2 * (12 : Nat) +
                                                                                                              (10 : Nat)))
                                                                                                          fun v50 =>
                                                                                                          Option.bind (AV.toStr v50) fun v51 =>
                                                                                                            Option.bind
                                                                                                              (St.ld σ (Prod.fst v29)
                                                                                                                (Prod.snd v29 +
                                                                                                                    Int.toNat y2 * (12 : Nat) +
                                                                                                                  (11 : Nat)))
                                                                                                              fun v52 =>
                                                                                                              Option.bind (AV.toStr v52) fun v53 =>
                                                                                                                J Ex.normal
                                                                                                                  (f9e18 y0 y1 y2 y3 y4 y0 (Sl.o v1)
                                                                                                                    (Sl.len v1) (Sl.cap v1) y2
                                                                                                                    (some
                                                                                                                      (Prod.fst v2,
                                                                                                                        Prod.snd v2 +
                                                                                                                          Int.toNat y2 * (12 : Nat)))
                                                                                                                    v4 v6 v8 v10 v12 v14 v16 v18 v20
                                                                                                                    v22 v24 v26 y1 (Sl.o v28)
                                                                                                                    (Sl.len v28) (Sl.cap v28) y2
                                                                                                                    (some
                                                                                                                      (Prod.fst v29,
                                                                                                                        Prod.snd v29 +
                                                                                                                          Int.toNat y2 * (12 : Nat)))
                                                                                                                    v31 v33 v35 v37 v39 v41 v43 v45
                                                                                                                    v47 v49 v51 v53
                                                                                                                    !(v4 == v31 &&
                                                                                                                        (v6 == v33 &&
                                                                                                                          (v8 == v35 &&
                                                                                                                            (v10 == v37 &&
                                                                                                                              (v12 == v39 &&
                                                                                                                                (v14 == v41 &&
                                                                                                                                  (v16 == v43 &&
                                                                                                                                    (v18 == v45 &&
                                                                                                                                      (decide
                                                                                                                                          (v20 =
                                                                                                                                            v47) &&
                                                                                                                                        (decide
                                                                                                                                            (v22 =
                                                                                                                                              v49) &&
                                                                                                                                          (decide
                                                                                                                                              (v24 =
                                                                                                                                                v51) &&
                                                                                                                                            (decide
                                                                                                                                                (v26 =
                                                                                                                                                  v53) &&
                                                                                                                                              true)))))))))))))
                                                                                                                  σ
                                                            else none
    else none := hide (by kernel_rfl)
theorem f9z27_f9e18 (y0 : Nat) (y1 : Nat) (y2 : Int) (y3 : Int) (y4 : Int) (y5 : Nat) (y6 : Option (Nat × Nat)) (y7 : Nat) (y8 : Option Nat) (y9 : Int) (y10 : Option (Nat × Nat)) (y11 : Int) (y12 : Int) (y13 : Int) (y14 : Int) (y15 : Int) (y16 : Int) (y17 : Int) (y18 : Int) (y19 : ByteArray) (y20 : ByteArray) (y21 : ByteArray) (y22 : ByteArray) (y23 : Nat) (y24 : Option (Nat × Nat)) (y25 : Nat) (y26 : Option Nat) (y27 : Int) (y28 : Option (Nat × Nat)) (y29 : Int) (y30 : Int) (y31 : Int) (y32 : Int) (y33 : Int) (y34 : Int) (y35 : Int) (y36 : Int) (y37 : ByteArray) (y38 : ByteArray) (y39 : ByteArray) (y40 : ByteArray) (y41 : Bool) : Ann.clr f9a27 (f9e18 y0 y1 y2 y3 y4 y5 y6 y7 y8 y9 y10 y11 y12 y13 y14 y15 y16 y17 y18 y19 y20 y21 y22 y23 y24 y25 y26 y27 y28 y29 y30 y31 y32 y33 y34 y35 y36 y37
  y38 y39 y40 y41) = f9e19 y0 y1 y3 y4 y41 := hide (by kernel_rfl)
theorem f9x29_f9e19 {R : Type} (call : Bool → CallF R) (dem : Bool) (N : Nat) (y0 : Nat) (y1 : Nat) (y2 : Int) (y3 : Int) (y4 : Bool) (J : KF R) (σ : St) : runK Tryz.prog call dem N f9c29 f9a29 J (f9e19 y0 y1 y2 y3 y4) σ = if y4 = true then runK Tryz.prog call dem N f9c30 f9a30 (condC f9a29 J) (f9e19 y0 y1 y2 y3 y4) σ else runK Tryz.prog call dem N f9c31 f9a31 (condC f9a29 J) (f9e19 y0 y1 y2 y3 y4) σ := runK_cond' (o := Operand.tmp (65 : Nat)) (by kernel_rfl) (by kernel_rfl) (by kernel_rfl) (by kernel_rfl)
theorem f9n30 {R : Type} (call : Bool → CallF R) (dem : Bool) (N : Nat) (J : KF R) (e : Env) (σ : St) : runK Tryz.prog call dem N f9c30 f9a30 J e σ = runK Tryz.prog call dem N f9c32 f9a32 (seqC (fun K e σ => runK Tryz.prog call dem N f9c33 f9a33 K e σ) f9a30 J) e σ := runK_seq' (by kernel_rfl) (by kernel_rfl) (by kernel_rfl)
theorem f9r32_f9e19 {R : Type} (call : Bool → CallF R) (dem : Bool) (N : Nat) (y0 : Nat) (y1 : Nat) (y2 : Int) (y3 : Int) (y4 : Bool) (J : KF R) (σ : St) :
    runK Tryz.prog call dem N f9c32 f9a32 J (f9e19 y0 y1 y2 y3 y4) σ =
J Ex.normal (f9e20 y0 y1 false y2 y3 y4) σ := hide (by kernel_rfl)
theorem f9z30_f9e20 (y0 : Nat) (y1 : Nat) (y2 : Bool) (y3 : Int) (y4 : Int) (y5 : Bool) : Ann.clr f9a30 (f9e20 y0 y1 y2 y3 y4 y5) = f9e11 y2 := hide (by kernel_rfl)
theorem f9y33_f9e11 {R : Type} (call : Bool → CallF R) (dem : Bool) (N : Nat) (y0 : Bool) (J : KF R) (σ : St) : runK Tryz.prog call dem N f9c33 f9a33 J (f9e11 y0) σ = J .ret (f9e11 y0) σ := runK_ret' (by kernel_rfl) (by kernel_rfl)
theorem f9n31 {R : Type} (call : Bool → CallF R) (dem : Bool) (N : Nat) (J : KF R) (e : Env) (σ : St) : runK Tryz.prog call dem N f9c31 f9a31 J e σ = J .normal e σ := runK_skip' (by kernel_rfl)
theorem f9z29_f9e19 (y0 : Nat) (y1 : Nat) (y2 : Int) (y3 : Int) (y4 : Bool) : Ann.clr f9a29 (f9e19 y0 y1 y2 y3 y4) = f9e13 y0 y1 y2 y3 := hide (by kernel_rfl)
theorem f9z23_f9e13 (y0 : Nat) (y1 : Nat) (y2 : Int) (y3 : Int) : Ann.clr f9a23 (f9e13 y0 y1 y2 y3) = f9e13 y0 y1 y2 y3 := hide (by kernel_rfl)
theorem f9z20_f9e13 (y0 : Nat) (y1 : Nat) (y2 : Int) (y3 : Int) : Ann.clr f9a20 (f9e13 y0 y1 y2 y3) = f9e13 y0 y1 y2 y3 := hide (by kernel_rfl)
theorem f9r24_f9e13 {R : Type} (call : Bool → CallF R) (dem : Bool) (N : Nat) (y0 : Nat) (y1 : Nat) (y2 : Int) (y3 : Int) (J : KF R) (σ : St) :
    runK Tryz.prog call dem N f9c24 f9a24 J (f9e13 y0 y1 y2 y3) σ =
J Ex.normal (f9e21 y0 y1 y2 (IntKind.wrap IntKind.i64 (y3 + (1 : Int))) (IntKind.wrap IntKind.i64 (y3 + (1 : Int)))) σ := hide (by kernel_rfl)
theorem f9z15_f9e21 (y0 : Nat) (y1 : Nat) (y2 : Int) (y3 : Int) (y4 : Int) : Ann.clr f9a15 (f9e21 y0 y1 y2 y3 y4) = f9e13 y0 y1 y2 y3 := hide (by kernel_rfl)
theorem f9z14_f9e15 : Ann.clr f9a14 (f9e15) = f9e15 := hide (by kernel_rfl)
theorem f9z4_f9e15 : Ann.clr f9a4 (f9e15) = f9e15 := hide (by kernel_rfl)
theorem f9n12 {R : Type} (call : Bool → CallF R) (dem : Bool) (N : Nat) (J : KF R) (e : Env) (σ : St) : runK Tryz.prog call dem N f9c12 f9a12 J e σ = runK Tryz.prog call dem N f9c34 f9a34 (seqC (fun K e σ => runK Tryz.prog call dem N f9c35 f9a35 K e σ) f9a12 J) e σ := runK_seq' (by kernel_rfl) (by kernel_rfl) (by kernel_rfl)
theorem f9r34_f9e15 {R : Type} (call : Bool → CallF R) (dem : Bool) (N : Nat) (J : KF R) (σ : St) :
    runK Tryz.prog call dem N f9c34 f9a34 J (f9e15) σ =
J Ex.normal (f9e11 true) σ := hide (by kernel_rfl)
theorem f9z12_f9e11 (y0 : Bool) : Ann.clr f9a12 (f9e11 y0) = f9e11 y0 := hide (by kernel_rfl)
theorem f9y35_f9e11 {R : Type} (call : Bool → CallF R) (dem : Bool) (N : Nat) (y0 : Bool) (J : KF R) (σ : St) : runK Tryz.prog call dem N f9c35 f9a35 J (f9e11 y0) σ = J .ret (f9e11 y0) σ := runK_ret' (by kernel_rfl) (by kernel_rfl)
theorem f9b_f9e11_r {R : Type} (y0 : Bool) (σ : St) (K : AV → St → Option R) : bodyC Tryz.prog f9rs K (Ex.ret) (f9e11 y0) σ =
K (AV.bool y0) σ := hide (by kernel_rfl)
attribute [go_sem] f9_eq f9n0 f9r1_f9e0 f9z0_f9e1 f9n2 f9n3 f9r5_f9e2 f9z3_f9e3 f9x6_f9e9 f9n7 f9r9_f9e9 f9z7_f9e10 f9y10_f9e11 f9n8 f9z6_f9e9 f9z3_f9e4 f9z3_f9e5 f9z3_f9e6 f9z3_f9e7 f9z3_f9e8 f9z2_f9e2 f9n4 f9n11 f9r13_f9e2 f9z11_f9e12 f9n14 f9L15_eq f9z15_f9e13 f9l15_f9e13 f9n16 f9r17_f9e13 f9z16_f9e14 f9n18 f9x19_f9e14 f9n21 f9z19_f9e14 f9y22_f9e14 f9z18_f9e13 f9n20 f9n23 f9n25 f9r26_f9e13 f9z25_f9e16 f9n27 f9r28_f9e17 f9z27_f9e18 f9x29_f9e19 f9n30 f9r32_f9e19 f9z30_f9e20 f9y33_f9e11 f9n31 f9z29_f9e19 f9z23_f9e13 f9z20_f9e13 f9r24_f9e13 f9z15_f9e21 f9z14_f9e15 f9z4_f9e15 f9n12 f9r34_f9e15 f9z12_f9e11 f9y35_f9e11 f9b_f9e11_r

noncomputable def f10rs : List ResultVar := [ResultVar.cell (2 : Nat) (37 : Nat)]
noncomputable def f10c0 : Code := subCode [] (bodyOf Tryz.prog 10)
def f10a0 : Ann := subAnn [] ann10
noncomputable def f10c1 : Code := subCode [0] (bodyOf Tryz.prog 10)
def f10a1 : Ann := subAnn [0] ann10
noncomputable def f10c2 : Code := subCode [1] (bodyOf Tryz.prog 10)
def f10a2 : Ann := subAnn [1] ann10
noncomputable def f10c3 : Code := subCode [1, 0] (bodyOf Tryz.prog 10)
def f10a3 : Ann := subAnn [1, 0] ann10
noncomputable def f10c4 : Code := subCode [1, 1] (bodyOf Tryz.prog 10)
def f10a4 : Ann := subAnn [1, 1] ann10
def f10e0 (y0 : Int) (y1 : Int) (y2 : Int) (y3 : ByteArray) (y4 : Option (Nat × Nat)) (y5 : Nat) (y6 : Option Nat) (y7 : Option (Nat × Nat)) (y8 : Nat) (y9 : Option Nat) : Env := AV.agg [AV.int IntKind.i64 y0, AV.int IntKind.i64 y1, AV.int IntKind.i64 y2, AV.str y3, AV.slice y4 y5 y6 (1 : Nat), AV.slice y7 y8 y9 (12 : Nat)] :: Env.sp 18 []
def f10e1 (y0 : Int) (y1 : Int) (y2 : Int) (y3 : ByteArray) (y4 : Option (Nat × Nat)) (y5 : Nat) (y6 : Option Nat) (y7 : Option (Nat × Nat)) (y8 : Nat) (y9 : Option Nat) (y10 : Nat) (y11 : Nat) : Env := AV.agg [AV.int IntKind.i64 y0, AV.int IntKind.i64 y1, AV.int IntKind.i64 y2, AV.str y3, AV.slice y4 y5 y6 (1 : Nat), AV.slice y7 y8 y9 (12 : Nat)] :: AV.ptr (some (y10, (0 : Nat))) :: AV.ptr (some (y11, (0 : Nat))) :: Env.sp 16 []
def f10e2 (y0 : Nat) (y1 : Nat) : Env := Env.sp 1 (AV.ptr (some (y0, (0 : Nat))) :: AV.ptr (some (y1, (0 : Nat))) :: Env.sp 16 [])
def f10e3 (y0 : Nat) (y1 : Nat) (y2 : Nat) (y3 : Nat) (y4 : Int) (y5 : Nat) (y6 : Nat) (y7 : Int) (y8 : Nat) (y9 : Nat) (y10 : Int) (y11 : Nat) (y12 : ByteArray) (y13 : Nat) (y14 : Option (Nat × Nat)) (y15 : Nat) (y16 : Option Nat) (y17 : Nat) (y18 : Option (Nat × Nat)) (y19 : Nat) (y20 : Option Nat) (y21 : Int) (y22 : Int) (y23 : Int) (y24 : ByteArray) (y25 : Option (Nat × Nat)) (y26 : Nat) (y27 : Option Nat) (y28 : Option (Nat × Nat)) (y29 : Nat) (y30 : Option Nat) : Env := Env.sp 1 (AV.ptr (some (y0, (0 : Nat))) :: AV.ptr (some (y1, (0 : Nat))) :: AV.ptr (some (y2, (0 : Nat))) :: AV.ptr (some (y3, (0 : Nat))) :: AV.int IntKind.i64 y4 :: AV.ptr (some (y5, (0 : Nat))) :: AV.ptr (some (y6, (1 : Nat))) :: AV.int IntKind.i64 y7 :: AV.ptr (some (y8, (0 : Nat))) :: AV.ptr (some (y9, (2 : Nat))) :: AV.int IntKind.i64 y10 :: AV.ptr (some (y11, (3 : Nat))) :: AV.str y12 :: AV.ptr (some (y13, (4 : Nat))) :: AV.slice y14 y15 y16 (1 : Nat) :: AV.ptr (some (y17, (5 : Nat))) :: AV.slice y18 y19 y20 (12 : Nat) :: AV.agg
  [AV.int IntKind.i64 y21, AV.int IntKind.i64 y22, AV.int IntKind.i64 y23, AV.str y24, AV.slice y25 y26 y27 (1 : Nat),
    AV.slice y28 y29 y30 (12 : Nat)] :: [])
def f10e4 (y0 : Nat) : Env := Env.sp 2 (AV.ptr (some (y0, (0 : Nat))) :: Env.sp 16 [])

/- function 10 -/
theorem f10_eq {R : Type} (call : Bool → CallF R) (dem : Bool) (N : Nat) (y0 : Int) (y1 : Int) (y2 : Int) (y3 : ByteArray) (y4 : Option (Nat × Nat)) (y5 : Nat) (y6 : Option Nat) (y7 : Option (Nat × Nat)) (y8 : Nat) (y9 : Option Nat) (σ : St) (K : AV → St → Option R) :
    bodyK Tryz.prog call dem N ann 10 [AV.agg [AV.int IntKind.i64 y0, AV.int IntKind.i64 y1, AV.int IntKind.i64 y2, AV.str y3, AV.slice y4 y5 y6 (1 : Nat), AV.slice y7 y8 y9 (12 : Nat)]] σ K = runK Tryz.prog call dem N f10c0 f10a0 (bodyC Tryz.prog f10rs K) (f10e0 y0 y1 y2 y3 y4 y5 y6 y7 y8 y9) σ := bodyK_of (fn := ((Tryz.prog.funcs[10]?).get rfl)) (by kernel_rfl) (by kernel_rfl) (by kernel_rfl) (by kernel_rfl) (by kernel_rfl) (by kernel_rfl)
theorem f10n0 {R : Type} (call : Bool → CallF R) (dem : Bool) (N : Nat) (J : KF R) (e : Env) (σ : St) : runK Tryz.prog call dem N f10c0 f10a0 J e σ = runK Tryz.prog call dem N f10c1 f10a1 (seqC (fun K e σ => runK Tryz.prog call dem N f10c2 f10a2 K e σ) f10a0 J) e σ := runK_seq' (by kernel_rfl) (by kernel_rfl) (by kernel_rfl)
theorem f10r1_f10e0 {R : Type} (call : Bool → CallF R) (dem : Bool) (N : Nat) (y0 : Int) (y1 : Int) (y2 : Int) (y3 : ByteArray) (y4 : Option (Nat × Nat)) (y5 : Nat) (y6 : Option Nat) (y7 : Option (Nat × Nat)) (y8 : Nat) (y9 : Option Nat) (J : KF R) (σ : St) :
    runK Tryz.prog call dem N f10c1 f10a1 J (f10e0 y0 y1 y2 y3 y4 y5 y6 y7 y8 y9) σ =
J Ex.normal
  (f10e1 y0 y1 y2 y3 y4 y5 y6 y7 y8 y9 (St.next σ)
    (St.next
      (St.new σ
        (Blk.cells
          [AV.int IntKind.i64 y0, AV.int IntKind.i64 y1, AV.int IntKind.i64 y2, AV.str y3, AV.slice y4 y5 y6 (1 : Nat), AV.slice y7 y8 y9 (12 : Nat)]
          true))))
  (St.new
    (St.new σ
      (Blk.cells
        [AV.int IntKind.i64 y0, AV.int IntKind.i64 y1, AV.int IntKind.i64 y2, AV.str y3, AV.slice y4 y5 y6 (1 : Nat), AV.slice y7 y8 y9 (12 : Nat)]
        true))
    (Blk.cells
      [AV.int IntKind.i64 (0 : Int), AV.int IntKind.i64 (0 : Int), AV.int IntKind.i64 (0 : Int), AV.str (ByteArray.mk #[]),
        AV.slice none (0 : Nat) (some (0 : Nat)) (1 : Nat), AV.slice none (0 : Nat) (some (0 : Nat)) (12 : Nat)]
      true)) := hide (by kernel_rfl)
theorem f10z0_f10e1 (y0 : Int) (y1 : Int) (y2 : Int) (y3 : ByteArray) (y4 : Option (Nat × Nat)) (y5 : Nat) (y6 : Option Nat) (y7 : Option (Nat × Nat)) (y8 : Nat) (y9 : Option Nat) (y10 : Nat) (y11 : Nat) : Ann.clr f10a0 (f10e1 y0 y1 y2 y3 y4 y5 y6 y7 y8 y9 y10 y11) = f10e2 y10 y11 := hide (by kernel_rfl)
theorem f10n2 {R : Type} (call : Bool → CallF R) (dem : Bool) (N : Nat) (J : KF R) (e : Env) (σ : St) : runK Tryz.prog call dem N f10c2 f10a2 J e σ = runK Tryz.prog call dem N f10c3 f10a3 (seqC (fun K e σ => runK Tryz.prog call dem N f10c4 f10a4 K e σ) f10a2 J) e σ := runK_seq' (by kernel_rfl) (by kernel_rfl) (by kernel_rfl)
theorem f10r3_f10e2 {R : Type} (call : Bool → CallF R) (dem : Bool) (N : Nat) (y0 : Nat) (y1 : Nat) (J : KF R) (σ : St) :
    runK Tryz.prog call dem N f10c3 f10a3 J (f10e2 y0 y1) σ =
Option.bind (St.ld σ y0 (0 : Nat)) fun v0 =>
  Option.bind (AV.toInt IntKind.i64 v0) fun v1 =>
    Option.bind (St.ld σ y0 (1 : Nat)) fun v2 =>
      Option.bind (AV.toInt IntKind.i64 v2) fun v3 =>
        Option.bind (St.ld σ y0 (2 : Nat)) fun v4 =>
          Option.bind (AV.toInt IntKind.i64 v4) fun v5 =>
            Option.bind (St.ld σ y0 (3 : Nat)) fun v6 =>
              Option.bind (AV.toStr v6) fun v7 =>
                Option.bind (St.ld σ y0 (4 : Nat)) fun v8 =>
                  Option.bind (AV.toSl (1 : Nat) v8) fun v9 =>
                    Option.bind (St.ld σ y0 (5 : Nat)) fun v10 =>
                      Option.bind (AV.toSl (12 : Nat) v10) fun v11 =>
                        Option.bind
                          (St.st σ y1 (0 : Nat)
                            [AV.int IntKind.i64 v1, AV.int IntKind.i64 v3, AV.int IntKind.i64 v5, AV.str v7,
                              AV.slice (Sl.o v9) (Sl.len v9) (Sl.cap v9) (1 : Nat), AV.slice (Sl.o v11) (Sl.len v11) (Sl.cap v11) (12 : Nat)])
                          fun v12 =>
                          J Ex.normal
                            (f10e3 y0 y1 y0 y0 v1 y0 y0 v3 y0 y0 v5 y0 v7 y0 (Sl.o v9) (Sl.len v9) (Sl.cap v9) y0 (Sl.o v11) (Sl.len v11) (Sl.cap v11)
                              v1 v3 v5 v7 (Sl.o v9) (Sl.len v9) (Sl.cap v9) (Sl.o v11) (Sl.len v11) (Sl.cap v11))
                            v12 := hide (by kernel_rfl)
theorem f10z2_f10e3 (y0 : Nat) (y1 : Nat) (y2 : Nat) (y3 : Nat) (y4 : Int) (y5 : Nat) (y6 : Nat) (y7 : Int) (y8 : Nat) (y9 : Nat) (y10 : Int) (y11 : Nat) (y12 : ByteArray) (y13 : Nat) (y14 : Option (Nat × Nat)) (y15 : Nat) (y16 : Option Nat) (y17 : Nat) (y18 : Option (Nat × Nat)) (y19 : Nat) (y20 : Option Nat) (y21 : Int) (y22 : Int) (y23 : Int) (y24 : ByteArray) (y25 : Option (Nat × Nat)) (y26 : Nat) (y27 : Option Nat) (y28 : Option (Nat × Nat)) (y29 : Nat) (y30 : Option Nat) : Ann.clr f10a2 (f10e3 y0 y1 y2 y3 y4 y5 y6 y7 y8 y9 y10 y11 y12 y13 y14 y15 y16 y17 y18 y19 y20 y21 y22 y23 y24 y25 y26 y27 y28 y29 y30) = f10e4 y1 := hide (by kernel_rfl)
theorem f10y4_f10e4 {R : Type} (call : Bool → CallF R) (dem : Bool) (N : Nat) (y0 : Nat) (J : KF R) (σ : St) : runK Tryz.prog call dem N f10c4 f10a4 J (f10e4 y0) σ = J .ret (f10e4 y0) σ := runK_ret' (by kernel_rfl) (by kernel_rfl)
theorem f10b_f10e4_r {R : Type} (y0 : Nat) (σ : St) (K : AV → St → Option R) : bodyC Tryz.prog f10rs K (Ex.ret) (f10e4 y0) σ =
Option.bind (St.ld σ y0 (0 : Nat)) fun v0 =>
  Option.bind (AV.toInt IntKind.i64 v0) fun v1 =>
    Option.bind (St.ld σ y0 (1 : Nat)) fun v2 =>
      Option.bind (AV.toInt IntKind.i64 v2) fun v3 =>
        Option.bind (St.ld σ y0 (2 : Nat)) fun v4 =>
          Option.bind (AV.toInt IntKind.i64 v4) fun v5 =>
            Option.bind (St.ld σ y0 (3 : Nat)) fun v6 =>
              Option.bind (AV.toStr v6) fun v7 =>
                Option.bind (St.ld σ y0 (4 : Nat)) fun v8 =>
                  Option.bind (AV.toSl (1 : Nat) v8) fun v9 =>
                    Option.bind (St.ld σ y0 (5 : Nat)) fun v10 =>
                      Option.bind (AV.toSl (12 : Nat) v10) fun v11 =>
                        K
                          (AV.agg
                            [AV.int IntKind.i64 v1, AV.int IntKind.i64 v3, AV.int IntKind.i64 v5, AV.str v7,
                              AV.slice (Sl.o v9) (Sl.len v9) (Sl.cap v9) (1 : Nat), AV.slice (Sl.o v11) (Sl.len v11) (Sl.cap v11) (12 : Nat)])
                          σ := hide (by kernel_rfl)
attribute [go_sem] f10_eq f10n0 f10r1_f10e0 f10z0_f10e1 f10n2 f10r3_f10e2 f10z2_f10e3 f10y4_f10e4 f10b_f10e4_r

noncomputable def f19rs : List ResultVar := [ResultVar.tmp (4 : Nat)]
noncomputable def f19c0 : Code := subCode [] (bodyOf Tryz.prog 19)
def f19a0 : Ann := subAnn [] ann19
noncomputable def f19c1 : Code := subCode [0] (bodyOf Tryz.prog 19)
def f19a1 : Ann := subAnn [0] ann19
noncomputable def f19c2 : Code := subCode [1] (bodyOf Tryz.prog 19)
def f19a2 : Ann := subAnn [1] ann19
noncomputable def f19c3 : Code := subCode [1, 0] (bodyOf Tryz.prog 19)
def f19a3 : Ann := subAnn [1, 0] ann19
noncomputable def f19c4 : Code := subCode [1, 1] (bodyOf Tryz.prog 19)
def f19a4 : Ann := subAnn [1, 1] ann19
noncomputable def f19c5 : Code := subCode [1, 0, 0] (bodyOf Tryz.prog 19)
def f19a5 : Ann := subAnn [1, 0, 0] ann19
noncomputable def f19c6 : Code := subCode [1, 0, 1] (bodyOf Tryz.prog 19)
def f19a6 : Ann := subAnn [1, 0, 1] ann19
noncomputable def f19c7 : Code := subCode [1, 0, 1, 0] (bodyOf Tryz.prog 19)
def f19a7 : Ann := subAnn [1, 0, 1, 0] ann19
noncomputable def f19c8 : Code := subCode [1, 0, 1, 0, 0] (bodyOf Tryz.prog 19)
def f19a8 : Ann := subAnn [1, 0, 1, 0, 0] ann19
noncomputable def f19c9 : Code := subCode [1, 0, 1, 0, 0, 0] (bodyOf Tryz.prog 19)
def f19a9 : Ann := subAnn [1, 0, 1, 0, 0, 0] ann19
noncomputable def f19c10 : Code := subCode [1, 0, 1, 0, 0, 1] (bodyOf Tryz.prog 19)
def f19a10 : Ann := subAnn [1, 0, 1, 0, 0, 1] ann19
noncomputable def f19c11 : Code := subCode [1, 0, 1, 0, 0, 1, 0] (bodyOf Tryz.prog 19)
def f19a11 : Ann := subAnn [1, 0, 1, 0, 0, 1, 0] ann19
noncomputable def f19c12 : Code := subCode [1, 0, 1, 0, 0, 1, 1] (bodyOf Tryz.prog 19)
def f19a12 : Ann := subAnn [1, 0, 1, 0, 0, 1, 1] ann19
noncomputable def f19c13 : Code := subCode [1, 0, 1, 0, 0, 1, 0, 0] (bodyOf Tryz.prog 19)
def f19a13 : Ann := subAnn [1, 0, 1, 0, 0, 1, 0, 0] ann19
noncomputable def f19c14 : Code := subCode [1, 0, 1, 0, 0, 1, 0, 1] (bodyOf Tryz.prog 19)
def f19a14 : Ann := subAnn [1, 0, 1, 0, 0, 1, 0, 1] ann19
noncomputable def f19c15 : Code := subCode [1, 0, 1, 0, 0, 1, 1, 0] (bodyOf Tryz.prog 19)
def f19a15 : Ann := subAnn [1, 0, 1, 0, 0, 1, 1, 0] ann19
noncomputable def f19c16 : Code := subCode [1, 0, 1, 0, 0, 1, 1, 1] (bodyOf Tryz.prog 19)
def f19a16 : Ann := subAnn [1, 0, 1, 0, 0, 1, 1, 1] ann19
noncomputable def f19c17 : Code := subCode [1, 0, 1, 0, 0, 1, 1, 0, 0] (bodyOf Tryz.prog 19)
def f19a17 : Ann := subAnn [1, 0, 1, 0, 0, 1, 1, 0, 0] ann19
noncomputable def f19c18 : Code := subCode [1, 0, 1, 0, 0, 1, 1, 0, 0, 0] (bodyOf Tryz.prog 19)
def f19a18 : Ann := subAnn [1, 0, 1, 0, 0, 1, 1, 0, 0, 0] ann19
noncomputable def f19c19 : Code := subCode [1, 0, 1, 0, 0, 1, 1, 0, 0, 1] (bodyOf Tryz.prog 19)
def f19a19 : Ann := subAnn [1, 0, 1, 0, 0, 1, 1, 0, 0, 1] ann19
noncomputable def f19c20 : Code := subCode [1, 0, 1, 0, 0, 1, 1, 0, 0, 1, 0] (bodyOf Tryz.prog 19)
def f19a20 : Ann := subAnn [1, 0, 1, 0, 0, 1, 1, 0, 0, 1, 0] ann19
noncomputable def f19c21 : Code := subCode [1, 0, 1, 0, 0, 1, 1, 0, 0, 1, 1] (bodyOf Tryz.prog 19)
def f19a21 : Ann := subAnn [1, 0, 1, 0, 0, 1, 1, 0, 0, 1, 1] ann19
noncomputable def f19c22 : Code := subCode [1, 0, 1, 0, 0, 1, 1, 0, 0, 1, 1, 0] (bodyOf Tryz.prog 19)
def f19a22 : Ann := subAnn [1, 0, 1, 0, 0, 1, 1, 0, 0, 1, 1, 0] ann19
noncomputable def f19c23 : Code := subCode [1, 0, 1, 0, 0, 1, 1, 0, 0, 1, 1, 1] (bodyOf Tryz.prog 19)
def f19a23 : Ann := subAnn [1, 0, 1, 0, 0, 1, 1, 0, 0, 1, 1, 1] ann19
noncomputable def f19c24 : Code := subCode [1, 0, 1, 0, 0, 1, 1, 0, 0, 1, 1, 0, 0] (bodyOf Tryz.prog 19)
def f19a24 : Ann := subAnn [1, 0, 1, 0, 0, 1, 1, 0, 0, 1, 1, 0, 0] ann19
noncomputable def f19c25 : Code := subCode [1, 0, 1, 0, 0, 1, 1, 0, 0, 1, 1, 0, 1] (bodyOf Tryz.prog 19)
def f19a25 : Ann := subAnn [1, 0, 1, 0, 0, 1, 1, 0, 0, 1, 1, 0, 1] ann19
noncomputable def f19c26 : Code := subCode [1, 1, 0] (bodyOf Tryz.prog 19)
def f19a26 : Ann := subAnn [1, 1, 0] ann19
noncomputable def f19c27 : Code := subCode [1, 1, 1] (bodyOf Tryz.prog 19)
def f19a27 : Ann := subAnn [1, 1, 1] ann19
noncomputable def f19L7 {R : Type} (call : Bool → CallF R) (dem : Bool) (N : Nat) : KF R → Env → St → Option R := fun K e σ => runK Tryz.prog call dem N f19c8 f19a8 K e σ
def f19e0 (y0 : Option (Nat × Nat)) (y1 : Nat) (y2 : Option Nat) (y3 : Option (Nat × Nat)) (y4 : Nat) (y5 : Option Nat) : Env := AV.slice y0 y1 y2 (1 : Nat) :: AV.slice y3 y4 y5 (1 : Nat) :: Env.sp 30 []
def f19e1 (y0 : Option (Nat × Nat)) (y1 : Nat) (y2 : Option Nat) (y3 : Option (Nat × Nat)) (y4 : Nat) (y5 : Option Nat) (y6 : Bool) : Env := AV.slice y0 y1 y2 (1 : Nat) :: AV.slice y3 y4 y5 (1 : Nat) :: Env.sp 2 (AV.bool y6 :: Env.sp 27 [])
def f19e2 (y0 : Option (Nat × Nat)) (y1 : Nat) (y2 : Option Nat) (y3 : Option (Nat × Nat)) (y4 : Nat) (y5 : Option Nat) (y6 : Option (Nat × Nat)) (y7 : Nat) (y8 : Option Nat) (y9 : Int) (y10 : Int) : Env := AV.slice y0 y1 y2 (1 : Nat) :: AV.slice y3 y4 y5 (1 : Nat) :: Env.sp 4 (AV.slice y6 y7 y8 (1 : Nat) :: AV.int IntKind.i64 y9 :: AV.int IntKind.i64 y10 :: Env.sp 23 [])
def f19e3 (y0 : Option (Nat × Nat)) (y1 : Nat) (y2 : Option Nat) (y3 : Option (Nat × Nat)) (y4 : Nat) (y5 : Option Nat) (y6 : Int) (y7 : Int) : Env := AV.slice y0 y1 y2 (1 : Nat) :: AV.slice y3 y4 y5 (1 : Nat) :: Env.sp 5 (AV.int IntKind.i64 y6 :: AV.int IntKind.i64 y7 :: Env.sp 23 [])
def f19e4 (y0 : Option (Nat × Nat)) (y1 : Nat) (y2 : Option Nat) (y3 : Option (Nat × Nat)) (y4 : Nat) (y5 : Option Nat) (y6 : Int) (y7 : Int) (y8 : Bool) : Env := AV.slice y0 y1 y2 (1 : Nat) :: AV.slice y3 y4 y5 (1 : Nat) :: Env.sp 5 (AV.int IntKind.i64 y6 :: AV.int IntKind.i64 y7 :: AV.bool y8 :: Env.sp 22 [])
def f19e5 (y0 : Option (Nat × Nat)) (y1 : Nat) (y2 : Option Nat) (y3 : Option (Nat × Nat)) (y4 : Nat) (y5 : Option Nat) (y6 : Int) (y7 : Int) (y8 : Int) (y9 : Int) : Env := AV.slice y0 y1 y2 (1 : Nat) :: AV.slice y3 y4 y5 (1 : Nat) :: Env.sp 3 (AV.int IntKind.i64 y6 :: Env.sp 1 (AV.int IntKind.i64 y7 :: AV.int IntKind.i64 y8 :: Env.sp 1 (AV.int IntKind.i64 y9 :: Env.sp 21 [])))
def f19e6 (y0 : Option (Nat × Nat)) (y1 : Nat) (y2 : Option Nat) (y3 : Option (Nat × Nat)) (y4 : Nat) (y5 : Option Nat) (y6 : Int) (y7 : Int) (y8 : Int) : Env := AV.slice y0 y1 y2 (1 : Nat) :: AV.slice y3 y4 y5 (1 : Nat) :: Env.sp 3 (AV.int IntKind.i64 y6 :: Env.sp 1 (AV.int IntKind.i64 y7 :: AV.int IntKind.i64 y8 :: Env.sp 23 []))
def f19e7 (y0 : Option (Nat × Nat)) (y1 : Nat) (y2 : Option Nat) (y3 : Option (Nat × Nat)) (y4 : Nat) (y5 : Option Nat) (y6 : Int) (y7 : Int) (y8 : Int) (y9 : Int) (y10 : Option (Nat × Nat)) (y11 : Nat) (y12 : Option Nat) (y13 : Int) (y14 : Bool) (y15 : Bool) (y16 : Bool) : Env := AV.slice y0 y1 y2 (1 : Nat) :: AV.slice y3 y4 y5 (1 : Nat) :: Env.sp 3 (AV.int IntKind.i64 y6 :: Env.sp 1 (AV.int IntKind.i64 y7 :: AV.int IntKind.i64 y8 :: Env.sp 2 (AV.int IntKind.i64 y9 :: AV.slice y10 y11 y12 (1 : Nat) :: AV.int IntKind.i64 y13 :: AV.bool y14 :: AV.bool y15 :: AV.tuple [] :: AV.tuple [] :: AV.tuple [] :: AV.tuple [] :: AV.tuple [] :: AV.tuple [] :: AV.tuple [] :: AV.tuple [] :: AV.tuple [] :: AV.bool y16 :: Env.sp 6 [])))
def f19e8 (y0 : Option (Nat × Nat)) (y1 : Nat) (y2 : Option Nat) (y3 : Option (Nat × Nat)) (y4 : Nat) (y5 : Option Nat) (y6 : Int) (y7 : Int) (y8 : Int) (y9 : Int) (y10 : Option (Nat × Nat)) (y11 : Nat) (y12 : Option Nat) (y13 : Int) (y14 : Bool) (y15 : Bool) (y16 : Option (Nat × Nat)) (y17 : Nat) (y18 : Option Nat) (y19 : Int) (y20 : Option (Nat × Nat)) (y21 : Int) (y22 : Option (Nat × Nat)) (y23 : Nat) (y24 : Option Nat) (y25 : Int) (y26 : Option (Nat × Nat)) (y27 : Int) (y28 : Bool) (y29 : Bool) : Env := AV.slice y0 y1 y2 (1 : Nat) :: AV.slice y3 y4 y5 (1 : Nat) :: Env.sp 3 (AV.int IntKind.i64 y6 :: Env.sp 1 (AV.int IntKind.i64 y7 :: AV.int IntKind.i64 y8 :: Env.sp 2 (AV.int IntKind.i64 y9 :: AV.slice y10 y11 y12 (1 : Nat) :: AV.int IntKind.i64 y13 :: AV.bool y14 :: AV.bool y15 :: AV.slice y16 y17 y18 (1 : Nat) :: AV.int IntKind.i64 y19 :: AV.ptr y20 :: AV.int IntKind.i64 y21 :: AV.slice y22 y23 y24 (1 : Nat) :: AV.int IntKind.i64 y25 :: AV.ptr y26 :: AV.int IntKind.i64 y27 :: AV.bool y28 :: AV.bool y29 :: Env.sp 6 [])))
def f19e9 (y0 : Option (Nat × Nat)) (y1 : Nat) (y2 : Option Nat) (y3 : Option (Nat × Nat)) (y4 : Nat) (y5 : Option Nat) (y6 : Int) (y7 : Int) (y8 : Bool) : Env := AV.slice y0 y1 y2 (1 : Nat) :: AV.slice y3 y4 y5 (1 : Nat) :: Env.sp 5 (AV.int IntKind.i64 y6 :: AV.int IntKind.i64 y7 :: Env.sp 16 (AV.bool y8 :: Env.sp 6 []))
def f19e10 (y0 : Option (Nat × Nat)) (y1 : Nat) (y2 : Option Nat) (y3 : Option (Nat × Nat)) (y4 : Nat) (y5 : Option Nat) (y6 : Bool) (y7 : Int) (y8 : Int) (y9 : Bool) : Env := AV.slice y0 y1 y2 (1 : Nat) :: AV.slice y3 y4 y5 (1 : Nat) :: Env.sp 2 (AV.bool y6 :: Env.sp 2 (AV.int IntKind.i64 y7 :: AV.int IntKind.i64 y8 :: Env.sp 16 (AV.bool y9 :: Env.sp 6 [])))
def f19e11 (y0 : Bool) : Env := Env.sp 4 (AV.bool y0 :: Env.sp 27 [])
def f19e12 (y0 : Option (Nat × Nat)) (y1 : Nat) (y2 : Option Nat) (y3 : Option (Nat × Nat)) (y4 : Nat) (y5 : Option Nat) (y6 : Int) (y7 : Int) (y8 : Int) : Env := AV.slice y0 y1 y2 (1 : Nat) :: AV.slice y3 y4 y5 (1 : Nat) :: Env.sp 5 (AV.int IntKind.i64 y6 :: AV.int IntKind.i64 y7 :: Env.sp 17 (AV.int IntKind.i64 y8 :: Env.sp 5 []))
def f19e13 (y0 : Option (Nat × Nat)) (y1 : Nat) (y2 : Option Nat) (y3 : Option (Nat × Nat)) (y4 : Nat) (y5 : Option Nat) (y6 : Bool) (y7 : Option (Nat × Nat)) (y8 : Nat) (y9 : Option Nat) (y10 : Int) (y11 : Option (Nat × Nat)) (y12 : Nat) (y13 : Option Nat) (y14 : Int) (y15 : Bool) : Env := AV.slice y0 y1 y2 (1 : Nat) :: AV.slice y3 y4 y5 (1 : Nat) :: Env.sp 2 (AV.bool y6 :: Env.sp 22 (AV.slice y7 y8 y9 (1 : Nat) :: AV.int IntKind.i64 y10 :: AV.slice y11 y12 y13 (1 : Nat) :: AV.int IntKind.i64 y14 :: AV.bool y15 :: []))

/- function 19 -/
theorem f19_eq {R : Type} (call : Bool → CallF R) (dem : Bool) (N : Nat) (y0 : Option (Nat × Nat)) (y1 : Nat) (y2 : Option Nat) (y3 : Option (Nat × Nat)) (y4 : Nat) (y5 : Option Nat) (σ : St) (K : AV → St → Option R) :
    bodyK Tryz.prog call dem N ann 19 [AV.slice y0 y1 y2 (1 : Nat), AV.slice y3 y4 y5 (1 : Nat)] σ K = runK Tryz.prog call dem N f19c0 f19a0 (bodyC Tryz.prog f19rs K) (f19e0 y0 y1 y2 y3 y4 y5) σ := bodyK_of (fn := ((Tryz.prog.funcs[19]?).get rfl)) (by kernel_rfl) (by kernel_rfl) (by kernel_rfl) (by kernel_rfl) (by kernel_rfl) (by kernel_rfl)
theorem f19n0 {R : Type} (call : Bool → CallF R) (dem : Bool) (N : Nat) (J : KF R) (e : Env) (σ : St) : runK Tryz.prog call dem N f19c0 f19a0 J e σ = runK Tryz.prog call dem N f19c1 f19a1 (seqC (fun K e σ => runK Tryz.prog call dem N f19c2 f19a2 K e σ) f19a0 J) e σ := runK_seq' (by kernel_rfl) (by kernel_rfl) (by kernel_rfl)
theorem f19r1_f19e0 {R : Type} (call : Bool → CallF R) (dem : Bool) (N : Nat) (y0 : Option (Nat × Nat)) (y1 : Nat) (y2 : Option Nat) (y3 : Option (Nat × Nat)) (y4 : Nat) (y5 : Option Nat) (J : KF R) (σ : St) :
    runK Tryz.prog call dem N f19c1 f19a1 J (f19e0 y0 y1 y2 y3 y4 y5) σ =
J Ex.normal (f19e1 y0 y1 y2 y3 y4 y5 false) σ := hide (by kernel_rfl)
theorem f19z0_f19e1 (y0 : Option (Nat × Nat)) (y1 : Nat) (y2 : Option Nat) (y3 : Option (Nat × Nat)) (y4 : Nat) (y5 : Option Nat) (y6 : Bool) : Ann.clr f19a0 (f19e1 y0 y1 y2 y3 y4 y5 y6) = f19e0 y0 y1 y2 y3 y4 y5 := hide (by kernel_rfl)
theorem f19n2 {R : Type} (call : Bool → CallF R) (dem : Bool) (N : Nat) (J : KF R) (e : Env) (σ : St) : runK Tryz.prog call dem N f19c2 f19a2 J e σ = runK Tryz.prog call dem N f19c3 f19a3 (seqC (fun K e σ => runK Tryz.prog call dem N f19c4 f19a4 K e σ) f19a2 J) e σ := runK_seq' (by kernel_rfl) (by kernel_rfl) (by kernel_rfl)
theorem f19n3 {R : Type} (call : Bool → CallF R) (dem : Bool) (N : Nat) (J : KF R) (e : Env) (σ : St) : runK Tryz.prog call dem N f19c3 f19a3 J e σ = runK Tryz.prog call dem N f19c5 f19a5 (seqC (fun K e σ => runK Tryz.prog call dem N f19c6 f19a6 K e σ) f19a3 J) e σ := runK_seq' (by kernel_rfl) (by kernel_rfl) (by kernel_rfl)
theorem f19r5_f19e0 {R : Type} (call : Bool → CallF R) (dem : Bool) (N : Nat) (y0 : Option (Nat × Nat)) (y1 : Nat) (y2 : Option Nat) (y3 : Option (Nat × Nat)) (y4 : Nat) (y5 : Option Nat) (J : KF R) (σ : St) :
    runK Tryz.prog call dem N f19c5 f19a5 J (f19e0 y0 y1 y2 y3 y4 y5) σ =
J Ex.normal (f19e2 y0 y1 y2 y3 y4 y5 y0 y1 y2 (↑y1 : Int) (0 : Int)) σ := hide (by kernel_rfl)
theorem f19z3_f19e2 (y0 : Option (Nat × Nat)) (y1 : Nat) (y2 : Option Nat) (y3 : Option (Nat × Nat)) (y4 : Nat) (y5 : Option Nat) (y6 : Option (Nat × Nat)) (y7 : Nat) (y8 : Option Nat) (y9 : Int) (y10 : Int) : Ann.clr f19a3 (f19e2 y0 y1 y2 y3 y4 y5 y6 y7 y8 y9 y10) = f19e3 y0 y1 y2 y3 y4 y5 y9 y10 := hide (by kernel_rfl)
theorem f19n6 {R : Type} (call : Bool → CallF R) (dem : Bool) (N : Nat) (J : KF R) (e : Env) (σ : St) : runK Tryz.prog call dem N f19c6 f19a6 J e σ = runK Tryz.prog call dem N f19c7 f19a7 (blockC 0 f19a6 J) e σ := runK_block' (by kernel_rfl) (by kernel_rfl)
theorem f19L7_eq {R : Type} (call : Bool → CallF R) (dem : Bool) (N : Nat) (J : KF R) (e : Env) (σ : St) : f19L7 call dem N J e σ = runK Tryz.prog call dem N f19c8 f19a8 J e σ := hide rfl
theorem f19z7_f19e3 (y0 : Option (Nat × Nat)) (y1 : Nat) (y2 : Option Nat) (y3 : Option (Nat × Nat)) (y4 : Nat) (y5 : Option Nat) (y6 : Int) (y7 : Int) : Ann.clr f19a7 (f19e3 y0 y1 y2 y3 y4 y5 y6 y7) = f19e3 y0 y1 y2 y3 y4 y5 y6 y7 := hide (by kernel_rfl)
theorem f19l7_f19e3 {R : Type} (call : Bool → CallF R) (dem : Bool) (N : Nat) (y0 : Option (Nat × Nat)) (y1 : Nat) (y2 : Option Nat) (y3 : Option (Nat × Nat)) (y4 : Nat) (y5 : Option Nat) (y6 : Int) (y7 : Int) (J : KF R) (σ : St) : runK Tryz.prog call dem N f19c7 f19a7 J (f19e3 y0 y1 y2 y3 y4 y5 y6 y7) σ = loopK (f19L7 call dem N) f19a7 N J (f19e3 y0 y1 y2 y3 y4 y5 y6 y7) σ := runK_loop' (by kernel_rfl) (by kernel_rfl) (by kernel_rfl)
theorem f19n8 {R : Type} (call : Bool → CallF R) (dem : Bool) (N : Nat) (J : KF R) (e : Env) (σ : St) : runK Tryz.prog call dem N f19c8 f19a8 J e σ = runK Tryz.prog call dem N f19c9 f19a9 (seqC (fun K e σ => runK Tryz.prog call dem N f19c10 f19a10 K e σ) f19a8 J) e σ := runK_seq' (by kernel_rfl) (by kernel_rfl) (by kernel_rfl)
theorem f19r9_f19e3 {R : Type} (call : Bool → CallF R) (dem : Bool) (N : Nat) (y0 : Option (Nat × Nat)) (y1 : Nat) (y2 : Option Nat) (y3 : Option (Nat × Nat)) (y4 : Nat) (y5 : Option Nat) (y6 : Int) (y7 : Int) (J : KF R) (σ : St) :
    runK Tryz.prog call dem N f19c9 f19a9 J (f19e3 y0 y1 y2 y3 y4 y5 y6 y7) σ =
J Ex.normal (f19e4 y0 y1 y2 y3 y4 y5 y6 y7 (decide (y7 < y6))) σ := hide (by kernel_rfl)
theorem f19z8_f19e4 (y0 : Option (Nat × Nat)) (y1 : Nat) (y2 : Option Nat) (y3 : Option (Nat × Nat)) (y4 : Nat) (y5 : Option Nat) (y6 : Int) (y7 : Int) (y8 : Bool) : Ann.clr f19a8 (f19e4 y0 y1 y2 y3 y4 y5 y6 y7 y8) = f19e4 y0 y1 y2 y3 y4 y5 y6 y7 y8 := hide (by kernel_rfl)
theorem f19n10 {R : Type} (call : Bool → CallF R) (dem : Bool) (N : Nat) (J : KF R) (e : Env) (σ : St) : runK Tryz.prog call dem N f19c10 f19a10 J e σ = runK Tryz.prog call dem N f19c11 f19a11 (seqC (fun K e σ => runK Tryz.prog call dem N f19c12 f19a12 K e σ) f19a10 J) e σ := runK_seq' (by kernel_rfl) (by kernel_rfl) (by kernel_rfl)
theorem f19x11_f19e4 {R : Type} (call : Bool → CallF R) (dem : Bool) (N : Nat) (y0 : Option (Nat × Nat)) (y1 : Nat) (y2 : Option Nat) (y3 : Option (Nat × Nat)) (y4 : Nat) (y5 : Option Nat) (y6 : Int) (y7 : Int) (y8 : Bool) (J : KF R) (σ : St) : runK Tryz.prog call dem N f19c11 f19a11 J (f19e4 y0 y1 y2 y3 y4 y5 y6 y7 y8) σ = if y8 = true then runK Tryz.prog call dem N f19c13 f19a13 (condC f19a11 J) (f19e4 y0 y1 y2 y3 y4 y5 y6 y7 y8) σ else runK Tryz.prog call dem N f19c14 f19a14 (condC f19a11 J) (f19e4 y0 y1 y2 y3 y4 y5 y6 y7 y8) σ := runK_cond' (o := Operand.tmp (9 : Nat)) (by kernel_rfl) (by kernel_rfl) (by kernel_rfl) (by kernel_rfl)
theorem f19n13 {R : Type} (call : Bool → CallF R) (dem : Bool) (N : Nat) (J : KF R) (e : Env) (σ : St) : runK Tryz.prog call dem N f19c13 f19a13 J e σ = J .normal e σ := runK_skip' (by kernel_rfl)
theorem f19z11_f19e4 (y0 : Option (Nat × Nat)) (y1 : Nat) (y2 : Option Nat) (y3 : Option (Nat × Nat)) (y4 : Nat) (y5 : Option Nat) (y6 : Int) (y7 : Int) (y8 : Bool) : Ann.clr f19a11 (f19e4 y0 y1 y2 y3 y4 y5 y6 y7 y8) = f19e3 y0 y1 y2 y3 y4 y5 y6 y7 := hide (by kernel_rfl)
theorem f19y14_f19e4 {R : Type} (call : Bool → CallF R) (dem : Bool) (N : Nat) (y0 : Option (Nat × Nat)) (y1 : Nat) (y2 : Option Nat) (y3 : Option (Nat × Nat)) (y4 : Nat) (y5 : Option Nat) (y6 : Int) (y7 : Int) (y8 : Bool) (J : KF R) (σ : St) : runK Tryz.prog call dem N f19c14 f19a14 J (f19e4 y0 y1 y2 y3 y4 y5 y6 y7 y8) σ = J (.exit 0) (f19e0 y0 y1 y2 y3 y4 y5) σ := runK_exit' (by kernel_rfl) (by kernel_rfl)
theorem f19z10_f19e3 (y0 : Option (Nat × Nat)) (y1 : Nat) (y2 : Option Nat) (y3 : Option (Nat × Nat)) (y4 : Nat) (y5 : Option Nat) (y6 : Int) (y7 : Int) : Ann.clr f19a10 (f19e3 y0 y1 y2 y3 y4 y5 y6 y7) = f19e3 y0 y1 y2 y3 y4 y5 y6 y7 := hide (by kernel_rfl)
theorem f19n12 {R : Type} (call : Bool → CallF R) (dem : Bool) (N : Nat) (J : KF R) (e : Env) (σ : St) : runK Tryz.prog call dem N f19c12 f19a12 J e σ = runK Tryz.prog call dem N f19c15 f19a15 (seqC (fun K e σ => runK Tryz.prog call dem N f19c16 f19a16 K e σ) f19a12 J) e σ := runK_seq' (by kernel_rfl) (by kernel_rfl) (by kernel_rfl)
theorem f19n15 {R : Type} (call : Bool → CallF R) (dem : Bool) (N : Nat) (J : KF R) (e : Env) (σ : St) : runK Tryz.prog call dem N f19c15 f19a15 J e σ = runK Tryz.prog call dem N f19c17 f19a17 (blockC 1 f19a15 J) e σ := runK_block' (by kernel_rfl) (by kernel_rfl)
theorem f19n17 {R : Type} (call : Bool → CallF R) (dem : Bool) (N : Nat) (J : KF R) (e : Env) (σ : St) : runK Tryz.prog call dem N f19c17 f19a17 J e σ = runK Tryz.prog call dem N f19c18 f19a18 (seqC (fun K e σ => runK Tryz.prog call dem N f19c19 f19a19 K e σ) f19a17 J) e σ := runK_seq' (by kernel_rfl) (by kernel_rfl) (by kernel_rfl)
theorem f19r18_f19e3 {R : Type} (call : Bool → CallF R) (dem : Bool) (N : Nat) (y0 : Option (Nat × Nat)) (y1 : Nat) (y2 : Option Nat) (y3 : Option (Nat × Nat)) (y4 : Nat) (y5 : Option Nat) (y6 : Int) (y7 : Int) (J : KF R) (σ : St) :
    runK Tryz.prog call dem N f19c18 f19a18 J (f19e3 y0 y1 y2 y3 y4 y5 y6 y7) σ =
J Ex.normal (f19e5 y0 y1 y2 y3 y4 y5 y7 y6 y7 y7) σ := hide (by kernel_rfl)
theorem f19z17_f19e5 (y0 : Option (Nat × Nat)) (y1 : Nat) (y2 : Option Nat) (y3 : Option (Nat × Nat)) (y4 : Nat) (y5 : Option Nat) (y6 : Int) (y7 : Int) (y8 : Int) (y9 : Int) : Ann.clr f19a17 (f19e5 y0 y1 y2 y3 y4 y5 y6 y7 y8 y9) = f19e6 y0 y1 y2 y3 y4 y5 y6 y7 y8 := hide (by kernel_rfl)
theorem f19n19 {R : Type} (call : Bool → CallF R) (dem : Bool) (N : Nat) (J : KF R) (e : Env) (σ : St) : runK Tryz.prog call dem N f19c19 f19a19 J e σ = runK Tryz.prog call dem N f19c20 f19a20 (seqC (fun K e σ => runK Tryz.prog call dem N f19c21 f19a21 K e σ) f19a19 J) e σ := runK_seq' (by kernel_rfl) (by kernel_rfl) (by kernel_rfl)
theorem f19r20_f19e6 {R : Type} (call : Bool → CallF R) (dem : Bool) (N : Nat) (y0 : Option (Nat × Nat)) (y1 : Nat) (y2 : Option Nat) (y3 : Option (Nat × Nat)) (y4 : Nat) (y5 : Option Nat) (y6 : Int) (y7 : Int) (y8 : Int) (J : KF R) (σ : St) :
    runK Tryz.prog call dem N f19c20 f19a20 J (f19e6 y0 y1 y2 y3 y4 y5 y6 y7 y8) σ =
if decide (y6 ≥ (↑y4 : Int)) = true then
  J Ex.normal (f19e7 y0 y1 y2 y3 y4 y5 y6 y7 y8 y6 y3 y4 y5 (↑y4 : Int) (decide (y6 ≥ (↑y4 : Int))) true true) σ
else
  if (0 : Int) ≤ y6 ∧ y6 < (↑y1 : Int) then
    Option.bind y0 fun v0 =>
      Option.bind (St.ld σ (Prod.fst v0) (Prod.snd v0 + Int.toNat y6 * (1 : Nat))) fun v1 =>
        Option.bind (AV.toInt IntKind.i64 v1) fun v2 =>
          if (0 : Int) ≤ y6 ∧ y6 < (↑y4 : Int) then
            Option.bind y3 fun v3 =>
              Option.bind (St.ld σ (Prod.fst v3) (Prod.snd v3 + Int.toNat y6 * (1 : Nat))) fun v4 =>
                Option.bind (AV.toInt IntKind.i64 v4) fun v5 =>
                  J Ex.normal
                    (f19e8 y0 y1 y2 y3 y4 y5 y6 y7 y8 y6 y3 y4 y5 (↑y4 : Int) (decide (y6 ≥ (↑y4 : Int))) false y0 y1 y2 y6
                      (some (Prod.fst v0, Prod.snd v0 + Int.toNat y6 * (1 : Nat))) v2 y3 y4 y5 y6
                      (some (Prod.fst v3, Prod.snd v3 + Int.toNat y6 * (1 : Nat))) v5 (v2 != v5) (v2 != v5))
                    σ
          else none
  else none := hide (by kernel_rfl)
theorem f19z19_f19e7 (y0 : Option (Nat × Nat)) (y1 : Nat) (y2 : Option Nat) (y3 : Option (Nat × Nat)) (y4 : Nat) (y5 : Option Nat) (y6 : Int) (y7 : Int) (y8 : Int) (y9 : Int) (y10 : Option (Nat × Nat)) (y11 : Nat) (y12 : Option Nat) (y13 : Int) (y14 : Bool) (y15 : Bool) (y16 : Bool) : Ann.clr f19a19 (f19e7 y0 y1 y2 y3 y4 y5 y6 y7 y8 y9 y10 y11 y12 y13 y14 y15 y16) = f19e9 y0 y1 y2 y3 y4 y5 y7 y8 y16 := hide (by kernel_rfl)
theorem f19x21_f19e9 {R : Type} (call : Bool → CallF R) (dem : Bool) (N : Nat) (y0 : Option (Nat × Nat)) (y1 : Nat) (y2 : Option Nat) (y3 : Option (Nat × Nat)) (y4 : Nat) (y5 : Option Nat) (y6 : Int) (y7 : Int) (y8 : Bool) (J : KF R) (σ : St) : runK Tryz.prog call dem N f19c21 f19a21 J (f19e9 y0 y1 y2 y3 y4 y5 y6 y7 y8) σ = if y8 = true then runK Tryz.prog call dem N f19c22 f19a22 (condC f19a21 J) (f19e9 y0 y1 y2 y3 y4 y5 y6 y7 y8) σ else runK Tryz.prog call dem N f19c23 f19a23 (condC f19a21 J) (f19e9 y0 y1 y2 y3 y4 y5 y6 y7 y8) σ := runK_cond' (o := Operand.tmp (25 : Nat)) (by kernel_rfl) (by kernel_rfl) (by kernel_rfl) (by kernel_rfl)
theorem f19n22 {R : Type} (call : Bool → CallF R) (dem : Bool) (N : Nat) (J : KF R) (e : Env) (σ : St) : runK Tryz.prog call dem N f19c22 f19a22 J e σ = runK Tryz.prog call dem N f19c24 f19a24 (seqC (fun K e σ => runK Tryz.prog call dem N f19c25 f19a25 K e σ) f19a22 J) e σ := runK_seq' (by kernel_rfl) (by kernel_rfl) (by kernel_rfl)
theorem f19r24_f19e9 {R : Type} (call : Bool → CallF R) (dem : Bool) (N : Nat) (y0 : Option (Nat × Nat)) (y1 : Nat) (y2 : Option Nat) (y3 : Option (Nat × Nat)) (y4 : Nat) (y5 : Option Nat) (y6 : Int) (y7 : Int) (y8 : Bool) (J : KF R) (σ : St) :
    runK Tryz.prog call dem N f19c24 f19a24 J (f19e9 y0 y1 y2 y3 y4 y5 y6 y7 y8) σ =
J Ex.normal (f19e10 y0 y1 y2 y3 y4 y5 false y6 y7 y8) σ := hide (by kernel_rfl)
theorem f19z22_f19e10 (y0 : Option (Nat × Nat)) (y1 : Nat) (y2 : Option Nat) (y3 : Option (Nat × Nat)) (y4 : Nat) (y5 : Option Nat) (y6 : Bool) (y7 : Int) (y8 : Int) (y9 : Bool) : Ann.clr f19a22 (f19e10 y0 y1 y2 y3 y4 y5 y6 y7 y8 y9) = f19e11 y6 := hide (by kernel_rfl)
theorem f19y25_f19e11 {R : Type} (call : Bool → CallF R) (dem : Bool) (N : Nat) (y0 : Bool) (J : KF R) (σ : St) : runK Tryz.prog call dem N f19c25 f19a25 J (f19e11 y0) σ = J .ret (f19e11 y0) σ := runK_ret' (by kernel_rfl) (by kernel_rfl)
theorem f19n23 {R : Type} (call : Bool → CallF R) (dem : Bool) (N : Nat) (J : KF R) (e : Env) (σ : St) : runK Tryz.prog call dem N f19c23 f19a23 J e σ = J .normal e σ := runK_skip' (by kernel_rfl)
theorem f19z21_f19e9 (y0 : Option (Nat × Nat)) (y1 : Nat) (y2 : Option Nat) (y3 : Option (Nat × Nat)) (y4 : Nat) (y5 : Option Nat) (y6 : Int) (y7 : Int) (y8 : Bool) : Ann.clr f19a21 (f19e9 y0 y1 y2 y3 y4 y5 y6 y7 y8) = f19e3 y0 y1 y2 y3 y4 y5 y6 y7 := hide (by kernel_rfl)
theorem f19z19_f19e8 (y0 : Option (Nat × Nat)) (y1 : Nat) (y2 : Option Nat) (y3 : Option (Nat × Nat)) (y4 : Nat) (y5 : Option Nat) (y6 : Int) (y7 : Int) (y8 : Int) (y9 : Int) (y10 : Option (Nat × Nat)) (y11 : Nat) (y12 : Option Nat) (y13 : Int) (y14 : Bool) (y15 : Bool) (y16 : Option (Nat × Nat)) (y17 : Nat) (y18 : Option Nat) (y19 : Int) (y20 : Option (Nat × Nat)) (y21 : Int) (y22 : Option (Nat × Nat)) (y23 : Nat) (y24 : Option Nat) (y25 : Int) (y26 : Option (Nat × Nat)) (y27 : Int) (y28 : Bool) (y29 : Bool) : Ann.clr f19a19 (f19e8 y0 y1 y2 y3 y4 y5 y6 y7 y8 y9 y10 y11 y12 y13 y14 y15 y16 y17 y18 y19 y20 y21 y22 y23 y24 y25 y26 y27 y28 y29) = f19e9 y0 y1 y2 y3 y4 y5 y7 y8 y29 := hide (by kernel_rfl)
theorem f19z15_f19e3 (y0 : Option (Nat × Nat)) (y1 : Nat) (y2 : Option Nat) (y3 : Option (Nat × Nat)) (y4 : Nat) (y5 : Option Nat) (y6 : Int) (y7 : Int) : Ann.clr f19a15 (f19e3 y0 y1 y2 y3 y4 y5 y6 y7) = f19e3 y0 y1 y2 y3 y4 y5 y6 y7 := hide (by kernel_rfl)
theorem f19z12_f19e3 (y0 : Option (Nat × Nat)) (y1 : Nat) (y2 : Option Nat) (y3 : Option (Nat × Nat)) (y4 : Nat) (y5 : Option Nat) (y6 : Int) (y7 : Int) : Ann.clr f19a12 (f19e3 y0 y1 y2 y3 y4 y5 y6 y7) = f19e3 y0 y1 y2 y3 y4 y5 y6 y7 := hide (by kernel_rfl)
theorem f19r16_f19e3 {R : Type} (call : Bool → CallF R) (dem : Bool) (N : Nat) (y0 : Option (Nat × Nat)) (y1 : Nat) (y2 : Option Nat) (y3 : Option (Nat × Nat)) (y4 : Nat) (y5 : Option Nat) (y6 : Int) (y7 : Int) (J : KF R) (σ : St) :
    runK Tryz.prog call dem N f19c16 f19a16 J (f19e3 y0 y1 y2 y3 y4 y5 y6 y7) σ =
J Ex.normal (f19e12 y0 y1 y2 y3 y4 y5 y6 (IntKind.wrap IntKind.i64 (y7 + (1 : Int))) (IntKind.wrap IntKind.i64 (y7 + (1 : Int)))) σ := hide (by kernel_rfl)
theorem f19z7_f19e12 (y0 : Option (Nat × Nat)) (y1 : Nat) (y2 : Option Nat) (y3 : Option (Nat × Nat)) (y4 : Nat) (y5 : Option Nat) (y6 : Int) (y7 : Int) (y8 : Int) : Ann.clr f19a7 (f19e12 y0 y1 y2 y3 y4 y5 y6 y7 y8) = f19e3 y0 y1 y2 y3 y4 y5 y6 y7 := hide (by kernel_rfl)
theorem f19z6_f19e0 (y0 : Option (Nat × Nat)) (y1 : Nat) (y2 : Option Nat) (y3 : Option (Nat × Nat)) (y4 : Nat) (y5 : Option Nat) : Ann.clr f19a6 (f19e0 y0 y1 y2 y3 y4 y5) = f19e0 y0 y1 y2 y3 y4 y5 := hide (by kernel_rfl)
theorem f19z2_f19e0 (y0 : Option (Nat × Nat)) (y1 : Nat) (y2 : Option Nat) (y3 : Option (Nat × Nat)) (y4 : Nat) (y5 : Option Nat) : Ann.clr f19a2 (f19e0 y0 y1 y2 y3 y4 y5) = f19e0 y0 y1 y2 y3 y4 y5 := hide (by kernel_rfl)
theorem f19n4 {R : Type} (call : Bool → CallF R) (dem : Bool) (N : Nat) (J : KF R) (e : Env) (σ : St) : runK Tryz.prog call dem N f19c4 f19a4 J e σ = runK Tryz.prog call dem N f19c26 f19a26 (seqC (fun K e σ => runK Tryz.prog call dem N f19c27 f19a27 K e σ) f19a4 J) e σ := runK_seq' (by kernel_rfl) (by kernel_rfl) (by kernel_rfl)
theorem f19r26_f19e0 {R : Type} (call : Bool → CallF R) (dem : Bool) (N : Nat) (y0 : Option (Nat × Nat)) (y1 : Nat) (y2 : Option Nat) (y3 : Option (Nat × Nat)) (y4 : Nat) (y5 : Option Nat) (J : KF R) (σ : St) :
    runK Tryz.prog call dem N f19c26 f19a26 J (f19e0 y0 y1 y2 y3 y4 y5) σ =
J Ex.normal (f19e13 y0 y1 y2 y3 y4 y5 ((↑y1 : Int) == (↑y4 : Int)) y0 y1 y2 (↑y1 : Int) y3 y4 y5 (↑y4 : Int) ((↑y1 : Int) == (↑y4 : Int))) σ := hide (by kernel_rfl)
theorem f19z4_f19e13 (y0 : Option (Nat × Nat)) (y1 : Nat) (y2 : Option Nat) (y3 : Option (Nat × Nat)) (y4 : Nat) (y5 : Option Nat) (y6 : Bool) (y7 : Option (Nat × Nat)) (y8 : Nat) (y9 : Option Nat) (y10 : Int) (y11 : Option (Nat × Nat)) (y12 : Nat) (y13 : Option Nat) (y14 : Int) (y15 : Bool) : Ann.clr f19a4 (f19e13 y0 y1 y2 y3 y4 y5 y6 y7 y8 y9 y10 y11 y12 y13 y14 y15) = f19e11 y6 := hide (by kernel_rfl)
theorem f19y27_f19e11 {R : Type} (call : Bool → CallF R) (dem : Bool) (N : Nat) (y0 : Bool) (J : KF R) (σ : St) : runK Tryz.prog call dem N f19c27 f19a27 J (f19e11 y0) σ = J .ret (f19e11 y0) σ := runK_ret' (by kernel_rfl) (by kernel_rfl)
theorem f19b_f19e11_r {R : Type} (y0 : Bool) (σ : St) (K : AV → St → Option R) : bodyC Tryz.prog f19rs K (Ex.ret) (f19e11 y0) σ =
K (AV.bool y0) σ := hide (by kernel_rfl)
attribute [go_sem] f19_eq f19n0 f19r1_f19e0 f19z0_f19e1 f19n2 f19n3 f19r5_f19e0 f19z3_f19e2 f19n6 f19L7_eq f19z7_f19e3 f19l7_f19e3 f19n8 f19r9_f19e3 f19z8_f19e4 f19n10 f19x11_f19e4 f19n13 f19z11_f19e4 f19y14_f19e4 f19z10_f19e3 f19n12 f19n15 f19n17 f19r18_f19e3 f19z17_f19e5 f19n19 f19r20_f19e6 f19z19_f19e7 f19x21_f19e9 f19n22 f19r24_f19e9 f19z22_f19e10 f19y25_f19e11 f19n23 f19z21_f19e9 f19z19_f19e8 f19z15_f19e3 f19z12_f19e3 f19r16_f19e3 f19z7_f19e12 f19z6_f19e0 f19z2_f19e0 f19n4 f19r26_f19e0 f19z4_f19e13 f19y27_f19e11 f19b_f19e11_r

end Go.Proofs.YtnjhcfcnpapaiaaGreatDoor
