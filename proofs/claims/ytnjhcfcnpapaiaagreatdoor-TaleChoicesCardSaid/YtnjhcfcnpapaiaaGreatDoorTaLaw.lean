/- What the machine does with each piece of code, in plain text. PRINTED by a program of this workplace; Lean checks it. -/
import Derived.Test.YtnjhcfcnpapaiaaGreatDoorTaAnn
import Derived.Test.YtnjhcfcnpapaiaaGreatDoorProg
import Derived.KernelRfl
import Derived.Attr
namespace Go.Proofs.YtnjhcfcnpapaiaaGreatDoor
open Go.AM
set_option maxRecDepth 100000
set_option linter.unusedVariables false
noncomputable def f4rs : List ResultVar := [ResultVar.tmp (2 : Nat)]
noncomputable def f4c0 : Code := subCode [] (bodyOf Tryz.prog 4)
def f4a0 : Ann := subAnn [] ann4
noncomputable def f4c1 : Code := subCode [0] (bodyOf Tryz.prog 4)
def f4a1 : Ann := subAnn [0] ann4
noncomputable def f4c2 : Code := subCode [1] (bodyOf Tryz.prog 4)
def f4a2 : Ann := subAnn [1] ann4
noncomputable def f4c3 : Code := subCode [1, 0] (bodyOf Tryz.prog 4)
def f4a3 : Ann := subAnn [1, 0] ann4
noncomputable def f4c4 : Code := subCode [1, 1] (bodyOf Tryz.prog 4)
def f4a4 : Ann := subAnn [1, 1] ann4
noncomputable def f4c5 : Code := subCode [1, 0, 0] (bodyOf Tryz.prog 4)
def f4a5 : Ann := subAnn [1, 0, 0] ann4
noncomputable def f4c6 : Code := subCode [1, 0, 1] (bodyOf Tryz.prog 4)
def f4a6 : Ann := subAnn [1, 0, 1] ann4
noncomputable def f4c7 : Code := subCode [1, 0, 1, 0] (bodyOf Tryz.prog 4)
def f4a7 : Ann := subAnn [1, 0, 1, 0] ann4
noncomputable def f4c8 : Code := subCode [1, 0, 1, 1] (bodyOf Tryz.prog 4)
def f4a8 : Ann := subAnn [1, 0, 1, 1] ann4
noncomputable def f4c9 : Code := subCode [1, 0, 1, 0, 0] (bodyOf Tryz.prog 4)
def f4a9 : Ann := subAnn [1, 0, 1, 0, 0] ann4
noncomputable def f4c10 : Code := subCode [1, 0, 1, 0, 1] (bodyOf Tryz.prog 4)
def f4a10 : Ann := subAnn [1, 0, 1, 0, 1] ann4
noncomputable def f4c11 : Code := subCode [1, 1, 0] (bodyOf Tryz.prog 4)
def f4a11 : Ann := subAnn [1, 1, 0] ann4
noncomputable def f4c12 : Code := subCode [1, 1, 1] (bodyOf Tryz.prog 4)
def f4a12 : Ann := subAnn [1, 1, 1] ann4
noncomputable def f4c13 : Code := subCode [1, 1, 1, 0] (bodyOf Tryz.prog 4)
def f4a13 : Ann := subAnn [1, 1, 1, 0] ann4
noncomputable def f4c14 : Code := subCode [1, 1, 1, 1] (bodyOf Tryz.prog 4)
def f4a14 : Ann := subAnn [1, 1, 1, 1] ann4
noncomputable def f4c15 : Code := subCode [1, 1, 1, 1, 0] (bodyOf Tryz.prog 4)
def f4a15 : Ann := subAnn [1, 1, 1, 1, 0] ann4
noncomputable def f4c16 : Code := subCode [1, 1, 1, 1, 1] (bodyOf Tryz.prog 4)
def f4a16 : Ann := subAnn [1, 1, 1, 1, 1] ann4
def f4e0 (y0 : Int) (y1 : Int) (y2 : Int) (y3 : Int) (y4 : Int) (y5 : Int) (y6 : Int) (y7 : Int) (y8 : ByteArray) (y9 : ByteArray) (y10 : ByteArray) (y11 : ByteArray) : Env := AV.agg
  [AV.int IntKind.i64 y0, AV.int IntKind.i64 y1, AV.int IntKind.i64 y2, AV.int IntKind.i64 y3, AV.int IntKind.i64 y4, AV.int IntKind.i64 y5,
    AV.int IntKind.i64 y6, AV.int IntKind.i64 y7, AV.str y8, AV.str y9, AV.str y10, AV.str y11] :: Env.sp 75 []
def f4e1 (y0 : Int) (y1 : Int) (y2 : Int) (y3 : Int) (y4 : Int) (y5 : Int) (y6 : Int) (y7 : Int) (y8 : ByteArray) (y9 : ByteArray) (y10 : ByteArray) (y11 : ByteArray) (y12 : Nat) (y13 : Bool) : Env := AV.agg
  [AV.int IntKind.i64 y0, AV.int IntKind.i64 y1, AV.int IntKind.i64 y2, AV.int IntKind.i64 y3, AV.int IntKind.i64 y4, AV.int IntKind.i64 y5,
    AV.int IntKind.i64 y6, AV.int IntKind.i64 y7, AV.str y8, AV.str y9, AV.str y10, AV.str y11] :: AV.ptr (some (y12, (0 : Nat))) :: AV.bool y13 :: Env.sp 73 []
def f4e2 (y0 : Nat) : Env := Env.sp 1 (AV.ptr (some (y0, (0 : Nat))) :: Env.sp 74 [])
def f4e3 (y0 : Nat) (y1 : Nat) (y2 : ByteArray) (y3 : Int) (y4 : Nat) (y5 : ByteArray) (y6 : Int) (y7 : Int) (y8 : Nat) (y9 : ByteArray) (y10 : Int) (y11 : Int) (y12 : Bool) (y13 : Bool) (y14 : Bool) : Env := Env.sp 1 (AV.ptr (some (y0, (0 : Nat))) :: Env.sp 6 (AV.ptr (some (y1, (8 : Nat))) :: AV.str y2 :: AV.int IntKind.i64 y3 :: AV.ptr (some (y4, (9 : Nat))) :: AV.str y5 :: AV.int IntKind.i64 y6 :: AV.int IntKind.i64 y7 :: AV.ptr (some (y8, (10 : Nat))) :: AV.str y9 :: AV.int IntKind.i64 y10 :: AV.int IntKind.i64 y11 :: AV.bool y12 :: AV.bool y13 :: AV.tuple [] :: AV.tuple [] :: AV.tuple [] :: AV.tuple [] :: AV.bool y14 :: Env.sp 50 []))
def f4e4 (y0 : Nat) (y1 : Nat) (y2 : ByteArray) (y3 : Int) (y4 : Nat) (y5 : ByteArray) (y6 : Int) (y7 : Int) (y8 : Nat) (y9 : ByteArray) (y10 : Int) (y11 : Int) (y12 : Bool) (y13 : Bool) (y14 : Nat) (y15 : ByteArray) (y16 : Int) (y17 : Bool) (y18 : Bool) : Env := Env.sp 1 (AV.ptr (some (y0, (0 : Nat))) :: Env.sp 6 (AV.ptr (some (y1, (8 : Nat))) :: AV.str y2 :: AV.int IntKind.i64 y3 :: AV.ptr (some (y4, (9 : Nat))) :: AV.str y5 :: AV.int IntKind.i64 y6 :: AV.int IntKind.i64 y7 :: AV.ptr (some (y8, (10 : Nat))) :: AV.str y9 :: AV.int IntKind.i64 y10 :: AV.int IntKind.i64 y11 :: AV.bool y12 :: AV.bool y13 :: AV.ptr (some (y14, (11 : Nat))) :: AV.str y15 :: AV.int IntKind.i64 y16 :: AV.bool y17 :: AV.bool y18 :: Env.sp 50 []))
def f4e5 (y0 : Nat) (y1 : Bool) : Env := Env.sp 1 (AV.ptr (some (y0, (0 : Nat))) :: Env.sp 23 (AV.bool y1 :: Env.sp 50 []))
def f4e6 (y0 : Nat) (y1 : Bool) (y2 : Bool) (y3 : Bool) : Env := Env.sp 1 (AV.ptr (some (y0, (0 : Nat))) :: AV.bool y1 :: Env.sp 22 (AV.bool y2 :: AV.bool y3 :: Env.sp 49 []))
def f4e7 (y0 : Bool) : Env := Env.sp 2 (AV.bool y0 :: Env.sp 73 [])
def f4e8 (y0 : Nat) (y1 : ByteArray) (y2 : Int) (y3 : ByteArray) (y4 : Int) (y5 : Int) (y6 : Int) (y7 : Int) (y8 : Int) (y9 : Int) (y10 : Int) (y11 : Int) (y12 : Int) (y13 : ByteArray) (y14 : ByteArray) (y15 : ByteArray) (y16 : ByteArray) (y17 : Int) (y18 : Int) (y19 : Int) (y20 : Int) (y21 : Int) (y22 : Int) (y23 : Int) (y24 : Int) (y25 : ByteArray) (y26 : ByteArray) (y27 : ByteArray) (y28 : ByteArray) (y29 : Option (Nat × Nat)) (y30 : Nat) (y31 : Option Nat) (y32 : Int) (y33 : Int) (y34 : Int) (y35 : ByteArray) (y36 : Option (Nat × Nat)) (y37 : Nat) (y38 : Option Nat) (y39 : Option (Nat × Nat)) (y40 : Nat) (y41 : Option Nat) (y42 : ByteArray) (y43 : Int) (y44 : ByteArray) (y45 : Int) : Env := Env.sp 1 (AV.ptr (some (y0, (0 : Nat))) :: Env.sp 1 (AV.str y1 :: AV.int IntKind.i64 y2 :: Env.sp 22 (AV.tuple [AV.str y3, AV.int IntKind.i64 y4] :: AV.agg
  [AV.int IntKind.i64 y5, AV.int IntKind.i64 y6, AV.int IntKind.i64 y7, AV.int IntKind.i64 y8, AV.int IntKind.i64 y9, AV.int IntKind.i64 y10,
    AV.int IntKind.i64 y11, AV.int IntKind.i64 y12, AV.str y13, AV.str y14, AV.str y15, AV.str y16] :: AV.agg
  [AV.int IntKind.i64 y17, AV.int IntKind.i64 y18, AV.int IntKind.i64 y19, AV.int IntKind.i64 y20, AV.int IntKind.i64 y21, AV.int IntKind.i64 y22,
    AV.int IntKind.i64 y23, AV.int IntKind.i64 y24, AV.str y25, AV.str y26, AV.str y27, AV.str y28] :: AV.slice y29 y30 y31 (12 : Nat) :: AV.agg
  [AV.int IntKind.i64 y32, AV.int IntKind.i64 y33, AV.int IntKind.i64 y34, AV.str y35, AV.slice y36 y37 y38 (1 : Nat),
    AV.slice y39 y40 y41 (12 : Nat)] :: AV.tuple [AV.str y42, AV.int IntKind.i64 y43] :: AV.str y44 :: AV.int IntKind.i64 y45 :: Env.sp 41 [])))
def f4e9 (y0 : Nat) (y1 : ByteArray) (y2 : Int) : Env := Env.sp 1 (AV.ptr (some (y0, (0 : Nat))) :: Env.sp 1 (AV.str y1 :: AV.int IntKind.i64 y2 :: Env.sp 71 []))
def f4e10 (y0 : Nat) (y1 : ByteArray) (y2 : Int) (y3 : Nat) (y4 : Int) (y5 : Int) (y6 : Int) (y7 : Int) (y8 : Int) (y9 : ByteArray) (y10 : Option (Nat × Nat)) (y11 : Nat) (y12 : Option Nat) (y13 : Option (Nat × Nat)) (y14 : Nat) (y15 : Option Nat) (y16 : Int) (y17 : Int) (y18 : ByteArray) (y19 : Int) (y20 : Int) (y21 : Int) (y22 : ByteArray) (y23 : Option (Nat × Nat)) (y24 : Nat) (y25 : Option Nat) (y26 : Option (Nat × Nat)) (y27 : Nat) (y28 : Option Nat) (y29 : Int) (y30 : Int) (y31 : Int) (y32 : Int) (y33 : Int) (y34 : ByteArray) (y35 : Option (Nat × Nat)) (y36 : Nat) (y37 : Option Nat) (y38 : Option (Nat × Nat)) (y39 : Nat) (y40 : Option Nat) (y41 : Int) (y42 : Int) : Env := Env.sp 1 (AV.ptr (some (y0, (0 : Nat))) :: Env.sp 1 (AV.str y1 :: AV.int IntKind.i64 y2 :: AV.ptr (some (y3, (0 : Nat))) :: AV.int IntKind.i64 y4 :: AV.int IntKind.i64 y5 :: Env.sp 27 (AV.tuple
  [AV.agg
      [AV.int IntKind.i64 y6, AV.int IntKind.i64 y7, AV.int IntKind.i64 y8, AV.str y9, AV.slice y10 y11 y12 (1 : Nat),
        AV.slice y13 y14 y15 (12 : Nat)],
    AV.int IntKind.i64 y16, AV.int IntKind.i64 y17] :: AV.str y18 :: AV.tuple
  [AV.agg
      [AV.int IntKind.i64 y19, AV.int IntKind.i64 y20, AV.int IntKind.i64 y21, AV.str y22, AV.slice y23 y24 y25 (1 : Nat),
        AV.slice y26 y27 y28 (12 : Nat)],
    AV.int IntKind.i64 y29, AV.int IntKind.i64 y30] :: AV.agg
  [AV.int IntKind.i64 y31, AV.int IntKind.i64 y32, AV.int IntKind.i64 y33, AV.str y34, AV.slice y35 y36 y37 (1 : Nat),
    AV.slice y38 y39 y40 (12 : Nat)] :: AV.int IntKind.i64 y41 :: AV.int IntKind.i64 y42 :: Env.sp 35 [])))
def f4e11 (y0 : Nat) (y1 : Int) (y2 : Nat) (y3 : Int) (y4 : Int) : Env := Env.sp 1 (AV.ptr (some (y0, (0 : Nat))) :: Env.sp 2 (AV.int IntKind.i64 y1 :: AV.ptr (some (y2, (0 : Nat))) :: AV.int IntKind.i64 y3 :: AV.int IntKind.i64 y4 :: Env.sp 68 []))
def f4e12 (y0 : Nat) (y1 : Bool) (y2 : Int) (y3 : Nat) (y4 : Int) (y5 : Int) (y6 : Int) (y7 : Bool) (y8 : Bool) (y9 : Int) (y10 : Bool) (y11 : Bool) (y12 : Bool) (y13 : Int) (y14 : Bool) (y15 : Bool) (y16 : Bool) (y17 : Nat) (y18 : Option (Nat × Nat)) (y19 : Nat) (y20 : Option Nat) (y21 : Int) (y22 : Bool) (y23 : Bool) (y24 : Bool) (y25 : Nat) (y26 : Option (Nat × Nat)) (y27 : Nat) (y28 : Option Nat) (y29 : Option (Nat × Nat)) (y30 : Int) (y31 : Int) (y32 : Int) (y33 : Int) (y34 : Int) (y35 : Int) (y36 : Int) (y37 : Int) (y38 : ByteArray) (y39 : ByteArray) (y40 : ByteArray) (y41 : ByteArray) (y42 : Int) (y43 : Int) (y44 : Int) (y45 : Int) (y46 : Int) (y47 : Int) (y48 : Int) (y49 : Int) (y50 : ByteArray) (y51 : ByteArray) (y52 : ByteArray) (y53 : ByteArray) (y54 : Bool) (y55 : Bool) (y56 : Bool) (y57 : Nat) (y58 : Option (Nat × Nat)) (y59 : Nat) (y60 : Option Nat) (y61 : Option (Nat × Nat)) (y62 : Int) (y63 : Int) (y64 : Int) (y65 : Int) (y66 : Int) (y67 : Int) (y68 : Int) (y69 : Int) (y70 : ByteArray) (y71 : ByteArray) (y72 : ByteArray) (y73 : ByteArray) (y74 : Int) (y75 : Int) (y76 : Int) (y77 : Int) (y78 : Int) (y79 : Int) (y80 : Int) (y81 : Int) (y82 : ByteArray) (y83 : ByteArray) (y84 : ByteArray) (y85 : ByteArray) (y86 : Bool) (y87 : Bool) (y88 : Bool) (y89 : Bool) (y90 : Bool) : Env := Env.sp 1 (AV.ptr (some (y0, (0 : Nat))) :: AV.bool y1 :: Env.sp 1 (AV.int IntKind.i64 y2 :: AV.ptr (some (y3, (0 : Nat))) :: AV.int IntKind.i64 y4 :: AV.int IntKind.i64 y5 :: Env.sp 33 (AV.int IntKind.i64 y6 :: AV.bool y7 :: AV.bool y8 :: AV.int IntKind.i64 y9 :: AV.bool y10 :: AV.bool y11 :: AV.bool y12 :: AV.int IntKind.i64 y13 :: AV.bool y14 :: AV.bool y15 :: AV.bool y16 :: AV.ptr (some (y17, (5 : Nat))) :: AV.slice y18 y19 y20 (12 : Nat) :: AV.int IntKind.i64 y21 :: AV.bool y22 :: AV.bool y23 :: AV.bool y24 :: AV.ptr (some (y25, (5 : Nat))) :: AV.slice y26 y27 y28 (12 : Nat) :: AV.ptr y29 :: AV.agg
  [AV.int IntKind.i64 y30, AV.int IntKind.i64 y31, AV.int IntKind.i64 y32, AV.int IntKind.i64 y33, AV.int IntKind.i64 y34, AV.int IntKind.i64 y35,
    AV.int IntKind.i64 y36, AV.int IntKind.i64 y37, AV.str y38, AV.str y39, AV.str y40, AV.str y41] :: AV.agg
  [AV.int IntKind.i64 y42, AV.int IntKind.i64 y43, AV.int IntKind.i64 y44, AV.int IntKind.i64 y45, AV.int IntKind.i64 y46, AV.int IntKind.i64 y47,
    AV.int IntKind.i64 y48, AV.int IntKind.i64 y49, AV.str y50, AV.str y51, AV.str y52, AV.str y53] :: AV.bool y54 :: AV.bool y55 :: AV.bool y56 :: AV.ptr (some (y57, (5 : Nat))) :: AV.slice y58 y59 y60 (12 : Nat) :: AV.ptr y61 :: AV.agg
  [AV.int IntKind.i64 y62, AV.int IntKind.i64 y63, AV.int IntKind.i64 y64, AV.int IntKind.i64 y65, AV.int IntKind.i64 y66, AV.int IntKind.i64 y67,
    AV.int IntKind.i64 y68, AV.int IntKind.i64 y69, AV.str y70, AV.str y71, AV.str y72, AV.str y73] :: AV.agg
  [AV.int IntKind.i64 y74, AV.int IntKind.i64 y75, AV.int IntKind.i64 y76, AV.int IntKind.i64 y77, AV.int IntKind.i64 y78, AV.int IntKind.i64 y79,
    AV.int IntKind.i64 y80, AV.int IntKind.i64 y81, AV.str y82, AV.str y83, AV.str y84, AV.str y85] :: AV.bool y86 :: AV.bool y87 :: AV.bool y88 :: AV.bool y89 :: AV.bool y90 :: [])))
def f4e13 (y0 : Nat) (y1 : Bool) (y2 : Int) (y3 : Nat) (y4 : Int) (y5 : Int) (y6 : Int) (y7 : Bool) (y8 : Bool) (y9 : Int) (y10 : Bool) (y11 : Bool) (y12 : Bool) (y13 : Int) (y14 : Bool) (y15 : Bool) (y16 : Bool) (y17 : Nat) (y18 : Option (Nat × Nat)) (y19 : Nat) (y20 : Option Nat) (y21 : Int) (y22 : Bool) (y23 : Bool) (y24 : Bool) (y25 : Nat) (y26 : Option (Nat × Nat)) (y27 : Nat) (y28 : Option Nat) (y29 : Option (Nat × Nat)) (y30 : Int) (y31 : Int) (y32 : Int) (y33 : Int) (y34 : Int) (y35 : Int) (y36 : Int) (y37 : Int) (y38 : ByteArray) (y39 : ByteArray) (y40 : ByteArray) (y41 : ByteArray) (y42 : Int) (y43 : Int) (y44 : Int) (y45 : Int) (y46 : Int) (y47 : Int) (y48 : Int) (y49 : Int) (y50 : ByteArray) (y51 : ByteArray) (y52 : ByteArray) (y53 : ByteArray) (y54 : Bool) (y55 : Bool) (y56 : Bool) (y57 : Nat) (y58 : Option (Nat × Nat)) (y59 : Nat) (y60 : Option Nat) (y61 : Option (Nat × Nat)) (y62 : Int) (y63 : Int) (y64 : Int) (y65 : Int) (y66 : Int) (y67 : Int) (y68 : Int) (y69 : Int) (y70 : ByteArray) (y71 : ByteArray) (y72 : ByteArray) (y73 : ByteArray) (y74 : Int) (y75 : Int) (y76 : Int) (y77 : Int) (y78 : Int) (y79 : Int) (y80 : Int) (y81 : Int) (y82 : ByteArray) (y83 : ByteArray) (y84 : ByteArray) (y85 : ByteArray) (y86 : Bool) (y87 : Bool) (y88 : Bool) (y89 : Bool) : Env := Env.sp 1 (AV.ptr (some (y0, (0 : Nat))) :: AV.bool y1 :: Env.sp 1 (AV.int IntKind.i64 y2 :: AV.ptr (some (y3, (0 : Nat))) :: AV.int IntKind.i64 y4 :: AV.int IntKind.i64 y5 :: Env.sp 33 (AV.int IntKind.i64 y6 :: AV.bool y7 :: AV.bool y8 :: AV.int IntKind.i64 y9 :: AV.bool y10 :: AV.bool y11 :: AV.bool y12 :: AV.int IntKind.i64 y13 :: AV.bool y14 :: AV.bool y15 :: AV.bool y16 :: AV.ptr (some (y17, (5 : Nat))) :: AV.slice y18 y19 y20 (12 : Nat) :: AV.int IntKind.i64 y21 :: AV.bool y22 :: AV.bool y23 :: AV.bool y24 :: AV.ptr (some (y25, (5 : Nat))) :: AV.slice y26 y27 y28 (12 : Nat) :: AV.ptr y29 :: AV.agg
  [AV.int IntKind.i64 y30, AV.int IntKind.i64 y31, AV.int IntKind.i64 y32, AV.int IntKind.i64 y33, AV.int IntKind.i64 y34, AV.int IntKind.i64 y35,
    AV.int IntKind.i64 y36, AV.int IntKind.i64 y37, AV.str y38, AV.str y39, AV.str y40, AV.str y41] :: AV.agg
  [AV.int IntKind.i64 y42, AV.int IntKind.i64 y43, AV.int IntKind.i64 y44, AV.int IntKind.i64 y45, AV.int IntKind.i64 y46, AV.int IntKind.i64 y47,
    AV.int IntKind.i64 y48, AV.int IntKind.i64 y49, AV.str y50, AV.str y51, AV.str y52, AV.str y53] :: AV.bool y54 :: AV.bool y55 :: AV.bool y56 :: AV.ptr (some (y57, (5 : Nat))) :: AV.slice y58 y59 y60 (12 : Nat) :: AV.ptr y61 :: AV.agg
  [AV.int IntKind.i64 y62, AV.int IntKind.i64 y63, AV.int IntKind.i64 y64, AV.int IntKind.i64 y65, AV.int IntKind.i64 y66, AV.int IntKind.i64 y67,
    AV.int IntKind.i64 y68, AV.int IntKind.i64 y69, AV.str y70, AV.str y71, AV.str y72, AV.str y73] :: AV.agg
  [AV.int IntKind.i64 y74, AV.int IntKind.i64 y75, AV.int IntKind.i64 y76, AV.int IntKind.i64 y77, AV.int IntKind.i64 y78, AV.int IntKind.i64 y79,
    AV.int IntKind.i64 y80, AV.int IntKind.i64 y81, AV.str y82, AV.str y83, AV.str y84, AV.str y85] :: AV.bool y86 :: AV.bool y87 :: AV.bool y88 :: AV.tuple [] :: AV.bool y89 :: [])))
def f4e14 (y0 : Nat) (y1 : Bool) (y2 : Int) (y3 : Nat) (y4 : Int) (y5 : Int) (y6 : Int) (y7 : Bool) (y8 : Bool) (y9 : Int) (y10 : Bool) (y11 : Bool) (y12 : Bool) (y13 : Int) (y14 : Bool) (y15 : Bool) (y16 : Bool) (y17 : Nat) (y18 : Option (Nat × Nat)) (y19 : Nat) (y20 : Option Nat) (y21 : Int) (y22 : Bool) (y23 : Bool) (y24 : Bool) (y25 : Nat) (y26 : Option (Nat × Nat)) (y27 : Nat) (y28 : Option Nat) (y29 : Option (Nat × Nat)) (y30 : Int) (y31 : Int) (y32 : Int) (y33 : Int) (y34 : Int) (y35 : Int) (y36 : Int) (y37 : Int) (y38 : ByteArray) (y39 : ByteArray) (y40 : ByteArray) (y41 : ByteArray) (y42 : Int) (y43 : Int) (y44 : Int) (y45 : Int) (y46 : Int) (y47 : Int) (y48 : Int) (y49 : Int) (y50 : ByteArray) (y51 : ByteArray) (y52 : ByteArray) (y53 : ByteArray) (y54 : Bool) (y55 : Bool) (y56 : Bool) (y57 : Bool) (y58 : Bool) (y59 : Bool) : Env := Env.sp 1 (AV.ptr (some (y0, (0 : Nat))) :: AV.bool y1 :: Env.sp 1 (AV.int IntKind.i64 y2 :: AV.ptr (some (y3, (0 : Nat))) :: AV.int IntKind.i64 y4 :: AV.int IntKind.i64 y5 :: Env.sp 33 (AV.int IntKind.i64 y6 :: AV.bool y7 :: AV.bool y8 :: AV.int IntKind.i64 y9 :: AV.bool y10 :: AV.bool y11 :: AV.bool y12 :: AV.int IntKind.i64 y13 :: AV.bool y14 :: AV.bool y15 :: AV.bool y16 :: AV.ptr (some (y17, (5 : Nat))) :: AV.slice y18 y19 y20 (12 : Nat) :: AV.int IntKind.i64 y21 :: AV.bool y22 :: AV.bool y23 :: AV.bool y24 :: AV.ptr (some (y25, (5 : Nat))) :: AV.slice y26 y27 y28 (12 : Nat) :: AV.ptr y29 :: AV.agg
  [AV.int IntKind.i64 y30, AV.int IntKind.i64 y31, AV.int IntKind.i64 y32, AV.int IntKind.i64 y33, AV.int IntKind.i64 y34, AV.int IntKind.i64 y35,
    AV.int IntKind.i64 y36, AV.int IntKind.i64 y37, AV.str y38, AV.str y39, AV.str y40, AV.str y41] :: AV.agg
  [AV.int IntKind.i64 y42, AV.int IntKind.i64 y43, AV.int IntKind.i64 y44, AV.int IntKind.i64 y45, AV.int IntKind.i64 y46, AV.int IntKind.i64 y47,
    AV.int IntKind.i64 y48, AV.int IntKind.i64 y49, AV.str y50, AV.str y51, AV.str y52, AV.str y53] :: AV.bool y54 :: AV.bool y55 :: AV.bool y56 :: AV.tuple [] :: AV.tuple [] :: AV.tuple [] :: AV.tuple [] :: AV.tuple [] :: AV.tuple [] :: AV.bool y57 :: AV.bool y58 :: AV.tuple [] :: AV.bool y59 :: [])))
def f4e15 (y0 : Nat) (y1 : Bool) (y2 : Int) (y3 : Nat) (y4 : Int) (y5 : Int) (y6 : Int) (y7 : Bool) (y8 : Bool) (y9 : Int) (y10 : Bool) (y11 : Bool) (y12 : Bool) (y13 : Int) (y14 : Bool) (y15 : Bool) (y16 : Bool) (y17 : Nat) (y18 : Option (Nat × Nat)) (y19 : Nat) (y20 : Option Nat) (y21 : Int) (y22 : Bool) (y23 : Bool) (y24 : Bool) (y25 : Bool) (y26 : Bool) (y27 : Bool) (y28 : Bool) (y29 : Bool) : Env := Env.sp 1 (AV.ptr (some (y0, (0 : Nat))) :: AV.bool y1 :: Env.sp 1 (AV.int IntKind.i64 y2 :: AV.ptr (some (y3, (0 : Nat))) :: AV.int IntKind.i64 y4 :: AV.int IntKind.i64 y5 :: Env.sp 33 (AV.int IntKind.i64 y6 :: AV.bool y7 :: AV.bool y8 :: AV.int IntKind.i64 y9 :: AV.bool y10 :: AV.bool y11 :: AV.bool y12 :: AV.int IntKind.i64 y13 :: AV.bool y14 :: AV.bool y15 :: AV.bool y16 :: AV.ptr (some (y17, (5 : Nat))) :: AV.slice y18 y19 y20 (12 : Nat) :: AV.int IntKind.i64 y21 :: AV.bool y22 :: AV.bool y23 :: AV.bool y24 :: AV.tuple [] :: AV.tuple [] :: AV.tuple [] :: AV.tuple [] :: AV.tuple [] :: AV.tuple [] :: AV.bool y25 :: AV.bool y26 :: AV.tuple [] :: AV.tuple [] :: AV.tuple [] :: AV.tuple [] :: AV.tuple [] :: AV.tuple [] :: AV.bool y27 :: AV.bool y28 :: AV.tuple [] :: AV.bool y29 :: [])))
def f4e16 (y0 : Nat) (y1 : Bool) (y2 : Int) (y3 : Nat) (y4 : Int) (y5 : Int) (y6 : Int) (y7 : Bool) (y8 : Bool) (y9 : Int) (y10 : Bool) (y11 : Bool) (y12 : Bool) (y13 : Int) (y14 : Bool) (y15 : Bool) (y16 : Bool) (y17 : Bool) (y18 : Bool) (y19 : Bool) (y20 : Bool) (y21 : Bool) (y22 : Bool) (y23 : Bool) : Env := Env.sp 1 (AV.ptr (some (y0, (0 : Nat))) :: AV.bool y1 :: Env.sp 1 (AV.int IntKind.i64 y2 :: AV.ptr (some (y3, (0 : Nat))) :: AV.int IntKind.i64 y4 :: AV.int IntKind.i64 y5 :: Env.sp 33 (AV.int IntKind.i64 y6 :: AV.bool y7 :: AV.bool y8 :: AV.int IntKind.i64 y9 :: AV.bool y10 :: AV.bool y11 :: AV.bool y12 :: AV.int IntKind.i64 y13 :: AV.bool y14 :: AV.bool y15 :: AV.bool y16 :: AV.tuple [] :: AV.tuple [] :: AV.tuple [] :: AV.tuple [] :: AV.bool y17 :: AV.bool y18 :: AV.tuple [] :: AV.tuple [] :: AV.tuple [] :: AV.tuple [] :: AV.tuple [] :: AV.tuple [] :: AV.bool y19 :: AV.bool y20 :: AV.tuple [] :: AV.tuple [] :: AV.tuple [] :: AV.tuple [] :: AV.tuple [] :: AV.tuple [] :: AV.bool y21 :: AV.bool y22 :: AV.tuple [] :: AV.bool y23 :: [])))
def f4e17 (y0 : Nat) (y1 : Bool) (y2 : Int) (y3 : Nat) (y4 : Int) (y5 : Int) (y6 : Int) (y7 : Bool) (y8 : Bool) (y9 : Int) (y10 : Bool) (y11 : Bool) (y12 : Bool) (y13 : Bool) (y14 : Bool) (y15 : Bool) (y16 : Bool) (y17 : Bool) (y18 : Bool) (y19 : Bool) (y20 : Bool) (y21 : Bool) : Env := Env.sp 1 (AV.ptr (some (y0, (0 : Nat))) :: AV.bool y1 :: Env.sp 1 (AV.int IntKind.i64 y2 :: AV.ptr (some (y3, (0 : Nat))) :: AV.int IntKind.i64 y4 :: AV.int IntKind.i64 y5 :: Env.sp 33 (AV.int IntKind.i64 y6 :: AV.bool y7 :: AV.bool y8 :: AV.int IntKind.i64 y9 :: AV.bool y10 :: AV.bool y11 :: AV.bool y12 :: AV.tuple [] :: AV.tuple [] :: AV.bool y13 :: AV.bool y14 :: AV.tuple [] :: AV.tuple [] :: AV.tuple [] :: AV.tuple [] :: AV.bool y15 :: AV.bool y16 :: AV.tuple [] :: AV.tuple [] :: AV.tuple [] :: AV.tuple [] :: AV.tuple [] :: AV.tuple [] :: AV.bool y17 :: AV.bool y18 :: AV.tuple [] :: AV.tuple [] :: AV.tuple [] :: AV.tuple [] :: AV.tuple [] :: AV.tuple [] :: AV.bool y19 :: AV.bool y20 :: AV.tuple [] :: AV.bool y21 :: [])))
def f4e18 (y0 : Nat) (y1 : Bool) (y2 : Int) (y3 : Nat) (y4 : Int) (y5 : Int) (y6 : Int) (y7 : Bool) (y8 : Bool) (y9 : Bool) (y10 : Bool) (y11 : Bool) (y12 : Bool) (y13 : Bool) (y14 : Bool) (y15 : Bool) (y16 : Bool) (y17 : Bool) (y18 : Bool) (y19 : Bool) : Env := Env.sp 1 (AV.ptr (some (y0, (0 : Nat))) :: AV.bool y1 :: Env.sp 1 (AV.int IntKind.i64 y2 :: AV.ptr (some (y3, (0 : Nat))) :: AV.int IntKind.i64 y4 :: AV.int IntKind.i64 y5 :: Env.sp 33 (AV.int IntKind.i64 y6 :: AV.bool y7 :: AV.bool y8 :: AV.tuple [] :: AV.tuple [] :: AV.bool y9 :: AV.bool y10 :: AV.tuple [] :: AV.tuple [] :: AV.bool y11 :: AV.bool y12 :: AV.tuple [] :: AV.tuple [] :: AV.tuple [] :: AV.tuple [] :: AV.bool y13 :: AV.bool y14 :: AV.tuple [] :: AV.tuple [] :: AV.tuple [] :: AV.tuple [] :: AV.tuple [] :: AV.tuple [] :: AV.bool y15 :: AV.bool y16 :: AV.tuple [] :: AV.tuple [] :: AV.tuple [] :: AV.tuple [] :: AV.tuple [] :: AV.tuple [] :: AV.bool y17 :: AV.bool y18 :: AV.tuple [] :: AV.bool y19 :: [])))

/- function 4 -/
theorem f4_eq {R : Type} (call : Bool → CallF R) (dem : Bool) (N : Nat) (y0 : Int) (y1 : Int) (y2 : Int) (y3 : Int) (y4 : Int) (y5 : Int) (y6 : Int) (y7 : Int) (y8 : ByteArray) (y9 : ByteArray) (y10 : ByteArray) (y11 : ByteArray) (σ : St) (K : AV → St → Option R) :
    bodyK Tryz.prog call dem N ann 4 [AV.agg
    [AV.int IntKind.i64 y0, AV.int IntKind.i64 y1, AV.int IntKind.i64 y2, AV.int IntKind.i64 y3, AV.int IntKind.i64 y4, AV.int IntKind.i64 y5,
      AV.int IntKind.i64 y6, AV.int IntKind.i64 y7, AV.str y8, AV.str y9, AV.str y10, AV.str y11]] σ K = runK Tryz.prog call dem N f4c0 f4a0 (bodyC Tryz.prog f4rs K) (f4e0 y0 y1 y2 y3 y4 y5 y6 y7 y8 y9 y10 y11) σ := bodyK_of (fn := ((Tryz.prog.funcs[4]?).get rfl)) (by kernel_rfl) (by kernel_rfl) (by kernel_rfl) (by kernel_rfl) (by kernel_rfl) (by kernel_rfl)
theorem f4n0 {R : Type} (call : Bool → CallF R) (dem : Bool) (N : Nat) (J : KF R) (e : Env) (σ : St) : runK Tryz.prog call dem N f4c0 f4a0 J e σ = runK Tryz.prog call dem N f4c1 f4a1 (seqC (fun K e σ => runK Tryz.prog call dem N f4c2 f4a2 K e σ) f4a0 J) e σ := runK_seq' (by kernel_rfl) (by kernel_rfl) (by kernel_rfl)
theorem f4r1_f4e0 {R : Type} (call : Bool → CallF R) (dem : Bool) (N : Nat) (y0 : Int) (y1 : Int) (y2 : Int) (y3 : Int) (y4 : Int) (y5 : Int) (y6 : Int) (y7 : Int) (y8 : ByteArray) (y9 : ByteArray) (y10 : ByteArray) (y11 : ByteArray) (J : KF R) (σ : St) :
    runK Tryz.prog call dem N f4c1 f4a1 J (f4e0 y0 y1 y2 y3 y4 y5 y6 y7 y8 y9 y10 y11) σ =
J Ex.normal (f4e1 y0 y1 y2 y3 y4 y5 y6 y7 y8 y9 y10 y11 (St.next σ) false)
  (St.new σ
    (Blk.cells
      [AV.int IntKind.i64 y0, AV.int IntKind.i64 y1, AV.int IntKind.i64 y2, AV.int IntKind.i64 y3, AV.int IntKind.i64 y4, AV.int IntKind.i64 y5,
        AV.int IntKind.i64 y6, AV.int IntKind.i64 y7, AV.str y8, AV.str y9, AV.str y10, AV.str y11]
      true)) := hide (by kernel_rfl)
theorem f4z0_f4e1 (y0 : Int) (y1 : Int) (y2 : Int) (y3 : Int) (y4 : Int) (y5 : Int) (y6 : Int) (y7 : Int) (y8 : ByteArray) (y9 : ByteArray) (y10 : ByteArray) (y11 : ByteArray) (y12 : Nat) (y13 : Bool) : Ann.clr f4a0 (f4e1 y0 y1 y2 y3 y4 y5 y6 y7 y8 y9 y10 y11 y12 y13) = f4e2 y12 := hide (by kernel_rfl)
theorem f4n2 {R : Type} (call : Bool → CallF R) (dem : Bool) (N : Nat) (J : KF R) (e : Env) (σ : St) : runK Tryz.prog call dem N f4c2 f4a2 J e σ = runK Tryz.prog call dem N f4c3 f4a3 (seqC (fun K e σ => runK Tryz.prog call dem N f4c4 f4a4 K e σ) f4a2 J) e σ := runK_seq' (by kernel_rfl) (by kernel_rfl) (by kernel_rfl)
theorem f4n3 {R : Type} (call : Bool → CallF R) (dem : Bool) (N : Nat) (J : KF R) (e : Env) (σ : St) : runK Tryz.prog call dem N f4c3 f4a3 J e σ = runK Tryz.prog call dem N f4c5 f4a5 (seqC (fun K e σ => runK Tryz.prog call dem N f4c6 f4a6 K e σ) f4a3 J) e σ := runK_seq' (by kernel_rfl) (by kernel_rfl) (by kernel_rfl)
theorem f4r5_f4e2 {R : Type} (call : Bool → CallF R) (dem : Bool) (N : Nat) (y0 : Nat) (J : KF R) (σ : St) :
    runK Tryz.prog call dem N f4c5 f4a5 J (f4e2 y0) σ =
Option.bind (St.ld σ y0 (8 : Nat)) fun v0 =>
  Option.bind (AV.toStr v0) fun v1 =>
    Option.bind (St.ld σ y0 (9 : Nat)) fun v2 =>
      Option.bind (AV.toStr v2) fun v3 =>
        Option.bind (St.ld σ y0 (10 : Nat)) fun v4 =>
          Option.bind (AV.toStr v4) fun v5 =>
            if
                decide
                    (IntKind.wrap IntKind.i64
                        (IntKind.wrap IntKind.i64 ((↑(ByteArray.size v1) : Int) + (↑(ByteArray.size v3) : Int)) + (↑(ByteArray.size v5) : Int)) >
                      (5000 : Int)) =
                  true then
              J Ex.normal
                (f4e3 y0 y0 v1 (↑(ByteArray.size v1) : Int) y0 v3 (↑(ByteArray.size v3) : Int)
                  (IntKind.wrap IntKind.i64 ((↑(ByteArray.size v1) : Int) + (↑(ByteArray.size v3) : Int))) y0 v5 (↑(ByteArray.size v5) : Int)
                  (IntKind.wrap IntKind.i64
                    (IntKind.wrap IntKind.i64 ((↑(ByteArray.size v1) : Int) + (↑(ByteArray.size v3) : Int)) + (↑(ByteArray.size v5) : Int)))
                  (decide
                    (IntKind.wrap IntKind.i64
                        (IntKind.wrap IntKind.i64 ((↑(ByteArray.size v1) : Int) + (↑(ByteArray.size v3) : Int)) + (↑(ByteArray.size v5) : Int)) >
                      (5000 : Int)))
                  true true)
                σ
            else
              Option.bind (St.ld σ y0 (11 : Nat)) fun v6 =>
                Option.bind (AV.toStr v6) fun v7 =>
                  J Ex.normal
                    (f4e4 y0 y0 v1 (↑(ByteArray.size v1) : Int) y0 v3 (↑(ByteArray.size v3) : Int)
                      (IntKind.wrap IntKind.i64 ((↑(ByteArray.size v1) : Int) + (↑(ByteArray.size v3) : Int))) y0 v5 (↑(ByteArray.size v5) : Int)
                      (IntKind.wrap IntKind.i64
                        (IntKind.wrap IntKind.i64 ((↑(ByteArray.size v1) : Int) + (↑(ByteArray.size v3) : Int)) + (↑(ByteArray.size v5) : Int)))
                      (decide
                        (IntKind.wrap IntKind.i64
                            (IntKind.wrap IntKind.i64 ((↑(ByteArray.size v1) : Int) + (↑(ByteArray.size v3) : Int)) + (↑(ByteArray.size v5) : Int)) >
                          (5000 : Int)))
                      false y0 v7 (↑(ByteArray.size v7) : Int) (decide ((↑(ByteArray.size v7) : Int) > (5000 : Int)))
                      (decide ((↑(ByteArray.size v7) : Int) > (5000 : Int))))
                    σ := hide (by kernel_rfl)
theorem f4z3_f4e3 (y0 : Nat) (y1 : Nat) (y2 : ByteArray) (y3 : Int) (y4 : Nat) (y5 : ByteArray) (y6 : Int) (y7 : Int) (y8 : Nat) (y9 : ByteArray) (y10 : Int) (y11 : Int) (y12 : Bool) (y13 : Bool) (y14 : Bool) : Ann.clr f4a3 (f4e3 y0 y1 y2 y3 y4 y5 y6 y7 y8 y9 y10 y11 y12 y13 y14) = f4e5 y0 y14 := hide (by kernel_rfl)
theorem f4x6_f4e5 {R : Type} (call : Bool → CallF R) (dem : Bool) (N : Nat) (y0 : Nat) (y1 : Bool) (J : KF R) (σ : St) : runK Tryz.prog call dem N f4c6 f4a6 J (f4e5 y0 y1) σ = if y1 = true then runK Tryz.prog call dem N f4c7 f4a7 (condC f4a6 J) (f4e5 y0 y1) σ else runK Tryz.prog call dem N f4c8 f4a8 (condC f4a6 J) (f4e5 y0 y1) σ := runK_cond' (o := Operand.tmp (25 : Nat)) (by kernel_rfl) (by kernel_rfl) (by kernel_rfl) (by kernel_rfl)
theorem f4n7 {R : Type} (call : Bool → CallF R) (dem : Bool) (N : Nat) (J : KF R) (e : Env) (σ : St) : runK Tryz.prog call dem N f4c7 f4a7 J e σ = runK Tryz.prog call dem N f4c9 f4a9 (seqC (fun K e σ => runK Tryz.prog call dem N f4c10 f4a10 K e σ) f4a7 J) e σ := runK_seq' (by kernel_rfl) (by kernel_rfl) (by kernel_rfl)
theorem f4r9_f4e5 {R : Type} (call : Bool → CallF R) (dem : Bool) (N : Nat) (y0 : Nat) (y1 : Bool) (J : KF R) (σ : St) :
    runK Tryz.prog call dem N f4c9 f4a9 J (f4e5 y0 y1) σ =
call dem (6 : Nat) [] σ fun v0 v1 => Option.bind (AV.toBool v0) fun v2 => J Ex.normal (f4e6 y0 v2 y1 v2) v1 := hide (by kernel_rfl)
theorem f4z7_f4e6 (y0 : Nat) (y1 : Bool) (y2 : Bool) (y3 : Bool) : Ann.clr f4a7 (f4e6 y0 y1 y2 y3) = f4e7 y1 := hide (by kernel_rfl)
theorem f4y10_f4e7 {R : Type} (call : Bool → CallF R) (dem : Bool) (N : Nat) (y0 : Bool) (J : KF R) (σ : St) : runK Tryz.prog call dem N f4c10 f4a10 J (f4e7 y0) σ = J .ret (f4e7 y0) σ := runK_ret' (by kernel_rfl) (by kernel_rfl)
theorem f4n8 {R : Type} (call : Bool → CallF R) (dem : Bool) (N : Nat) (J : KF R) (e : Env) (σ : St) : runK Tryz.prog call dem N f4c8 f4a8 J e σ = J .normal e σ := runK_skip' (by kernel_rfl)
theorem f4z6_f4e5 (y0 : Nat) (y1 : Bool) : Ann.clr f4a6 (f4e5 y0 y1) = f4e2 y0 := hide (by kernel_rfl)
theorem f4z3_f4e4 (y0 : Nat) (y1 : Nat) (y2 : ByteArray) (y3 : Int) (y4 : Nat) (y5 : ByteArray) (y6 : Int) (y7 : Int) (y8 : Nat) (y9 : ByteArray) (y10 : Int) (y11 : Int) (y12 : Bool) (y13 : Bool) (y14 : Nat) (y15 : ByteArray) (y16 : Int) (y17 : Bool) (y18 : Bool) : Ann.clr f4a3 (f4e4 y0 y1 y2 y3 y4 y5 y6 y7 y8 y9 y10 y11 y12 y13 y14 y15 y16 y17 y18) = f4e5 y0 y18 := hide (by kernel_rfl)
theorem f4z2_f4e2 (y0 : Nat) : Ann.clr f4a2 (f4e2 y0) = f4e2 y0 := hide (by kernel_rfl)
theorem f4n4 {R : Type} (call : Bool → CallF R) (dem : Bool) (N : Nat) (J : KF R) (e : Env) (σ : St) : runK Tryz.prog call dem N f4c4 f4a4 J e σ = runK Tryz.prog call dem N f4c11 f4a11 (seqC (fun K e σ => runK Tryz.prog call dem N f4c12 f4a12 K e σ) f4a4 J) e σ := runK_seq' (by kernel_rfl) (by kernel_rfl) (by kernel_rfl)
theorem f4r11_f4e2 {R : Type} (call : Bool → CallF R) (dem : Bool) (N : Nat) (y0 : Nat) (J : KF R) (σ : St) :
    runK Tryz.prog call dem N f4c11 f4a11 J (f4e2 y0) σ =
Option.bind (St.ld σ y0 (0 : Nat)) fun v0 =>
  Option.bind (AV.toInt IntKind.i64 v0) fun v1 =>
    Option.bind (St.ld σ y0 (1 : Nat)) fun v2 =>
      Option.bind (AV.toInt IntKind.i64 v2) fun v3 =>
        Option.bind (St.ld σ y0 (2 : Nat)) fun v4 =>
          Option.bind (AV.toInt IntKind.i64 v4) fun v5 =>
            Option.bind (St.ld σ y0 (3 : Nat)) fun v6 =>
              Option.bind (AV.toInt IntKind.i64 v6) fun v7 =>
                Option.bind (St.ld σ y0 (4 : Nat)) fun v8 =>
                  Option.bind (AV.toInt IntKind.i64 v8) fun v9 =>
                    Option.bind (St.ld σ y0 (5 : Nat)) fun v10 =>
                      Option.bind (AV.toInt IntKind.i64 v10) fun v11 =>
                        Option.bind (St.ld σ y0 (6 : Nat)) fun v12 =>
                          Option.bind (AV.toInt IntKind.i64 v12) fun v13 =>
                            Option.bind (St.ld σ y0 (7 : Nat)) fun v14 =>
                              Option.bind (AV.toInt IntKind.i64 v14) fun v15 =>
                                Option.bind (St.ld σ y0 (8 : Nat)) fun v16 =>
                                  Option.bind (AV.toStr v16) fun v17 =>
                                    Option.bind (St.ld σ y0 (9 : Nat)) fun v18 =>
                                      Option.bind (AV.toStr v18) fun v19 =>
                                        Option.bind (St.ld σ y0 (10 : Nat)) fun v20 =>
                                          Option.bind (AV.toStr v20) fun v21 =>
                                            Option.bind (St.ld σ y0 (11 : Nat)) fun v22 =>
                                              Option.bind (AV.toStr v22) fun v23 =>
                                                Option.bind (St.ld σ y0 (0 : Nat)) fun v24 =>
                                                  Option.bind (AV.toInt IntKind.i64 v24) fun v25 =>
                                                    Option.bind (St.ld σ y0 (1 : Nat)) fun v26 =>
                                                      Option.bind (AV.toInt IntKind.i64 v26) fun v27 =>
                                                        Option.bind (St.ld σ y0 (2 : Nat)) fun v28 =>
                                                          Option.bind (AV.toInt IntKind.i64 v28) fun v29 =>
                                                            Option.bind (St.ld σ y0 (3 : Nat)) fun v30 =>
                                                              Option.bind (AV.toInt IntKind.i64 v30) fun v31 =>
                                                                Option.bind (St.ld σ y0 (4 : Nat)) fun v32 =>
                                                                  Option.bind (AV.toInt IntKind.i64 v32) fun v33 =>
                                                                    Option.bind (St.ld σ y0 (5 : Nat)) fun v34 =>
                                                                      Option.bind (AV.toInt IntKind.i64 v34) fun v35 =>
                                                                        Option.bind (St.ld σ y0 (6 : Nat)) fun v36 =>
                                                                          Option.bind (AV.toInt IntKind.i64 v36) fun v37 =>
                                                                            Option.bind (St.ld σ y0 (7 : Nat)) fun v38 =>
                                                                              Option.bind (AV.toInt IntKind.i64 v38) fun v39 =>
                                                                                Option.bind (St.ld σ y0 (8 : Nat)) fun v40 =>
                                                                                  Option.bind (AV.toStr v40) fun v41 =>
                                                                                    Option.bind (St.ld σ y0 (9 : Nat)) fun v42 =>
                                                                                      Option.bind (AV.toStr v42) fun v43 =>
                                                                                        Option.bind (St.ld σ y0 (10 : Nat)) fun v44 =>
                                                                                          Option.bind (AV.toStr v44) fun v45 =>
                                                                                            Option.bind (St.ld σ y0 (11 : Nat)) fun v46 =>
                                                                                              Option.bind (AV.toStr v46) fun v47 =>
                                                                                                call dem (7 : Nat)
                                                                                                  [AV.agg
                                                                                                      [AV.int IntKind.i64 (0 : Int),
                                                                                                        AV.int IntKind.i64 (0 : Int),
                                                                                                        AV.int IntKind.i64 (0 : Int),
                                                                                                        AV.str (ByteArray.mk #[]),
                                                                                                        AV.slice none (0 : Nat) (some (0 : Nat))
                                                                                                          (1 : Nat),
                                                                                                        AV.slice (some (St.next σ, (0 : Nat)))
                                                                                                          (2 : Nat) (some (2 : Nat)) (12 : Nat)]]
                                                                                                  (St.new σ
                                                                                                    (Blk.cells
                                                                                                      [AV.int IntKind.i64 v1, AV.int IntKind.i64 v3,
                                                                                                        AV.int IntKind.i64 v5, AV.int IntKind.i64 v7,
                                                                                                        AV.int IntKind.i64 v9, AV.int IntKind.i64 v11,
                                                                                                        AV.int IntKind.i64 v13,
                                                                                                        AV.int IntKind.i64 v15, AV.str v17,
                                                                                                        AV.str v19, AV.str v21, AV.str v23,
                                                                                                        AV.int IntKind.i64 v25,
                                                                                                        AV.int IntKind.i64 v27,
                                                                                                        AV.int IntKind.i64 v29,
                                                                                                        AV.int IntKind.i64 v31,
                                                                                                        AV.int IntKind.i64 v33,
                                                                                                        AV.int IntKind.i64 v35,
                                                                                                        AV.int IntKind.i64 v37,
                                                                                                        AV.int IntKind.i64 v39, AV.str v41,
                                                                                                        AV.str v43, AV.str v45, AV.str v47]
                                                                                                      true))
                                                                                                  fun v48 v49 =>
                                                                                                  Option.bind (AV.toTuple v48) fun v50 =>
                                                                                                    if List.length v50 = (2 : Nat) then
                                                                                                      Option.bind (List.head? v50) fun v51 =>
                                                                                                        Option.bind (AV.toStr v51) fun v52 =>
                                                                                                          Option.bind (List.head? (List.tail v50))
                                                                                                            fun v53 =>
                                                                                                            Option.bind (AV.toInt IntKind.i64 v53)
                                                                                                              fun v54 =>
                                                                                                              J Ex.normal
                                                                                                                (f4e8 y0 v52 v54 v52 v54 v1 v3 v5 v7
                                                                                                                  v9 v11 v13 v15 v17 v19 v21 v23 v25
                                                                                                                  v27 v29 v31 v33 v35 v37 v39 v41 v43
                                                                                                                  v45 v47
                                                                                                                  (some (St.next σ, (0 : Nat)))
                                                                                                                  (2 : Nat) (some (2 : Nat)) (0 : Int)
                                                                                                                  (0 : Int) (0 : Int)
                                                                                                                  (ByteArray.mk #[]) none (0 : Nat)
                                                                                                                  (some (0 : Nat))
                                                                                                                  (some (St.next σ, (0 : Nat)))
                                                                                                                  (2 : Nat) (some (2 : Nat)) v52 v54
                                                                                                                  v52 v54)
                                                                                                                v49
                                                                                                    else none := hide (by kernel_rfl)
theorem f4z4_f4e8 (y0 : Nat) (y1 : ByteArray) (y2 : Int) (y3 : ByteArray) (y4 : Int) (y5 : Int) (y6 : Int) (y7 : Int) (y8 : Int) (y9 : Int) (y10 : Int) (y11 : Int) (y12 : Int) (y13 : ByteArray) (y14 : ByteArray) (y15 : ByteArray) (y16 : ByteArray) (y17 : Int) (y18 : Int) (y19 : Int) (y20 : Int) (y21 : Int) (y22 : Int) (y23 : Int) (y24 : Int) (y25 : ByteArray) (y26 : ByteArray) (y27 : ByteArray) (y28 : ByteArray) (y29 : Option (Nat × Nat)) (y30 : Nat) (y31 : Option Nat) (y32 : Int) (y33 : Int) (y34 : Int) (y35 : ByteArray) (y36 : Option (Nat × Nat)) (y37 : Nat) (y38 : Option Nat) (y39 : Option (Nat × Nat)) (y40 : Nat) (y41 : Option Nat) (y42 : ByteArray) (y43 : Int) (y44 : ByteArray) (y45 : Int) : Ann.clr f4a4 (f4e8 y0 y1 y2 y3 y4 y5 y6 y7 y8 y9 y10 y11 y12 y13 y14 y15 y16 y17 y18 y19 y20 y21 y22 y23 y24 y25 y26 y27 y28 y29 y30 y31 y32 y33 y34 y35 y36 y37 y38
  y39 y40 y41 y42 y43 y44 y45) = f4e9 y0 y1 y2 := hide (by kernel_rfl)
theorem f4n12 {R : Type} (call : Bool → CallF R) (dem : Bool) (N : Nat) (J : KF R) (e : Env) (σ : St) : runK Tryz.prog call dem N f4c12 f4a12 J e σ = runK Tryz.prog call dem N f4c13 f4a13 (seqC (fun K e σ => runK Tryz.prog call dem N f4c14 f4a14 K e σ) f4a12 J) e σ := runK_seq' (by kernel_rfl) (by kernel_rfl) (by kernel_rfl)
theorem f4r13_f4e9 {R : Type} (call : Bool → CallF R) (dem : Bool) (N : Nat) (y0 : Nat) (y1 : ByteArray) (y2 : Int) (J : KF R) (σ : St) :
    runK Tryz.prog call dem N f4c13 f4a13 J (f4e9 y0 y1 y2) σ =
call dem (8 : Nat) [AV.str y1] σ fun v0 v1 =>
  Option.bind (AV.toTuple v0) fun v2 =>
    if List.length v2 = (3 : Nat) then
      Option.bind (List.head? v2) fun v3 =>
        Option.bind (AV.toAgg v3) fun v4 =>
          if List.length v4 = (6 : Nat) then
            Option.bind (List.head? v4) fun v5 =>
              Option.bind (AV.toInt IntKind.i64 v5) fun v6 =>
                Option.bind (List.head? (List.tail v4)) fun v7 =>
                  Option.bind (AV.toInt IntKind.i64 v7) fun v8 =>
                    Option.bind (List.head? (List.tail (List.tail v4))) fun v9 =>
                      Option.bind (AV.toInt IntKind.i64 v9) fun v10 =>
                        Option.bind (List.head? (List.tail (List.tail (List.tail v4)))) fun v11 =>
                          Option.bind (AV.toStr v11) fun v12 =>
                            Option.bind (List.head? (List.tail (List.tail (List.tail (List.tail v4))))) fun v13 =>
                              Option.bind (AV.toSl (1 : Nat) v13) fun v14 =>
                                Option.bind (List.head? (List.tail (List.tail (List.tail (List.tail (List.tail v4)))))) fun v15 =>
                                  Option.bind (AV.toSl (12 : Nat) v15) fun v16 =>
                                    Option.bind (List.head? (List.tail v2)) fun v17 =>
                                      Option.bind (AV.toInt IntKind.i64 v17) fun v18 =>
                                        Option.bind (List.head? (List.tail (List.tail v2))) fun v19 =>
                                          Option.bind (AV.toInt IntKind.i64 v19) fun v20 =>
                                            Option.bind
                                              (St.st
                                                (St.new v1
                                                  (Blk.cells
                                                    [AV.int IntKind.i64 (0 : Int), AV.int IntKind.i64 (0 : Int), AV.int IntKind.i64 (0 : Int),
                                                      AV.str (ByteArray.mk #[]), AV.slice none (0 : Nat) (some (0 : Nat)) (1 : Nat),
                                                      AV.slice none (0 : Nat) (some (0 : Nat)) (12 : Nat)]
                                                    true))
                                                (St.next v1) (0 : Nat)
                                                [AV.int IntKind.i64 v6, AV.int IntKind.i64 v8, AV.int IntKind.i64 v10, AV.str v12,
                                                  AV.slice (Sl.o v14) (Sl.len v14) (Sl.cap v14) (1 : Nat),
                                                  AV.slice (Sl.o v16) (Sl.len v16) (Sl.cap v16) (12 : Nat)])
                                              fun v21 =>
                                              J Ex.normal
                                                (f4e10 y0 y1 y2 (St.next v1) v18 v20 v6 v8 v10 v12 (Sl.o v14) (Sl.len v14) (Sl.cap v14) (Sl.o v16)
                                                  (Sl.len v16) (Sl.cap v16) v18 v20 y1 v6 v8 v10 v12 (Sl.o v14) (Sl.len v14) (Sl.cap v14) (Sl.o v16)
                                                  (Sl.len v16) (Sl.cap v16) v18 v20 v6 v8 v10 v12 (Sl.o v14) (Sl.len v14) (Sl.cap v14) (Sl.o v16)
                                                  (Sl.len v16) (Sl.cap v16) v18 v20)
                                                v21
          else none
    else none := hide (by kernel_rfl)
theorem f4z12_f4e10 (y0 : Nat) (y1 : ByteArray) (y2 : Int) (y3 : Nat) (y4 : Int) (y5 : Int) (y6 : Int) (y7 : Int) (y8 : Int) (y9 : ByteArray) (y10 : Option (Nat × Nat)) (y11 : Nat) (y12 : Option Nat) (y13 : Option (Nat × Nat)) (y14 : Nat) (y15 : Option Nat) (y16 : Int) (y17 : Int) (y18 : ByteArray) (y19 : Int) (y20 : Int) (y21 : Int) (y22 : ByteArray) (y23 : Option (Nat × Nat)) (y24 : Nat) (y25 : Option Nat) (y26 : Option (Nat × Nat)) (y27 : Nat) (y28 : Option Nat) (y29 : Int) (y30 : Int) (y31 : Int) (y32 : Int) (y33 : Int) (y34 : ByteArray) (y35 : Option (Nat × Nat)) (y36 : Nat) (y37 : Option Nat) (y38 : Option (Nat × Nat)) (y39 : Nat) (y40 : Option Nat) (y41 : Int) (y42 : Int) : Ann.clr f4a12 (f4e10 y0 y1 y2 y3 y4 y5 y6 y7 y8 y9 y10 y11 y12 y13 y14 y15 y16 y17 y18 y19 y20 y21 y22 y23 y24 y25 y26 y27 y28 y29 y30 y31 y32 y33 y34 y35 y36 y37
  y38 y39 y40 y41 y42) = f4e11 y0 y2 y3 y4 y5 := hide (by kernel_rfl)
theorem f4n14 {R : Type} (call : Bool → CallF R) (dem : Bool) (N : Nat) (J : KF R) (e : Env) (σ : St) : runK Tryz.prog call dem N f4c14 f4a14 J e σ = runK Tryz.prog call dem N f4c15 f4a15 (seqC (fun K e σ => runK Tryz.prog call dem N f4c16 f4a16 K e σ) f4a14 J) e σ := runK_seq' (by kernel_rfl) (by kernel_rfl) (by kernel_rfl)
theorem f4r15_f4e11 {R : Type} (call : Bool → CallF R) (dem : Bool) (N : Nat) (y0 : Nat) (y1 : Int) (y2 : Nat) (y3 : Int) (y4 : Int) (J : KF R) (σ : St) :
    runK Tryz.prog call dem N f4c15 f4a15 J (f4e11 y0 y1 y2 y3 y4) σ =
if (y1 == (0 : Int)) = true then
  if (y4 == (0 : Int)) = true then
    if (y3 == (0 : Int)) = true then
      Option.bind (St.ld σ y2 (5 : Nat)) fun v0 =>
        Option.bind (AV.toSl (12 : Nat) v0) fun v1 =>
          if ((↑(Sl.len v1) : Int) == (2 : Int)) = true then
            Option.bind (St.ld σ y2 (5 : Nat)) fun v2 =>
              Option.bind (AV.toSl (12 : Nat) v2) fun v3 =>
                if (0 : Int) ≤ (0 : Int) ∧ (0 : Int) < (↑(Sl.len v3) : Int) then
                  Option.bind (Sl.o v3) fun v4 =>
                    Option.bind (St.ld σ (Prod.fst v4) (Prod.snd v4)) fun v5 =>
                      Option.bind (AV.toInt IntKind.i64 v5) fun v6 =>
                        Option.bind (St.ld σ (Prod.fst v4) (Prod.snd v4 + (1 : Nat))) fun v7 =>
                          Option.bind (AV.toInt IntKind.i64 v7) fun v8 =>
                            Option.bind (St.ld σ (Prod.fst v4) (Prod.snd v4 + (2 : Nat))) fun v9 =>
                              Option.bind (AV.toInt IntKind.i64 v9) fun v10 =>
                                Option.bind (St.ld σ (Prod.fst v4) (Prod.snd v4 + (3 : Nat))) fun v11 =>
                                  Option.bind (AV.toInt IntKind.i64 v11) fun v12 =>
                                    Option.bind (St.ld σ (Prod.fst v4) (Prod.snd v4 + (4 : Nat))) fun v13 =>
                                      Option.bind (AV.toInt IntKind.i64 v13) fun v14 =>
                                        Option.bind (St.ld σ (Prod.fst v4) (Prod.snd v4 + (5 : Nat))) fun v15 =>
                                          Option.bind (AV.toInt IntKind.i64 v15) fun v16 =>
                                            Option.bind (St.ld σ (Prod.fst v4) (Prod.snd v4 + (6 : Nat))) fun v17 =>
                                              Option.bind (AV.toInt IntKind.i64 v17) fun v18 =>
                                                Option.bind (St.ld σ (Prod.fst v4) (Prod.snd v4 + (7 : Nat))) fun v19 =>
                                                  Option.bind (AV.toInt IntKind.i64 v19) fun v20 =>
                                                    Option.bind (St.ld σ (Prod.fst v4) (Prod.snd v4 + (8 : Nat))) fun v21 =>
                                                      Option.bind (AV.toStr v21) fun v22 =>
                                                        Option.bind (St.ld σ (Prod.fst v4) (Prod.snd v4 + (9 : Nat))) fun v23 =>
                                                          Option.bind (AV.toStr v23) fun v24 =>
                                                            Option.bind (St.ld σ (Prod.fst v4) (Prod.snd v4 + (10 : Nat))) fun v25 =>
                                                              Option.bind (AV.toStr v25) fun v26 =>
                                                                Option.bind (St.ld σ (Prod.fst v4) (Prod.snd v4 + (11 : Nat))) fun v27 =>
                                                                  Option.bind (AV.toStr v27) fun v28 =>
                                                                    Option.bind (St.ld σ y0 (0 : Nat)) fun v29 =>
                                                                      Option.bind (AV.toInt IntKind.i64 v29) fun v30 =>
                                                                        Option.bind (St.ld σ y0 (1 : Nat)) fun v31 =>
                                                                          Option.bind (AV.toInt IntKind.i64 v31) fun v32 =>
                                                                            Option.bind (St.ld σ y0 (2 : Nat)) fun v33 =>
                                                                              Option.bind (AV.toInt IntKind.i64 v33) fun v34 =>
                                                                                Option.bind (St.ld σ y0 (3 : Nat)) fun v35 =>
                                                                                  Option.bind (AV.toInt IntKind.i64 v35) fun v36 =>
                                                                                    Option.bind (St.ld σ y0 (4 : Nat)) fun v37 =>
                                                                                      Option.bind (AV.toInt IntKind.i64 v37) fun v38 =>
                                                                                        Option.bind (St.ld σ y0 (5 : Nat)) fun v39 =>
                                                                                          Option.bind (AV.toInt IntKind.i64 v39) fun v40 =>
                                                                                            Option.bind (St.ld σ y0 (6 : Nat)) fun v41 =>
                                                                                              Option.bind (AV.toInt IntKind.i64 v41) fun v42 =>
                                                                                                Option.bind (St.ld σ y0 (7 : Nat)) fun v43 =>
                                                                                                  Option.bind (AV.toInt IntKind.i64 v43) fun v44 =>
                                                                                                    Option.bind (St.ld σ y0 (8 : Nat)) fun v45 =>
                                                                                                      Option.bind (AV.toStr v45) fun v46 =>
                                                                                                        Option.bind (St.ld σ y0 (9 : Nat)) fun v47 =>
                                                                                                          Option.bind (AV.toStr v47) fun v48 =>
                                                                                                            Option.bind (St.ld σ y0 (10 : Nat))
                                                                                                              fun v49 =>
                                                                                                              Option.bind (AV.toStr v49) fun v50 =>
                                                                                                                Option.bind (St.ld σ y0 (11 : Nat))
                                                                                                                  fun v51 =>
                                                                                                                  Option.bind (AV.toStr v51)
                                                                                                                    fun v52 =>
                                                                                                                    if
                                                                                                                        (v6 == v30 &&
                                                                                                                            (v8 == v32 &&
                                                                                                                              (v10 == v34 &&
                                                                                                                                (v12 == v36 &&
                                                                                                                                  (v14 == v38 &&
                                                                                                                                    (v16 == v40 &&
                                                                                                                                      (v18 == v42 &&
                                                                                                                                        (v20 == v44 &&
                                                                                                                                          (decide
                                                                                                                                              (v22 =
                                                                                                                                                v46) &&
                                                                                                                                            (decide
                                                                                                                                                (v24 =
                                                                                                                                                  v48) &&
                                                                                                                                              (decide
                                                                                                                                                  (v26 =
                                                                                                                                                    v50) &&
                                                                                                                                                (decide
                                                                                                                                                    (v28 =
                                                                                                                                                      v52) &&
                                                                                                                                                  true)))))))))))) =
                                                                                                                          true then
                                                                                                                      Option.bind
                                                                                                                        (St.ld σ y2 (5 : Nat))
                                                                                                                        fun v53 =>
                                                                                                                        Option.bind
                                                                                                                          (AV.toSl (12 : Nat) v53)
                                                                                                                          fun v54 =>
                                                                                                                          if
                                                                                                                              (0 : Int) ≤ (1 : Int) ∧
                                                                                                                                (1 : Int) <
                                                                                                                                  (↑(Sl.len v54) :
                                                                                                                                    Int) then
                                                                                                                            Option.bind (Sl.o v54)
                                                                                                                              fun v55 =>
                                                                                                                              Option.bind
                                                                                                                                (St.ld σ
                                                                                                                                  (Prod.fst v55)
                                                                                                                                  (Prod.snd v55 +
                                                                                                                                    (12 : Nat)))
                                                                                                                                fun v56 =>
                                                                                                                                Option.bind
                                                                                                                                  (AV.toInt
                                                                                                                                    IntKind.i64 v56)
                                                                                                                                  fun v57 =>
                                                                                                                                  Option.bind
                                                                                                                                    (St.ld σ
                                                                                                                                      (Prod.fst v55)
                                                                                                                                      (Prod.snd v55 +
                                                                                                                                        (13 : Nat)))
                                                                                                                                    fun v58 =>
                                                                                                                                    Option.bind
                                                                                                                                      (AV.toInt
                                                                                                                                        IntKind.i64
                                                                                                                                        v58)
                                                                                                                                      fun v59 =>
                                                                                                                                      Option.bind
                                                                                                                                        (St.ld σ
                                                                                                                                          (Prod.fst
                                                                                                                                            v55)
                                                                                                                                          (Prod.snd
                                                                                                                                              v55 +
                                                                                                                                            (14 :
                                                                                                                                              Nat)))
                                                                                                                                        fun v60 =>
                                                                                                                                        Option.bind
                                                                                                                                          (AV.toInt
                                                                                                                                            IntKind.i64
                                                                                                                                            v60)
                                                                                                                                          fun v61 =>
                                                                                                                                          Option.bind
                                                                                                                                            (St.ld σ
                                                                                                                                              (Prod.fst
                                                                                                                                                v55)
                                                                                                                                              (Prod.snd
                                                                                                                                                  v55 +
                                                                                                                                                (15 :
                                                                                                                                                  Nat)))
                                                                                                                                            fun v62 =>
                                                                                                                                            Option.bind
                                                                                                                                              (AV.toInt
                                                                                                                                                IntKind.i64
                                                                                                                                                v62)
                                                                                                                                              fun
                                                                                                                                                v63 =>
                                                                                                                                              Option.bind
                                                                                                                                                (St.ld
                                                                                                                                                  σ
                                                                                                                                                  (Prod.fst
                                                                                                                                                    v55)
                                                                                                                                                  (Prod.snd
                                                                                                                                                      v55 +
                                                                                                                                                    (16 :
                                                                                                                                                      Nat)))
                                                                                                                                                fun
                                                                                                                                                  v64 =>
                                                                                                                                                Option.bind
                                                                                                                                                  (AV.toInt
                                                                                                                                                    IntKind.i64
                                                                                                                                                    v64)
                                                                                                                                                  fun
                                                                                                                                                    v65 =>
                                                                                                                                                  Option.bind
                                                                                                                                                    (St.ld
                                                                                                                                                      σ
                                                                                                                                                      (Prod.fst
                                                                                                                                                        v55)
                                                                                                                                                      (Prod.snd
                                                                                                                                                          v55 +
                                                                                                                                                        (17 :
                                                                                                                                                          Nat)))
                                                                                                                                                    fun
                                                                                                                                                      v66 =>
                                                                                                                                                    Option.bind
                                                                                                                                                      (AV.toInt
                                                                                                                                                        IntKind.i64
                                                                                                                                                        v66)
                                                                                                                                                      fun
                                                                                                                                                        v67 =>
                                                                                                                                                      Option.bind
                                                                                                                                                        (St.ld
                                                                                                                                                          σ
                                                                                                                                                          (Prod.fst
                                                                                                                                                            v55)
                                                                                                                                                          (Prod.snd
                                                                                                                                                              v55 +
                                                                                                                                                            (18 :
                                                                                                                                                              Nat)))
                                                                                                                                                        fun
                                                                                                                                                          v68 =>
                                                                                                                                                        Option.bind
                                                                                                                                                          (AV.toInt
                                                                                                                                                            IntKind.i64
                                                                                                                                                            v68)
                                                                                                                                                          fun
                                                                                                                                                            v69 =>
                                                                                                                                                          Option.bind
                                                                                                                                                            (St.ld
                                                                                                                                                              σ
                                                                                                                                                              (Prod.fst
                                                                                                                                                                v55)
                                                                                                                                                              (Prod.snd
                                                                                                                                                                  v55 +
                                                                                                                                                                (19 :
                                                                                                                                                                  Nat)))
                                                                                                                                                            fun
                                                                                                                                                              v70 =>
                                                                                                                                                            Option.bind
                                                                                                                                                              (AV.toInt
                                                                                                                                                                IntKind.i64
                                                                                                                                                                v70)
                                                                                                                                                              fun
                                                                                                                                                                v71 =>
                                                                                                                                                              Option.bind
                                                                                                                                                                (St.ld
                                                                                                                                                                  σ
                                                                                                                                                                  (Prod.fst
                                                                                                                                                                    v55)
                                                                                                                                                                  (Prod.snd
                                                                                                                                                                      v55 +
                                                                                                                                                                    (20 :
                                                                                                                                                                      Nat)))
                                                                                                                                                                fun
                                                                                                                                                                  v72 =>
                                                                                                                                                                Option.bind
                                                                                                                                                                  (AV.toStr
                                                                                                                                                                    v72)
                                                                                                                                                                  fun
                                                                                                                                                                    v73 =>
                                                                                                                                                                  Option.bind
                                                                                                                                                                    (St.ld
                                                                                                                                                                      σ
                                                                                                                                                                      (Prod.fst
                                                                                                                                                                        v55)
                                                                                                                                                                      (Prod.snd
                                                                                                                                                                          v55 +
                                                                                                                                                                        (21 :
                                                                                                                                                                          Nat)))
                                                                                                                                                                    fun
                                                                                                                                                                      v74 =>
                                                                                                                                                                    Option.bind
                                                                                                                                                                      (AV.toStr
                                                                                                                                                                        v74)
                                                                                                                                                                      fun
                                                                                                                                                                        v75 =>
                                                                                                                                                                      Option.bind
                                                                                                                                                                        (St.ld
                                                                                                                                                                          σ
                                                                                                                                                                          (Prod.fst
                                                                                                                                                                            v55)
                                                                                                                                                                          (Prod.snd
                                                                                                                                                                              v55 +
                                                                                                                                                                            (22 :
                                                                                                                                                                              Nat)))
                                                                                                                                                                        fun
                                                                                                                                                                          v76 =>
                                                                                                                                                                        Option.bind
                                                                                                                                                                          (AV.toStr
                                                                                                                                                                            v76)
                                                                                                                                                                          fun
                                                                                                                                                                            v77 =>
                                                                                                                                                                          Option.bind
                                                                                                                                                                            (St.ld
                                                                                                                                                                              σ
                                                                                                                                                                              (Prod.fst
                                                                                                                                                                                v55)
                                                                                                                                                                              (Prod.snd
                                                                                                                                                                                  v55 +
                                                                                                                                                                                (23 :
                                                                                                                                                                                  Nat)))
                                                                                                                                                                            fun
                                                                                                                                                                              v78 =>
                                                                                                                                                                            Option.bind
                                                                                                                                                                              (AV.toStr
                                                                                                                                                                                v78)
                                                                                                                                                                              fun
                                                                                                                                                                                v79 =>
                                                                                                                                                                              Option.bind
                                                                                                                                                                                (St.ld
                                                                                                                                                                                  σ
                                                                                                                                                                                  y0
                                                                                                                                                                                  (0 :
                                                                                                                                                                                    Nat))
                                                                                                                                                                                fun
                                                                                                                                                                                  v80 =>
                                                                                                                                                                                Option.bind
                                                                                                                                                                                  (AV.toInt
                                                                                                                                                                                    IntKind.i64
                                                                                                                                                                                    v80)
                                                                                                                                                                                  fun
                                                                                                                                                                                    v81 =>
                                                                                                                                                                                  Option.bind
                                                                                                                                                                                    (St.ld
                                                                                                                                                                                      σ
                                                                                                                                                                                      y0
                                                                                                                                                                                      (1 :
                                                                                                                                                                                        Nat))
                                                                                                                                                                                    fun
                                                                                                                                                                                      v82 =>
                                                                                                                                                                                    Option.bind
                                                                                                                                                                                      (AV.toInt
                                                                                                                                                                                        IntKind.i64
                                                                                                                                                                                        v82)
                                                                                                                                                                                      fun
                                                                                                                                                                                        v83 =>
                                                                                                                                                                                      Option.bind
                                                                                                                                                                                        (St.ld
                                                                                                                                                                                          σ
                                                                                                                                                                                          y0
                                                                                                                                                                                          (2 :
                                                                                                                                                                                            Nat))
                                                                                                                                                                                        fun
                                                                                                                                                                                          v84 =>
                                                                                                                                                                                        Option.bind
                                                                                                                                                                                          (AV.toInt
                                                                                                                                                                                            IntKind.i64
                                                                                                                                                                                            v84)
                                                                                                                                                                                          fun
                                                                                                                                                                                            v85 =>
                                                                                                                                                                                          Option.bind
                                                                                                                                                                                            (St.ld
                                                                                                                                                                                              σ
                                                                                                                                                                                              y0
                                                                                                                                                                                              (3 :
                                                                                                                                                                                                Nat))
                                                                                                                                                                                            fun
                                                                                                                                                                                              v86 =>
                                                                                                                                                                                            Option.bind
                                                                                                                                                                                              (AV.toInt
                                                                                                                                                                                                IntKind.i64
                                                                                                                                                                                                v86)
                                                                                                                                                                                              fun
                                                                                                                                                                                                v87 =>
                                                                                                                                                                                              Option.bind
                                                                                                                                                                                                (St.ld
                                                                                                                                                                                                  σ
                                                                                                                                                                                                  y0
                                                                                                                                                                                                  (4 :
                                                                                                                                                                                                    Nat))
                                                                                                                                                                                                fun
                                                                                                                                                                                                  v88 =>
                                                                                                                                                                                                Option.bind
                                                                                                                                                                                                  (AV.toInt
                                                                                                                                                                                                    IntKind.i64
                                                                                                                                                                                                    v88)
                                                                                                                                                                                                  fun
                                                                                                                                                                                                    v89 =>
                                                                                                                                                                                                  Option.bind
                                                                                                                                                                                                    (St.ld
                                                                                                                                                                                                      σ
                                                                                                                                                                                                      y0
                                                                                                                                                                                                      (5 :
                                                                                                                                                                                                        Nat))
                                                                                                                                                                                                    fun
                                                                                                                                                                                                      v90 =>
                                                                                                                                                                                                    Option.bind
                                                                                                                                                                                                      (AV.toInt
                                                                                                                                                                                                        IntKind.i64
                                                                                                                                                                                                        v90)
                                                                                                                                                                                                      fun
                                                                                                                                                                                                        v91 =>
                                                                                                                                                                                                      Option.bind
                                                                                                                                                                                                        (St.ld
                                                                                                                                                                                                          σ
                                                                                                                                                                                                          y0
                                                                                                                                                                                                          (6 :
                                                                                                                                                                                                            Nat))
                                                                                                                                                                                                        fun
                                                                                                                                                                                                          v92 =>
                                                                                                                                                                                                        Option.bind
                                                                                                                                                                                                          (AV.toInt
                                                                                                                                                                                                            IntKind.i64
                                                                                                                                                                                                            v92)
                                                                                                                                                                                                          fun
                                                                                                                                                                                                            v93 =>
                                                                                                                                                                                                          Option.bind
                                                                                                                                                                                                            (St.ld
                                                                                                                                                                                                              σ
                                                                                                                                                                                                              y0
                                                                                                                                                                                                              (7 :
                                                                                                                                                                                                                Nat))
                                                                                                                                                                                                            fun
                                                                                                                                                                                                              v94 =>
                                                                                                                                                                                                            Option.bind
                                                                                                                                                                                                              (AV.toInt
                                                                                                                                                                                                                IntKind.i64
                                                                                                                                                                                                                v94)
                                                                                                                                                                                                              fun
                                                                                                                                                                                                                v95 =>
                                                                                                                                                                                                              Option.bind
                                                                                                                                                                                                                (St.ld
                                                                                                                                                                                                                  σ
                                                                                                                                                                                                                  y0
                                                                                                                                                                                                                  (8 :
                                                                                                                                                                                                                    Nat))
                                                                                                                                                                                                                fun
                                                                                                                                                                                                                  v96 =>
                                                                                                                                                                                                                Option.bind
                                                                                                                                                                                                                  (AV.toStr
                                                                                                                                                                                                                    v96)
                                                                                                                                                                                                                  fun
                                                                                                                                                                                                                    v97 =>
                                                                                                                                                                                                                  Option.bind
                                                                                                                                                                                                                    (St.ld
                                                                                                                                                                                                                      σ
                                                                                                                                                                                                                      y0
                                                                                                                                                                                                                      (9 :
                                                                                                                                                                                                                        Nat))
                                                                                                                                                                                                                    fun
                                                                                                                                                                                                                      v98 =>
                                                                                                                                                                                                                    Option.bind
                                                                                                                                                                                                                      (AV.toStr
                                                                                                                                                                                                                        v98)
                                                                                                                                                                                                                      fun
                                                                                                                                                                                                                        v99 =>
                                                                                                                                                                                                                      Option.bind
                                                                                                                                                                                                                        (St.ld
                                                                                                                                                                                                                          σ
                                                                                                                                                                                                                          y0
                                                                                                                                                                                                                          (10 :
                                                                                                                                                                                                                            Nat))
                                                                                                                                                                                                                        fun
                                                                                                                                                                                                                          v100 =>
                                                                                                                                                                                                                        Option.bind
                                                                                                                                                                                                                          (AV.toStr
                                                                                                                                                                                                                            v100)
                                                                                                                                                                                                                          fun
                                                                                                                                                                                                                            v101 =>
                                                                                                                                                                                                                          Option.bind
                                                                                                                                                                                                                            (St.ld
                                                                                                                                                                                                                              σ
                                                                                                                                                                                                                              y0
                                                                                                                                                                                                                              (11 :
                                                                                                                                                                                                                                Nat))
                                                                                                                                                                                                                            fun
                                                                                                                                                                                                                              v102 =>
                                                                                                                                                                                                                            Option.bind
                                                                                                                                                                                                                              (AV.toStr
                                                                                                                                                                                                                                v102)
                                                                                                                                                                                                                              fun
                                                                                                                                                                                                                                v103 =>
                                                                                                                                                                                                                              if
                                                                                                                                                                                                                                  (v57 ==
                                                                                                                                                                                                                                        v81 &&
                                                                                                                                                                                                                                      (v59 ==
                                                                                                                                                                                                                                          v83 &&
                                                                                                                                                                                                                                        (v61 ==
                                                                                                                                                                                                                                            v85 &&
                                                                                                                                                                                                                                          (v63 ==
                                                                                                                                                                                                                                              v87 &&
                                                                                                                                                                                                                                            (v65 ==
                                                                                                                                                                                                                                                v89 &&
                                                                                                                                                                                                                                              (v67 ==
                                                                                                                                                                                                                                                  v91 &&
                                                                                                                                                                                                                                                (v69 ==
                                                                                                                                                                                                                                                    v93 &&
                                                                                                                                                                                                                                                  (v71 ==
                                                                                                                                                                                                                                                      v95 &&
                                                                                                                                                                                                                                                    (decide
                                                                                                                                                                                                                                                        (v73 =
                                                                                                                                                                                                                                                          v97) &&
                                                                                                                                                                                                                                                      (decide
                                                                                                                                                                                                                                                          (v75 =
                                                                                                                                                                                                                                                            v99) &&
                                                                                                                                                                                                                                                        (decide
                                                                                                                                                                                                                                                            (v77 =
                                                                                                                                                                                                                                                              v101) &&
                                                                                                                                                                                                                                                          (decide
                                                                                                                                                                                                                                                              (v79 =
                                                                                                                                                                                                                                                                v103) &&
                                                                                                                                                                                                                                                            true)))))))))))) =
                                                                                                                                                                                                                                    true then
                                                                                                                                                                                                                                call
                                                                                                                                                                                                                                  false
                                                                                                                                                                                                                                  (6 :
                                                                                                                                                                                                                                    Nat)
                                                                                                                                                                                                                                  []
                                                                                                                                                                                                                                  σ
                                                                                                                                                                                                                                  fun
                                                                                                                                                                                                                                    v104
                                                                                                                                                                                                                                    v105 =>
                                                                                                                                                                                                                                  Option.bind
                                                                                                                                                                                                                                    (AV.toBool
                                                                                                                                                                                                                                      v104)
                                                                                                                                                                                                                                    fun
                                                                                                                                                                                                                                      v106 =>
                                                                                                                                                                                                                                    J
                                                                                                                                                                                                                                      Ex.normal
                                                                                                                                                                                                                                      (f4e12
                                                                                                                                                                                                                                        y0
                                                                                                                                                                                                                                        v106
                                                                                                                                                                                                                                        y1
                                                                                                                                                                                                                                        y2
                                                                                                                                                                                                                                        y3
                                                                                                                                                                                                                                        y4
                                                                                                                                                                                                                                        y1
                                                                                                                                                                                                                                        (y1 ==
                                                                                                                                                                                                                                          (0 :
                                                                                                                                                                                                                                            Int))
                                                                                                                                                                                                                                        true
                                                                                                                                                                                                                                        y4
                                                                                                                                                                                                                                        (y4 ==
                                                                                                                                                                                                                                          (0 :
                                                                                                                                                                                                                                            Int))
                                                                                                                                                                                                                                        (y4 ==
                                                                                                                                                                                                                                          (0 :
                                                                                                                                                                                                                                            Int))
                                                                                                                                                                                                                                        true
                                                                                                                                                                                                                                        y3
                                                                                                                                                                                                                                        (y3 ==
                                                                                                                                                                                                                                          (0 :
                                                                                                                                                                                                                                            Int))
                                                                                                                                                                                                                                        (y3 ==
                                                                                                                                                                                                                                          (0 :
                                                                                                                                                                                                                                            Int))
                                                                                                                                                                                                                                        true
                                                                                                                                                                                                                                        y2
                                                                                                                                                                                                                                        (Sl.o
                                                                                                                                                                                                                                          v1)
                                                                                                                                                                                                                                        (Sl.len
                                                                                                                                                                                                                                          v1)
                                                                                                                                                                                                                                        (Sl.cap
                                                                                                                                                                                                                                          v1)
                                                                                                                                                                                                                                        (↑(Sl.len
                                                                                                                                                                                                                                              v1) :
                                                                                                                                                                                                                                          Int)
                                                                                                                                                                                                                                        ((↑(Sl.len
                                                                                                                                                                                                                                                v1) :
                                                                                                                                                                                                                                            Int) ==
                                                                                                                                                                                                                                          (2 :
                                                                                                                                                                                                                                            Int))
                                                                                                                                                                                                                                        ((↑(Sl.len
                                                                                                                                                                                                                                                v1) :
                                                                                                                                                                                                                                            Int) ==
                                                                                                                                                                                                                                          (2 :
                                                                                                                                                                                                                                            Int))
                                                                                                                                                                                                                                        true
                                                                                                                                                                                                                                        y2
                                                                                                                                                                                                                                        (Sl.o
                                                                                                                                                                                                                                          v3)
                                                                                                                                                                                                                                        (Sl.len
                                                                                                                                                                                                                                          v3)
                                                                                                                                                                                                                                        (Sl.cap
                                                                                                                                                                                                                                          v3)
                                                                                                                                                                                                                                        (some
                                                                                                                                                                                                                                          (Prod.fst
                                                                                                                                                                                                                                              v4,
                                                                                                                                                                                                                                            Prod.snd
                                                                                                                                                                                                                                              v4))
                                                                                                                                                                                                                                        v6
                                                                                                                                                                                                                                        v8
                                                                                                                                                                                                                                        v10
                                                                                                                                                                                                                                        v12
                                                                                                                                                                                                                                        v14
                                                                                                                                                                                                                                        v16
                                                                                                                                                                                                                                        v18
                                                                                                                                                                                                                                        v20
                                                                                                                                                                                                                                        v22
                                                                                                                                                                                                                                        v24
                                                                                                                                                                                                                                        v26
                                                                                                                                                                                                                                        v28
                                                                                                                                                                                                                                        v30
                                                                                                                                                                                                                                        v32
                                                                                                                                                                                                                                        v34
                                                                                                                                                                                                                                        v36
                                                                                                                                                                                                                                        v38
                                                                                                                                                                                                                                        v40
                                                                                                                                                                                                                                        v42
                                                                                                                                                                                                                                        v44
                                                                                                                                                                                                                                        v46
                                                                                                                                                                                                                                        v48
                                                                                                                                                                                                                                        v50
                                                                                                                                                                                                                                        v52
                                                                                                                                                                                                                                        (v6 ==
                                                                                                                                                                                                                                            v30 &&
                                                                                                                                                                                                                                          (v8 ==
                                                                                                                                                                                                                                              v32 &&
                                                                                                                                                                                                                                            (v10 ==
                                                                                                                                                                                                                                                v34 &&
                                                                                                                                                                                                                                              (v12 ==
                                                                                                                                                                                                                                                  v36 &&
                                                                                                                                                                                                                                                (v14 ==
                                                                                                                                                                                                                                                    v38 &&
                                                                                                                                                                                                                                                  (v16 ==
                                                                                                                                                                                                                                                      v40 &&
                                                                                                                                                                                                                                                    (v18 ==
                                                                                                                                                                                                                                                        v42 &&
                                                                                                                                                                                                                                                      (v20 ==
                                                                                                                                                                                                                                                          v44 &&
                                                                                                                                                                                                                                                        (decide
                                                                                                                                                                                                                                                            (v22 =
                                                                                                                                                                                                                                                              v46) &&
                                                                                                                                                                                                                                                          (decide
                                                                                                                                                                                                                                                              (v24 =
                                                                                                                                                                                                                                                                v48) &&
                                                                                                                                                                                                                                                            (decide
                                                                                                                                                                                                                                                                (v26 =
                                                                                                                                                                                                                                                                  v50) &&
                                                                                                                                                                                                                                                              (decide
                                                                                                                                                                                                                                                                  (v28 =
                                                                                                                                                                                                                                                                    v52) &&
                                                                                                                                                                                                                                                                true))))))))))))
                                                                                                                                                                                                                                        (v6 ==
                                                                                                                                                                                                                                            v30 &&
                                                                                                                                                                                                                                          (v8 ==
                                                                                                                                                                                                                                              v32 &&
                                                                                                                                                                                                                                            (v10 ==
                                                                                                                                                                                                                                                v34 &&
                                                                                                                                                                                                                                              (v12 ==
                                                                                                                                                                                                                                                  v36 &&
                                                                                                                                                                                                                                                (v14 ==
                                                                                                                                                                                                                                                    v38 &&
                                                                                                                                                                                                                                                  (v16 ==
                                                                                                                                                                                                                                                      v40 &&
                                                                                                                                                                                                                                                    (v18 ==
                                                                                                                                                                                                                                                        v42 &&
                                                                                                                                                                                                                                                      (v20 ==
                                                                                                                                                                                                                                                          v44 &&
                                                                                                                                                                                                                                                        (decide
                                                                                                                                                                                                                                                            (v22 =
                                                                                                                                                                                                                                                              v46) &&
                                                                                                                                                                                                                                                          (decide
                                                                                                                                                                                                                                                              (v24 =
                                                                                                                                                                                                                                                                v48) &&
                                                                                                                                                                                                                                                            (decide
                                                                                                                                                                                                                                                                (v26 =
                                                                                                                                                                                                                                                                  v50) &&
                                                                                                                                                                                                                                                              (decide
                                                                                                                                                                                                                                                                  (v28 =
                                                                                                                                                                                                                                                                    v52) &&
                                                                                                                                                                                                                                                                true))))))))))))
                                                                                                                                                                                                                                        true
                                                                                                                                                                                                                                        y2
                                                                                                                                                                                                                                        (Sl.o
                                                                                                                                                                                                                                          v54)
                                                                                                                                                                                                                                        (Sl.len
                                                                                                                                                                                                                                          v54)
                                                                                                                                                                                                                                        (Sl.cap
                                                                                                                                                                                                                                          v54)
                                                                                                                                                                                                                                        (some
                                                                                                                                                                                                                                          (Prod.fst
                                                                                                                                                                                                                                              v55,
                                                                                                                                                                                                                                            Prod.snd
                                                                                                                                                                                                                                                v55 +
                                                                                                                                                                                                                                              (12 :
                                                                                                                                                                                                                                                Nat)))
                                                                                                                                                                                                                                        v57
                                                                                                                                                                                                                                        v59
                                                                                                                                                                                                                                        v61
                                                                                                                                                                                                                                        v63
                                                                                                                                                                                                                                        v65
                                                                                                                                                                                                                                        v67
                                                                                                                                                                                                                                        v69
                                                                                                                                                                                                                                        v71
                                                                                                                                                                                                                                        v73
                                                                                                                                                                                                                                        v75
                                                                                                                                                                                                                                        v77
                                                                                                                                                                                                                                        v79
                                                                                                                                                                                                                                        v81
                                                                                                                                                                                                                                        v83
                                                                                                                                                                                                                                        v85
                                                                                                                                                                                                                                        v87
                                                                                                                                                                                                                                        v89
                                                                                                                                                                                                                                        v91
                                                                                                                                                                                                                                        v93
                                                                                                                                                                                                                                        v95
                                                                                                                                                                                                                                        v97
                                                                                                                                                                                                                                        v99
                                                                                                                                                                                                                                        v101
                                                                                                                                                                                                                                        v103
                                                                                                                                                                                                                                        (v57 ==
                                                                                                                                                                                                                                            v81 &&
                                                                                                                                                                                                                                          (v59 ==
                                                                                                                                                                                                                                              v83 &&
                                                                                                                                                                                                                                            (v61 ==
                                                                                                                                                                                                                                                v85 &&
                                                                                                                                                                                                                                              (v63 ==
                                                                                                                                                                                                                                                  v87 &&
                                                                                                                                                                                                                                                (v65 ==
                                                                                                                                                                                                                                                    v89 &&
                                                                                                                                                                                                                                                  (v67 ==
                                                                                                                                                                                                                                                      v91 &&
                                                                                                                                                                                                                                                    (v69 ==
                                                                                                                                                                                                                                                        v93 &&
                                                                                                                                                                                                                                                      (v71 ==
                                                                                                                                                                                                                                                          v95 &&
                                                                                                                                                                                                                                                        (decide
                                                                                                                                                                                                                                                            (v73 =
                                                                                                                                                                                                                                                              v97) &&
                                                                                                                                                                                                                                                          (decide
                                                                                                                                                                                                                                                              (v75 =
                                                                                                                                                                                                                                                                v99) &&
                                                                                                                                                                                                                                                            (decide
                                                                                                                                                                                                                                                                (v77 =
                                                                                                                                                                                                                                                                  v101) &&
                                                                                                                                                                                                                                                              (decide
                                                                                                                                                                                                                                                                  (v79 =
                                                                                                                                                                                                                                                                    v103) &&
                                                                                                                                                                                                                                                                true))))))))))))
                                                                                                                                                                                                                                        (v57 ==
                                                                                                                                                                                                                                            v81 &&
                                                                                                                                                                                                                                          (v59 ==
                                                                                                                                                                                                                                              v83 &&
                                                                                                                                                                                                                                            (v61 ==
                                                                                                                                                                                                                                                v85 &&
                                                                                                                                                                                                                                              (v63 ==
                                                                                                                                                                                                                                                  v87 &&
                                                                                                                                                                                                                                                (v65 ==
                                                                                                                                                                                                                                                    v89 &&
                                                                                                                                                                                                                                                  (v67 ==
                                                                                                                                                                                                                                                      v91 &&
                                                                                                                                                                                                                                                    (v69 ==
                                                                                                                                                                                                                                                        v93 &&
                                                                                                                                                                                                                                                      (v71 ==
                                                                                                                                                                                                                                                          v95 &&
                                                                                                                                                                                                                                                        (decide
                                                                                                                                                                                                                                                            (v73 =
                                                                                                                                                                                                                                                              v97) &&
                                                                                                                                                                                                                                                          (decide
                                                                                                                                                                                                                                                              (v75 =
                                                                                                                                                                                                                                                                v99) &&
                                                                                                                                                                                                                                                            (decide
                                                                                                                                                                                                                                                                (v77 =
                                                                                                                                                                                                                                                                  v101) &&
                                                                                                                                                                                                                                                              (decide
                                                                                                                                                                                                                                                                  (v79 =
                                                                                                                                                                                                                                                                    v103) &&
                                                                                                                                                                                                                                                                true))))))))))))
                                                                                                                                                                                                                                        true
                                                                                                                                                                                                                                        v106
                                                                                                                                                                                                                                        v106)
                                                                                                                                                                                                                                      v105
                                                                                                                                                                                                                              else
                                                                                                                                                                                                                                J
                                                                                                                                                                                                                                  Ex.normal
                                                                                                                                                                                                                                  (f4e13
                                                                                                                                                                                                                                    y0
                                                                                                                                                                                                                                    false
                                                                                                                                                                                                                                    y1
                                                                                                                                                                                                                                    y2
                                                                                                                                                                                                                                    y3
                                                                                                                                                                                                                                    y4
                                                                                                                                                                                                                                    y1
                                                                                                                                                                                                                                    (y1 ==
                                                                                                                                                                                                                                      (0 :
                                                                                                                                                                                                                                        Int))
                                                                                                                                                                                                                                    true
                                                                                                                                                                                                                                    y4
                                                                                                                                                                                                                                    (y4 ==
                                                                                                                                                                                                                                      (0 :
                                                                                                                                                                                                                                        Int))
                                                                                                                                                                                                                                    (y4 ==
                                                                                                                                                                                                                                      (0 :
                                                                                                                                                                                                                                        Int))
                                                                                                                                                                                                                                    true
                                                                                                                                                                                                                                    y3
                                                                                                                                                                                                                                    (y3 ==
                                                                                                                                                                                                                                      (0 :
                                                                                                                                                                                                                                        Int))
                                                                                                                                                                                                                                    (y3 ==
                                                                                                                                                                                                                                      (0 :
                                                                                                                                                                                                                                        Int))
                                                                                                                                                                                                                                    true
                                                                                                                                                                                                                                    y2
                                                                                                                                                                                                                                    (Sl.o
                                                                                                                                                                                                                                      v1)
                                                                                                                                                                                                                                    (Sl.len
                                                                                                                                                                                                                                      v1)
                                                                                                                                                                                                                                    (Sl.cap
                                                                                                                                                                                                                                      v1)
                                                                                                                                                                                                                                    (↑(Sl.len
                                                                                                                                                                                                                                          v1) :
                                                                                                                                                                                                                                      Int)
                                                                                                                                                                                                                                    ((↑(Sl.len
                                                                                                                                                                                                                                            v1) :
                                                                                                                                                                                                                                        Int) ==
                                                                                                                                                                                                                                      (2 :
                                                                                                                                                                                                                                        Int))
                                                                                                                                                                                                                                    ((↑(Sl.len
                                                                                                                                                                                                                                            v1) :
                                                                                                                                                                                                                                        Int) ==
                                                                                                                                                                                                                                      (2 :
                                                                                                                                                                                                                                        Int))
                                                                                                                                                                                                                                    true
                                                                                                                                                                                                                                    y2
                                                                                                                                                                                                                                    (Sl.o
                                                                                                                                                                                                                                      v3)
                                                                                                                                                                                                                                    (Sl.len
                                                                                                                                                                                                                                      v3)
                                                                                                                                                                                                                                    (Sl.cap
                                                                                                                                                                                                                                      v3)
                                                                                                                                                                                                                                    (some
                                                                                                                                                                                                                                      (Prod.fst
                                                                                                                                                                                                                                          v4,
                                                                                                                                                                                                                                        Prod.snd
                                                                                                                                                                                                                                          v4))
                                                                                                                                                                                                                                    v6
                                                                                                                                                                                                                                    v8
                                                                                                                                                                                                                                    v10
                                                                                                                                                                                                                                    v12
                                                                                                                                                                                                                                    v14
                                                                                                                                                                                                                                    v16
                                                                                                                                                                                                                                    v18
                                                                                                                                                                                                                                    v20
                                                                                                                                                                                                                                    v22
                                                                                                                                                                                                                                    v24
                                                                                                                                                                                                                                    v26
                                                                                                                                                                                                                                    v28
                                                                                                                                                                                                                                    v30
                                                                                                                                                                                                                                    v32
                                                                                                                                                                                                                                    v34
                                                                                                                                                                                                                                    v36
                                                                                                                                                                                                                                    v38
                                                                                                                                                                                                                                    v40
                                                                                                                                                                                                                                    v42
                                                                                                                                                                                                                                    v44
                                                                                                                                                                                                                                    v46
                                                                                                                                                                                                                                    v48
                                                                                                                                                                                                                                    v50
                                                                                                                                                                                                                                    v52
                                                                                                                                                                                                                                    (v6 ==
                                                                                                                                                                                                                                        v30 &&
                                                                                                                                                                                                                                      (v8 ==
                                                                                                                                                                                                                                          v32 &&
                                                                                                                                                                                                                                        (v10 ==
                                                                                                                                                                                                                                            v34 &&
                                                                                                                                                                                                                                          (v12 ==
                                                                                                                                                                                                                                              v36 &&
                                                                                                                                                                                                                                            (v14 ==
                                                                                                                                                                                                                                                v38 &&
                                                                                                                                                                                                                                              (v16 ==
                                                                                                                                                                                                                                                  v40 &&
                                                                                                                                                                                                                                                (v18 ==
                                                                                                                                                                                                                                                    v42 &&
                                                                                                                                                                                                                                                  (v20 ==
                                                                                                                                                                                                                                                      v44 &&
                                                                                                                                                                                                                                                    (decide
                                                                                                                                                                                                                                                        (v22 =
                                                                                                                                                                                                                                                          v46) &&
                                                                                                                                                                                                                                                      (decide
                                                                                                                                                                                                                                                          (v24 =
                                                                                                                                                                                                                                                            v48) &&
                                                                                                                                                                                                                                                        (decide
                                                                                                                                                                                                                                                            (v26 =
                                                                                                                                                                                                                                                              v50) &&
                                                                                                                                                                                                                                                          (decide
                                                                                                                                                                                                                                                              (v28 =
                                                                                                                                                                                                                                                                v52) &&
                                                                                                                                                                                                                                                            true))))))))))))
                                                                                                                                                                                                                                    (v6 ==
                                                                                                                                                                                                                                        v30 &&
                                                                                                                                                                                                                                      (v8 ==
                                                                                                                                                                                                                                          v32 &&
                                                                                                                                                                                                                                        (v10 ==
                                                                                                                                                                                                                                            v34 &&
                                                                                                                                                                                                                                          (v12 ==
                                                                                                                                                                                                                                              v36 &&
                                                                                                                                                                                                                                            (v14 ==
                                                                                                                                                                                                                                                v38 &&
                                                                                                                                                                                                                                              (v16 ==
                                                                                                                                                                                                                                                  v40 &&
                                                                                                                                                                                                                                                (v18 ==
                                                                                                                                                                                                                                                    v42 &&
                                                                                                                                                                                                                                                  (v20 ==
                                                                                                                                                                                                                                                      v44 &&
                                                                                                                                                                                                                                                    (decide
                                                                                                                                                                                                                                                        (v22 =
                                                                                                                                                                                                                                                          v46) &&
                                                                                                                                                                                                                                                      (decide
                                                                                                                                                                                                                                                          (v24 =
                                                                                                                                                                                                                                                            v48) &&
                                                                                                                                                                                                                                                        (decide
                                                                                                                                                                                                                                                            (v26 =
                                                                                                                                                                                                                                                              v50) &&
                                                                                                                                                                                                                                                          (decide
                                                                                                                                                                                                                                                              (v28 =
                                                                                                                                                                                                                                                                v52) &&
                                                                                                                                                                                                                                                            true))))))))))))
                                                                                                                                                                                                                                    true
                                                                                                                                                                                                                                    y2
                                                                                                                                                                                                                                    (Sl.o
                                                                                                                                                                                                                                      v54)
                                                                                                                                                                                                                                    (Sl.len
                                                                                                                                                                                                                                      v54)
                                                                                                                                                                                                                                    (Sl.cap
                                                                                                                                                                                                                                      v54)
                                                                                                                                                                                                                                    (some
                                                                                                                                                                                                                                      (Prod.fst
                                                                                                                                                                                                                                          v55,
                                                                                                                                                                                                                                        Prod.snd
                                                                                                                                                                                                                                            v55 +
                                                                                                                                                                                                                                          (12 :
                                                                                                                                                                                                                                            Nat)))
                                                                                                                                                                                                                                    v57
                                                                                                                                                                                                                                    v59
                                                                                                                                                                                                                                    v61
                                                                                                                                                                                                                                    v63
                                                                                                                                                                                                                                    v65
                                                                                                                                                                                                                                    v67
                                                                                                                                                                                                                                    v69
                                                                                                                                                                                                                                    v71
                                                                                                                                                                                                                                    v73
                                                                                                                                                                                                                                    v75
                                                                                                                                                                                                                                    v77
                                                                                                                                                                                                                                    v79
                                                                                                                                                                                                                                    v81
                                                                                                                                                                                                                                    v83
                                                                                                                                                                                                                                    v85
                                                                                                                                                                                                                                    v87
                                                                                                                                                                                                                                    v89
                                                                                                                                                                                                                                    v91
                                                                                                                                                                                                                                    v93
                                                                                                                                                                                                                                    v95
                                                                                                                                                                                                                                    v97
                                                                                                                                                                                                                                    v99
                                                                                                                                                                                                                                    v101
                                                                                                                                                                                                                                    v103
                                                                                                                                                                                                                                    (v57 ==
                                                                                                                                                                                                                                        v81 &&
                                                                                                                                                                                                                                      (v59 ==
                                                                                                                                                                                                                                          v83 &&
                                                                                                                                                                                                                                        (v61 ==
                                                                                                                                                                                                                                            v85 &&
                                                                                                                                                                                                                                          (v63 ==
                                                                                                                                                                                                                                              v87 &&
                                                                                                                                                                                                                                            (v65 ==
                                                                                                                                                                                                                                                v89 &&
                                                                                                                                                                                                                                              (v67 ==
                                                                                                                                                                                                                                                  v91 &&
                                                                                                                                                                                                                                                (v69 ==
                                                                                                                                                                                                                                                    v93 &&
                                                                                                                                                                                                                                                  (v71 ==
                                                                                                                                                                                                                                                      v95 &&
                                                                                                                                                                                                                                                    (decide
                                                                                                                                                                                                                                                        (v73 =
                                                                                                                                                                                                                                                          v97) &&
                                                                                                                                                                                                                                                      (decide
                                                                                                                                                                                                                                                          (v75 =
                                                                                                                                                                                                                                                            v99) &&
                                                                                                                                                                                                                                                        (decide
                                                                                                                                                                                                                                                            (v77 =
                                                                                                                                                                                                                                                              v101) &&
                                                                                                                                                                                                                                                          (decide
                                                                                                                                                                                                                                                              (v79 =
                                                                                                                                                                                                                                                                v103) &&
                                                                                                                                                                                                                                                            true))))))))))))
                                                                                                                                                                                                                                    (v57 ==
                                                                                                                                                                                                                                        v81 &&
                                                                                                                                                                                                                                      (v59 ==
                                                                                                                                                                                                                                          v83 &&
                                                                                                                                                                                                                                        (v61 ==
                                                                                                                                                                                                                                            v85 &&
                                                                                                                                                                                                                                          (v63 ==
                                                                                                                                                                                                                                              v87 &&
                                                                                                                                                                                                                                            (v65 ==
                                                                                                                                                                                                                                                v89 &&
                                                                                                                                                                                                                                              (v67 ==
                                                                                                                                                                                                                                                  v91 &&
                                                                                                                                                                                                                                                (v69 ==
                                                                                                                                                                                                                                                    v93 &&
                                                                                                                                                                                                                                                  (v71 ==
                                                                                                                                                                                                                                                      v95 &&
                                                                                                                                                                                                                                                    (decide
                                                                                                                                                                                                                                                        (v73 =
                                                                                                                                                                                                                                                          v97) &&
                                                                                                                                                                                                                                                      (decide
                                                                                                                                                                                                                                                          (v75 =
                                                                                                                                                                                                                                                            v99) &&
                                                                                                                                                                                                                                                        (decide
                                                                                                                                                                                                                                                            (v77 =
                                                                                                                                                                                                                                                              v101) &&
                                                                                                                                                                                                                                                          (decide
                                                                                                                                                                                                                                                              (v79 =
                                                                                                                                                                                                                                                                v103) &&
                                                                                                                                                                                                                                                            true))))))))))))
                                                                                                                                                                                                                                    false
                                                                                                                                                                                                                                    false)
                                                                                                                                                                                                                                  σ
                                                                                                                          else none
                                                                                                                    else
                                                                                                                      J Ex.normal
                                                                                                                        (f4e14 y0 false y1 y2 y3 y4 y1
                                                                                                                          (y1 == (0 : Int)) true y4
                                                                                                                          (y4 == (0 : Int))
                                                                                                                          (y4 == (0 : Int)) true y3
                                                                                                                          (y3 == (0 : Int))
                                                                                                                          (y3 == (0 : Int)) true y2
                                                                                                                          (Sl.o v1) (Sl.len v1)
                                                                                                                          (Sl.cap v1)
                                                                                                                          (↑(Sl.len v1) : Int)
                                                                                                                          ((↑(Sl.len v1) : Int) ==
                                                                                                                            (2 : Int))
                                                                                                                          ((↑(Sl.len v1) : Int) ==
                                                                                                                            (2 : Int))
                                                                                                                          true y2 (Sl.o v3)
                                                                                                                          (Sl.len v3) (Sl.cap v3)
                                                                                                                          (some
                                                                                                                            (Prod.fst v4,
                                                                                                                              Prod.snd v4))
                                                                                                                          v6 v8 v10 v12 v14 v16 v18
                                                                                                                          v20 v22 v24 v26 v28 v30 v32
                                                                                                                          v34 v36 v38 v40 v42 v44 v46
                                                                                                                          v48 v50 v52
                                                                                                                          (v6 == v30 &&
                                                                                                                            (v8 == v32 &&
                                                                                                                              (v10 == v34 &&
                                                                                                                                (v12 == v36 &&
                                                                                                                                  (v14 == v38 &&
                                                                                                                                    (v16 == v40 &&
                                                                                                                                      (v18 == v42 &&
                                                                                                                                        (v20 == v44 &&
                                                                                                                                          (decide
                                                                                                                                              (v22 =
                                                                                                                                                v46) &&
                                                                                                                                            (decide
                                                                                                                                                (v24 =
                                                                                                                                                  v48) &&
                                                                                                                                              (decide
                                                                                                                                                  (v26 =
                                                                                                                                                    v50) &&
                                                                                                                                                (decide
                                                                                                                                                    (v28 =
                                                                                                                                                      v52) &&
                                                                                                                                                  true))))))))))))
                                                                                                                          (v6 == v30 &&
                                                                                                                            (v8 == v32 &&
                                                                                                                              (v10 == v34 &&
                                                                                                                                (v12 == v36 &&
                                                                                                                                  (v14 == v38 &&
                                                                                                                                    (v16 == v40 &&
                                                                                                                                      (v18 == v42 &&
                                                                                                                                        (v20 == v44 &&
                                                                                                                                          (decide
                                                                                                                                              (v22 =
                                                                                                                                                v46) &&
                                                                                                                                            (decide
                                                                                                                                                (v24 =
                                                                                                                                                  v48) &&
                                                                                                                                              (decide
                                                                                                                                                  (v26 =
                                                                                                                                                    v50) &&
                                                                                                                                                (decide
                                                                                                                                                    (v28 =
                                                                                                                                                      v52) &&
                                                                                                                                                  true))))))))))))
                                                                                                                          false false false false)
                                                                                                                        σ
                else none
          else
            J Ex.normal
              (f4e15 y0 false y1 y2 y3 y4 y1 (y1 == (0 : Int)) true y4 (y4 == (0 : Int)) (y4 == (0 : Int)) true y3 (y3 == (0 : Int)) (y3 == (0 : Int))
                true y2 (Sl.o v1) (Sl.len v1) (Sl.cap v1) (↑(Sl.len v1) : Int) ((↑(Sl.len v1) : Int) == (2 : Int)) ((↑(Sl.len v1) : Int) == (2 : Int))
                false false false false false false)
              σ
    else
      J Ex.normal
        (f4e16 y0 false y1 y2 y3 y4 y1 (y1 == (0 : Int)) true y4 (y4 == (0 : Int)) (y4 == (0 : Int)) true y3 (y3 == (0 : Int)) (y3 == (0 : Int)) false
          false false false false false false false)
        σ
  else
    J Ex.normal
      (f4e17 y0 false y1 y2 y3 y4 y1 (y1 == (0 : Int)) true y4 (y4 == (0 : Int)) (y4 == (0 : Int)) false false false false false false false false
        false false)
      σ
else J Ex.normal (f4e18 y0 false y1 y2 y3 y4 y1 (y1 == (0 : Int)) false false false false false false false false false false false false) σ := hide (by kernel_rfl)
theorem f4z14_f4e12 (y0 : Nat) (y1 : Bool) (y2 : Int) (y3 : Nat) (y4 : Int) (y5 : Int) (y6 : Int) (y7 : Bool) (y8 : Bool) (y9 : Int) (y10 : Bool) (y11 : Bool) (y12 : Bool) (y13 : Int) (y14 : Bool) (y15 : Bool) (y16 : Bool) (y17 : Nat) (y18 : Option (Nat × Nat)) (y19 : Nat) (y20 : Option Nat) (y21 : Int) (y22 : Bool) (y23 : Bool) (y24 : Bool) (y25 : Nat) (y26 : Option (Nat × Nat)) (y27 : Nat) (y28 : Option Nat) (y29 : Option (Nat × Nat)) (y30 : Int) (y31 : Int) (y32 : Int) (y33 : Int) (y34 : Int) (y35 : Int) (y36 : Int) (y37 : Int) (y38 : ByteArray) (y39 : ByteArray) (y40 : ByteArray) (y41 : ByteArray) (y42 : Int) (y43 : Int) (y44 : Int) (y45 : Int) (y46 : Int) (y47 : Int) (y48 : Int) (y49 : Int) (y50 : ByteArray) (y51 : ByteArray) (y52 : ByteArray) (y53 : ByteArray) (y54 : Bool) (y55 : Bool) (y56 : Bool) (y57 : Nat) (y58 : Option (Nat × Nat)) (y59 : Nat) (y60 : Option Nat) (y61 : Option (Nat × Nat)) (y62 : Int) (y63 : Int) (y64 : Int) (y65 : Int) (y66 : Int) (y67 : Int) (y68 : Int) (y69 : Int) (y70 : ByteArray) (y71 : ByteArray) (y72 : ByteArray) (y73 : ByteArray) (y74 : Int) (y75 : Int) (y76 : Int) (y77 : Int) (y78 : Int) (y79 : Int) (y80 : Int) (y81 : Int) (y82 : ByteArray) (y83 : ByteArray) (y84 : ByteArray) (y85 : ByteArray) (y86 : Bool) (y87 : Bool) (y88 : Bool) (y89 : Bool) (y90 : Bool) : Ann.clr f4a14 (f4e12 y0 y1 y2 y3 y4 y5 y6 y7 y8 y9 y10 y11 y12 y13 y14 y15 y16 y17 y18 y19 y20 y21 y22 y23 y24 y25 y26 y27 y28 y29 y30 y31 y32 y33 y34 y35 y36 y37
  y38 y39 y40 y41 y42 y43 y44 y45 y46 y47 y48 y49 y50 y51 y52 y53 y54 y55 y56 y57 y58 y59 y60 y61 y62 y63 y64 y65 y66 y67 y68 y69 y70 y71 y72 y73 y74
  y75 y76 y77 y78 y79 y80 y81 y82 y83 y84 y85 y86 y87 y88 y89 y90) = f4e7 y1 := hide (by kernel_rfl)
theorem f4y16_f4e7 {R : Type} (call : Bool → CallF R) (dem : Bool) (N : Nat) (y0 : Bool) (J : KF R) (σ : St) : runK Tryz.prog call dem N f4c16 f4a16 J (f4e7 y0) σ = J .ret (f4e7 y0) σ := runK_ret' (by kernel_rfl) (by kernel_rfl)
theorem f4z14_f4e13 (y0 : Nat) (y1 : Bool) (y2 : Int) (y3 : Nat) (y4 : Int) (y5 : Int) (y6 : Int) (y7 : Bool) (y8 : Bool) (y9 : Int) (y10 : Bool) (y11 : Bool) (y12 : Bool) (y13 : Int) (y14 : Bool) (y15 : Bool) (y16 : Bool) (y17 : Nat) (y18 : Option (Nat × Nat)) (y19 : Nat) (y20 : Option Nat) (y21 : Int) (y22 : Bool) (y23 : Bool) (y24 : Bool) (y25 : Nat) (y26 : Option (Nat × Nat)) (y27 : Nat) (y28 : Option Nat) (y29 : Option (Nat × Nat)) (y30 : Int) (y31 : Int) (y32 : Int) (y33 : Int) (y34 : Int) (y35 : Int) (y36 : Int) (y37 : Int) (y38 : ByteArray) (y39 : ByteArray) (y40 : ByteArray) (y41 : ByteArray) (y42 : Int) (y43 : Int) (y44 : Int) (y45 : Int) (y46 : Int) (y47 : Int) (y48 : Int) (y49 : Int) (y50 : ByteArray) (y51 : ByteArray) (y52 : ByteArray) (y53 : ByteArray) (y54 : Bool) (y55 : Bool) (y56 : Bool) (y57 : Nat) (y58 : Option (Nat × Nat)) (y59 : Nat) (y60 : Option Nat) (y61 : Option (Nat × Nat)) (y62 : Int) (y63 : Int) (y64 : Int) (y65 : Int) (y66 : Int) (y67 : Int) (y68 : Int) (y69 : Int) (y70 : ByteArray) (y71 : ByteArray) (y72 : ByteArray) (y73 : ByteArray) (y74 : Int) (y75 : Int) (y76 : Int) (y77 : Int) (y78 : Int) (y79 : Int) (y80 : Int) (y81 : Int) (y82 : ByteArray) (y83 : ByteArray) (y84 : ByteArray) (y85 : ByteArray) (y86 : Bool) (y87 : Bool) (y88 : Bool) (y89 : Bool) : Ann.clr f4a14 (f4e13 y0 y1 y2 y3 y4 y5 y6 y7 y8 y9 y10 y11 y12 y13 y14 y15 y16 y17 y18 y19 y20 y21 y22 y23 y24 y25 y26 y27 y28 y29 y30 y31 y32 y33 y34 y35 y36 y37
  y38 y39 y40 y41 y42 y43 y44 y45 y46 y47 y48 y49 y50 y51 y52 y53 y54 y55 y56 y57 y58 y59 y60 y61 y62 y63 y64 y65 y66 y67 y68 y69 y70 y71 y72 y73 y74
  y75 y76 y77 y78 y79 y80 y81 y82 y83 y84 y85 y86 y87 y88 y89) = f4e7 y1 := hide (by kernel_rfl)
theorem f4z14_f4e14 (y0 : Nat) (y1 : Bool) (y2 : Int) (y3 : Nat) (y4 : Int) (y5 : Int) (y6 : Int) (y7 : Bool) (y8 : Bool) (y9 : Int) (y10 : Bool) (y11 : Bool) (y12 : Bool) (y13 : Int) (y14 : Bool) (y15 : Bool) (y16 : Bool) (y17 : Nat) (y18 : Option (Nat × Nat)) (y19 : Nat) (y20 : Option Nat) (y21 : Int) (y22 : Bool) (y23 : Bool) (y24 : Bool) (y25 : Nat) (y26 : Option (Nat × Nat)) (y27 : Nat) (y28 : Option Nat) (y29 : Option (Nat × Nat)) (y30 : Int) (y31 : Int) (y32 : Int) (y33 : Int) (y34 : Int) (y35 : Int) (y36 : Int) (y37 : Int) (y38 : ByteArray) (y39 : ByteArray) (y40 : ByteArray) (y41 : ByteArray) (y42 : Int) (y43 : Int) (y44 : Int) (y45 : Int) (y46 : Int) (y47 : Int) (y48 : Int) (y49 : Int) (y50 : ByteArray) (y51 : ByteArray) (y52 : ByteArray) (y53 : ByteArray) (y54 : Bool) (y55 : Bool) (y56 : Bool) (y57 : Bool) (y58 : Bool) (y59 : Bool) : Ann.clr f4a14 (f4e14 y0 y1 y2 y3 y4 y5 y6 y7 y8 y9 y10 y11 y12 y13 y14 y15 y16 y17 y18 y19 y20 y21 y22 y23 y24 y25 y26 y27 y28 y29 y30 y31 y32 y33 y34 y35 y36 y37
  y38 y39 y40 y41 y42 y43 y44 y45 y46 y47 y48 y49 y50 y51 y52 y53 y54 y55 y56 y57 y58 y59) = f4e7 y1 := hide (by kernel_rfl)
theorem f4z14_f4e15 (y0 : Nat) (y1 : Bool) (y2 : Int) (y3 : Nat) (y4 : Int) (y5 : Int) (y6 : Int) (y7 : Bool) (y8 : Bool) (y9 : Int) (y10 : Bool) (y11 : Bool) (y12 : Bool) (y13 : Int) (y14 : Bool) (y15 : Bool) (y16 : Bool) (y17 : Nat) (y18 : Option (Nat × Nat)) (y19 : Nat) (y20 : Option Nat) (y21 : Int) (y22 : Bool) (y23 : Bool) (y24 : Bool) (y25 : Bool) (y26 : Bool) (y27 : Bool) (y28 : Bool) (y29 : Bool) : Ann.clr f4a14 (f4e15 y0 y1 y2 y3 y4 y5 y6 y7 y8 y9 y10 y11 y12 y13 y14 y15 y16 y17 y18 y19 y20 y21 y22 y23 y24 y25 y26 y27 y28 y29) = f4e7 y1 := hide (by kernel_rfl)
theorem f4z14_f4e16 (y0 : Nat) (y1 : Bool) (y2 : Int) (y3 : Nat) (y4 : Int) (y5 : Int) (y6 : Int) (y7 : Bool) (y8 : Bool) (y9 : Int) (y10 : Bool) (y11 : Bool) (y12 : Bool) (y13 : Int) (y14 : Bool) (y15 : Bool) (y16 : Bool) (y17 : Bool) (y18 : Bool) (y19 : Bool) (y20 : Bool) (y21 : Bool) (y22 : Bool) (y23 : Bool) : Ann.clr f4a14 (f4e16 y0 y1 y2 y3 y4 y5 y6 y7 y8 y9 y10 y11 y12 y13 y14 y15 y16 y17 y18 y19 y20 y21 y22 y23) = f4e7 y1 := hide (by kernel_rfl)
theorem f4z14_f4e17 (y0 : Nat) (y1 : Bool) (y2 : Int) (y3 : Nat) (y4 : Int) (y5 : Int) (y6 : Int) (y7 : Bool) (y8 : Bool) (y9 : Int) (y10 : Bool) (y11 : Bool) (y12 : Bool) (y13 : Bool) (y14 : Bool) (y15 : Bool) (y16 : Bool) (y17 : Bool) (y18 : Bool) (y19 : Bool) (y20 : Bool) (y21 : Bool) : Ann.clr f4a14 (f4e17 y0 y1 y2 y3 y4 y5 y6 y7 y8 y9 y10 y11 y12 y13 y14 y15 y16 y17 y18 y19 y20 y21) = f4e7 y1 := hide (by kernel_rfl)
theorem f4z14_f4e18 (y0 : Nat) (y1 : Bool) (y2 : Int) (y3 : Nat) (y4 : Int) (y5 : Int) (y6 : Int) (y7 : Bool) (y8 : Bool) (y9 : Bool) (y10 : Bool) (y11 : Bool) (y12 : Bool) (y13 : Bool) (y14 : Bool) (y15 : Bool) (y16 : Bool) (y17 : Bool) (y18 : Bool) (y19 : Bool) : Ann.clr f4a14 (f4e18 y0 y1 y2 y3 y4 y5 y6 y7 y8 y9 y10 y11 y12 y13 y14 y15 y16 y17 y18 y19) = f4e7 y1 := hide (by kernel_rfl)
theorem f4b_f4e7_r {R : Type} (y0 : Bool) (σ : St) (K : AV → St → Option R) : bodyC Tryz.prog f4rs K (Ex.ret) (f4e7 y0) σ =
K (AV.bool y0) σ := hide (by kernel_rfl)
attribute [go_sem] f4_eq f4n0 f4r1_f4e0 f4z0_f4e1 f4n2 f4n3 f4r5_f4e2 f4z3_f4e3 f4x6_f4e5 f4n7 f4r9_f4e5 f4z7_f4e6 f4y10_f4e7 f4n8 f4z6_f4e5 f4z3_f4e4 f4z2_f4e2 f4n4 f4r11_f4e2 f4z4_f4e8 f4n12 f4r13_f4e9 f4z12_f4e10 f4n14 f4r15_f4e11 f4z14_f4e12 f4y16_f4e7 f4z14_f4e13 f4z14_f4e14 f4z14_f4e15 f4z14_f4e16 f4z14_f4e17 f4z14_f4e18 f4b_f4e7_r

end Go.Proofs.YtnjhcfcnpapaiaaGreatDoor
