/- What the machine does with each piece of code, in plain text. PRINTED by a program of this workplace; Lean checks it. -/
import Derived.Test.YtnjhcfcnpapaiaaGreatDoorTaAnn
import Derived.Test.YtnjhcfcnpapaiaaGreatDoorProg
import Derived.KernelRfl
import Derived.Attr
namespace Go.Proofs.YtnjhcfcnpapaiaaGreatDoor
open Go.AM
set_option maxRecDepth 100000
set_option linter.unusedVariables false
noncomputable def f7rs : List ResultVar := [ResultVar.tmp (2 : Nat), ResultVar.tmp (3 : Nat)]
noncomputable def f7c0 : Code := subCode [] (bodyOf Tryz.prog 7)
def f7a0 : Ann := subAnn [] ann7
noncomputable def f7c1 : Code := subCode [0] (bodyOf Tryz.prog 7)
def f7a1 : Ann := subAnn [0] ann7
noncomputable def f7c2 : Code := subCode [1] (bodyOf Tryz.prog 7)
def f7a2 : Ann := subAnn [1] ann7
noncomputable def f7c3 : Code := subCode [1, 0] (bodyOf Tryz.prog 7)
def f7a3 : Ann := subAnn [1, 0] ann7
noncomputable def f7c4 : Code := subCode [1, 1] (bodyOf Tryz.prog 7)
def f7a4 : Ann := subAnn [1, 1] ann7
noncomputable def f7c5 : Code := subCode [1, 0, 0] (bodyOf Tryz.prog 7)
def f7a5 : Ann := subAnn [1, 0, 0] ann7
noncomputable def f7c6 : Code := subCode [1, 0, 1] (bodyOf Tryz.prog 7)
def f7a6 : Ann := subAnn [1, 0, 1] ann7
noncomputable def f7c7 : Code := subCode [1, 0, 1, 0] (bodyOf Tryz.prog 7)
def f7a7 : Ann := subAnn [1, 0, 1, 0] ann7
noncomputable def f7c8 : Code := subCode [1, 0, 1, 1] (bodyOf Tryz.prog 7)
def f7a8 : Ann := subAnn [1, 0, 1, 1] ann7
noncomputable def f7c9 : Code := subCode [1, 0, 1, 0, 0] (bodyOf Tryz.prog 7)
def f7a9 : Ann := subAnn [1, 0, 1, 0, 0] ann7
noncomputable def f7c10 : Code := subCode [1, 0, 1, 0, 1] (bodyOf Tryz.prog 7)
def f7a10 : Ann := subAnn [1, 0, 1, 0, 1] ann7
noncomputable def f7c11 : Code := subCode [1, 1, 0] (bodyOf Tryz.prog 7)
def f7a11 : Ann := subAnn [1, 1, 0] ann7
noncomputable def f7c12 : Code := subCode [1, 1, 1] (bodyOf Tryz.prog 7)
def f7a12 : Ann := subAnn [1, 1, 1] ann7
noncomputable def f7c13 : Code := subCode [1, 1, 1, 0] (bodyOf Tryz.prog 7)
def f7a13 : Ann := subAnn [1, 1, 1, 0] ann7
noncomputable def f7c14 : Code := subCode [1, 1, 1, 1] (bodyOf Tryz.prog 7)
def f7a14 : Ann := subAnn [1, 1, 1, 1] ann7
noncomputable def f7c15 : Code := subCode [1, 1, 1, 0, 0] (bodyOf Tryz.prog 7)
def f7a15 : Ann := subAnn [1, 1, 1, 0, 0] ann7
noncomputable def f7c16 : Code := subCode [1, 1, 1, 0, 1] (bodyOf Tryz.prog 7)
def f7a16 : Ann := subAnn [1, 1, 1, 0, 1] ann7
noncomputable def f7c17 : Code := subCode [1, 1, 1, 0, 1, 0] (bodyOf Tryz.prog 7)
def f7a17 : Ann := subAnn [1, 1, 1, 0, 1, 0] ann7
noncomputable def f7c18 : Code := subCode [1, 1, 1, 0, 1, 0, 0] (bodyOf Tryz.prog 7)
def f7a18 : Ann := subAnn [1, 1, 1, 0, 1, 0, 0] ann7
noncomputable def f7c19 : Code := subCode [1, 1, 1, 0, 1, 0, 0, 0] (bodyOf Tryz.prog 7)
def f7a19 : Ann := subAnn [1, 1, 1, 0, 1, 0, 0, 0] ann7
noncomputable def f7c20 : Code := subCode [1, 1, 1, 0, 1, 0, 0, 1] (bodyOf Tryz.prog 7)
def f7a20 : Ann := subAnn [1, 1, 1, 0, 1, 0, 0, 1] ann7
noncomputable def f7c21 : Code := subCode [1, 1, 1, 0, 1, 0, 0, 1, 0] (bodyOf Tryz.prog 7)
def f7a21 : Ann := subAnn [1, 1, 1, 0, 1, 0, 0, 1, 0] ann7
noncomputable def f7c22 : Code := subCode [1, 1, 1, 0, 1, 0, 0, 1, 1] (bodyOf Tryz.prog 7)
def f7a22 : Ann := subAnn [1, 1, 1, 0, 1, 0, 0, 1, 1] ann7
noncomputable def f7c23 : Code := subCode [1, 1, 1, 0, 1, 0, 0, 1, 0, 0] (bodyOf Tryz.prog 7)
def f7a23 : Ann := subAnn [1, 1, 1, 0, 1, 0, 0, 1, 0, 0] ann7
noncomputable def f7c24 : Code := subCode [1, 1, 1, 0, 1, 0, 0, 1, 0, 1] (bodyOf Tryz.prog 7)
def f7a24 : Ann := subAnn [1, 1, 1, 0, 1, 0, 0, 1, 0, 1] ann7
noncomputable def f7c25 : Code := subCode [1, 1, 1, 0, 1, 0, 0, 1, 1, 0] (bodyOf Tryz.prog 7)
def f7a25 : Ann := subAnn [1, 1, 1, 0, 1, 0, 0, 1, 1, 0] ann7
noncomputable def f7c26 : Code := subCode [1, 1, 1, 0, 1, 0, 0, 1, 1, 1] (bodyOf Tryz.prog 7)
def f7a26 : Ann := subAnn [1, 1, 1, 0, 1, 0, 0, 1, 1, 1] ann7
noncomputable def f7c27 : Code := subCode [1, 1, 1, 0, 1, 0, 0, 1, 1, 0, 0] (bodyOf Tryz.prog 7)
def f7a27 : Ann := subAnn [1, 1, 1, 0, 1, 0, 0, 1, 1, 0, 0] ann7
noncomputable def f7c28 : Code := subCode [1, 1, 1, 0, 1, 0, 0, 1, 1, 0, 0, 0] (bodyOf Tryz.prog 7)
def f7a28 : Ann := subAnn [1, 1, 1, 0, 1, 0, 0, 1, 1, 0, 0, 0] ann7
noncomputable def f7c29 : Code := subCode [1, 1, 1, 0, 1, 0, 0, 1, 1, 0, 0, 1] (bodyOf Tryz.prog 7)
def f7a29 : Ann := subAnn [1, 1, 1, 0, 1, 0, 0, 1, 1, 0, 0, 1] ann7
noncomputable def f7c30 : Code := subCode [1, 1, 1, 1, 0] (bodyOf Tryz.prog 7)
def f7a30 : Ann := subAnn [1, 1, 1, 1, 0] ann7
noncomputable def f7c31 : Code := subCode [1, 1, 1, 1, 1] (bodyOf Tryz.prog 7)
def f7a31 : Ann := subAnn [1, 1, 1, 1, 1] ann7
noncomputable def f7L17 {R : Type} (call : Bool → CallF R) (dem : Bool) (N : Nat) : KF R → Env → St → Option R := fun K e σ => runK Tryz.prog call dem N f7c18 f7a18 K e σ
def f7e0 (y0 : Int) (y1 : Int) (y2 : Int) (y3 : ByteArray) (y4 : Option (Nat × Nat)) (y5 : Nat) (y6 : Option Nat) (y7 : Option (Nat × Nat)) (y8 : Nat) (y9 : Option Nat) : Env := AV.agg [AV.int IntKind.i64 y0, AV.int IntKind.i64 y1, AV.int IntKind.i64 y2, AV.str y3, AV.slice y4 y5 y6 (1 : Nat), AV.slice y7 y8 y9 (12 : Nat)] :: Env.sp 32 []
def f7e1 (y0 : Int) (y1 : Int) (y2 : Int) (y3 : ByteArray) (y4 : Option (Nat × Nat)) (y5 : Nat) (y6 : Option Nat) (y7 : Option (Nat × Nat)) (y8 : Nat) (y9 : Option Nat) (y10 : Nat) (y11 : ByteArray) (y12 : Int) : Env := AV.agg [AV.int IntKind.i64 y0, AV.int IntKind.i64 y1, AV.int IntKind.i64 y2, AV.str y3, AV.slice y4 y5 y6 (1 : Nat), AV.slice y7 y8 y9 (12 : Nat)] :: AV.ptr (some (y10, (0 : Nat))) :: AV.str y11 :: AV.int IntKind.i64 y12 :: Env.sp 29 []
def f7e2 (y0 : Nat) : Env := Env.sp 1 (AV.ptr (some (y0, (0 : Nat))) :: Env.sp 31 [])
def f7e3 (y0 : Nat) (y1 : Nat) (y2 : Option (Nat × Nat)) (y3 : Nat) (y4 : Option Nat) (y5 : Int) (y6 : Bool) (y7 : Bool) (y8 : Bool) : Env := Env.sp 1 (AV.ptr (some (y0, (0 : Nat))) :: Env.sp 5 (AV.ptr (some (y1, (5 : Nat))) :: AV.slice y2 y3 y4 (12 : Nat) :: AV.int IntKind.i64 y5 :: AV.bool y6 :: AV.bool y7 :: AV.tuple [] :: AV.tuple [] :: AV.bool y8 :: Env.sp 18 []))
def f7e4 (y0 : Nat) (y1 : Nat) (y2 : Option (Nat × Nat)) (y3 : Nat) (y4 : Option Nat) (y5 : Int) (y6 : Bool) (y7 : Bool) (y8 : Int) (y9 : Int) (y10 : Int) (y11 : ByteArray) (y12 : Option (Nat × Nat)) (y13 : Nat) (y14 : Option Nat) (y15 : Option (Nat × Nat)) (y16 : Nat) (y17 : Option Nat) (y18 : Bool) (y19 : Bool) : Env := Env.sp 1 (AV.ptr (some (y0, (0 : Nat))) :: Env.sp 5 (AV.ptr (some (y1, (5 : Nat))) :: AV.slice y2 y3 y4 (12 : Nat) :: AV.int IntKind.i64 y5 :: AV.bool y6 :: AV.bool y7 :: AV.agg
  [AV.int IntKind.i64 y8, AV.int IntKind.i64 y9, AV.int IntKind.i64 y10, AV.str y11, AV.slice y12 y13 y14 (1 : Nat), AV.slice y15 y16 y17 (12 : Nat)] :: AV.bool y18 :: AV.bool y19 :: Env.sp 18 []))
def f7e5 (y0 : Nat) (y1 : Bool) : Env := Env.sp 1 (AV.ptr (some (y0, (0 : Nat))) :: Env.sp 12 (AV.bool y1 :: Env.sp 18 []))
def f7e6 (y0 : Nat) (y1 : ByteArray) (y2 : Int) (y3 : Bool) : Env := Env.sp 1 (AV.ptr (some (y0, (0 : Nat))) :: AV.str y1 :: AV.int IntKind.i64 y2 :: Env.sp 10 (AV.bool y3 :: Env.sp 18 []))
def f7e7 (y0 : ByteArray) (y1 : Int) : Env := Env.sp 2 (AV.str y0 :: AV.int IntKind.i64 y1 :: Env.sp 29 [])
def f7e8 (y0 : Nat) (y1 : Option (Nat × Nat)) (y2 : Nat) (y3 : Option Nat) (y4 : Int) (y5 : Int) (y6 : Int) (y7 : ByteArray) (y8 : Option (Nat × Nat)) (y9 : Nat) (y10 : Option Nat) (y11 : Option (Nat × Nat)) (y12 : Nat) (y13 : Option Nat) (y14 : ByteArray) (y15 : Option (Nat × Nat)) (y16 : Nat) (y17 : Option Nat) : Env := Env.sp 1 (AV.ptr (some (y0, (0 : Nat))) :: Env.sp 2 (AV.slice y1 y2 y3 (1 : Nat) :: Env.sp 10 (AV.agg [AV.int IntKind.i64 y4, AV.int IntKind.i64 y5, AV.int IntKind.i64 y6, AV.str y7, AV.slice y8 y9 y10 (1 : Nat), AV.slice y11 y12 y13 (12 : Nat)] :: AV.str y14 :: AV.slice y15 y16 y17 (1 : Nat) :: Env.sp 15 [])))
def f7e9 (y0 : Nat) (y1 : Option (Nat × Nat)) (y2 : Nat) (y3 : Option Nat) : Env := Env.sp 1 (AV.ptr (some (y0, (0 : Nat))) :: Env.sp 2 (AV.slice y1 y2 y3 (1 : Nat) :: Env.sp 28 []))
def f7e10 (y0 : Nat) (y1 : Option (Nat × Nat)) (y2 : Nat) (y3 : Option Nat) (y4 : Nat) (y5 : Option (Nat × Nat)) (y6 : Nat) (y7 : Option Nat) (y8 : Int) (y9 : Int) : Env := Env.sp 1 (AV.ptr (some (y0, (0 : Nat))) :: Env.sp 2 (AV.slice y1 y2 y3 (1 : Nat) :: Env.sp 13 (AV.ptr (some (y4, (5 : Nat))) :: AV.slice y5 y6 y7 (12 : Nat) :: AV.int IntKind.i64 y8 :: AV.int IntKind.i64 y9 :: Env.sp 11 [])))
def f7e11 (y0 : Option (Nat × Nat)) (y1 : Nat) (y2 : Option Nat) (y3 : Option (Nat × Nat)) (y4 : Nat) (y5 : Option Nat) (y6 : Int) (y7 : Int) : Env := Env.sp 4 (AV.slice y0 y1 y2 (1 : Nat) :: Env.sp 14 (AV.slice y3 y4 y5 (12 : Nat) :: AV.int IntKind.i64 y6 :: AV.int IntKind.i64 y7 :: Env.sp 11 []))
def f7e12 (y0 : Option (Nat × Nat)) (y1 : Nat) (y2 : Option Nat) (y3 : Option (Nat × Nat)) (y4 : Nat) (y5 : Option Nat) (y6 : Int) (y7 : Int) (y8 : Bool) : Env := Env.sp 4 (AV.slice y0 y1 y2 (1 : Nat) :: Env.sp 14 (AV.slice y3 y4 y5 (12 : Nat) :: AV.int IntKind.i64 y6 :: AV.int IntKind.i64 y7 :: AV.bool y8 :: Env.sp 10 []))
def f7e13 (y0 : Option (Nat × Nat)) (y1 : Nat) (y2 : Option Nat) : Env := Env.sp 4 (AV.slice y0 y1 y2 (1 : Nat) :: Env.sp 28 [])
def f7e14 (y0 : Option (Nat × Nat)) (y1 : Nat) (y2 : Option Nat) (y3 : Nat) (y4 : Option (Nat × Nat)) (y5 : Nat) (y6 : Option Nat) (y7 : Int) (y8 : Int) (y9 : Option (Nat × Nat)) (y10 : Int) (y11 : Int) (y12 : Int) (y13 : Int) (y14 : Int) (y15 : Int) (y16 : Int) (y17 : Int) (y18 : ByteArray) (y19 : ByteArray) (y20 : ByteArray) (y21 : ByteArray) : Env := Env.sp 4 (AV.slice y0 y1 y2 (1 : Nat) :: Env.sp 1 (AV.ptr (some (y3, (0 : Nat))) :: Env.sp 12 (AV.slice y4 y5 y6 (12 : Nat) :: AV.int IntKind.i64 y7 :: AV.int IntKind.i64 y8 :: Env.sp 1 (AV.ptr y9 :: AV.agg
  [AV.int IntKind.i64 y10, AV.int IntKind.i64 y11, AV.int IntKind.i64 y12, AV.int IntKind.i64 y13, AV.int IntKind.i64 y14, AV.int IntKind.i64 y15,
    AV.int IntKind.i64 y16, AV.int IntKind.i64 y17, AV.str y18, AV.str y19, AV.str y20, AV.str y21] :: Env.sp 8 []))))
def f7e15 (y0 : Option (Nat × Nat)) (y1 : Nat) (y2 : Option Nat) (y3 : Nat) (y4 : Option (Nat × Nat)) (y5 : Nat) (y6 : Option Nat) (y7 : Int) (y8 : Int) : Env := Env.sp 4 (AV.slice y0 y1 y2 (1 : Nat) :: Env.sp 1 (AV.ptr (some (y3, (0 : Nat))) :: Env.sp 12 (AV.slice y4 y5 y6 (12 : Nat) :: AV.int IntKind.i64 y7 :: AV.int IntKind.i64 y8 :: Env.sp 11 [])))
def f7e16 (y0 : Option (Nat × Nat)) (y1 : Nat) (y2 : Option Nat) (y3 : Nat) (y4 : Option (Nat × Nat)) (y5 : Nat) (y6 : Option Nat) (y7 : Int) (y8 : Int) (y9 : Option (Nat × Nat)) (y10 : Nat) (y11 : Option Nat) (y12 : Int) (y13 : Int) (y14 : Int) (y15 : Int) (y16 : Int) (y17 : Int) (y18 : Int) (y19 : Int) (y20 : ByteArray) (y21 : ByteArray) (y22 : ByteArray) (y23 : ByteArray) (y24 : ByteArray) (y25 : Option (Nat × Nat)) (y26 : Nat) (y27 : Option Nat) (y28 : Option (Nat × Nat)) (y29 : Nat) (y30 : Option Nat) : Env := Env.sp 4 (AV.slice y0 y1 y2 (1 : Nat) :: Env.sp 1 (AV.ptr (some (y3, (0 : Nat))) :: Env.sp 12 (AV.slice y4 y5 y6 (12 : Nat) :: AV.int IntKind.i64 y7 :: AV.int IntKind.i64 y8 :: Env.sp 3 (AV.slice y9 y10 y11 (1 : Nat) :: AV.agg
  [AV.int IntKind.i64 y12, AV.int IntKind.i64 y13, AV.int IntKind.i64 y14, AV.int IntKind.i64 y15, AV.int IntKind.i64 y16, AV.int IntKind.i64 y17,
    AV.int IntKind.i64 y18, AV.int IntKind.i64 y19, AV.str y20, AV.str y21, AV.str y22, AV.str y23] :: AV.str y24 :: AV.slice y25 y26 y27 (1 : Nat) :: AV.slice y28 y29 y30 (1 : Nat) :: Env.sp 3 []))))
def f7e17 (y0 : Option (Nat × Nat)) (y1 : Nat) (y2 : Option Nat) (y3 : Option (Nat × Nat)) (y4 : Nat) (y5 : Option Nat) (y6 : Int) (y7 : Int) (y8 : Int) : Env := Env.sp 4 (AV.slice y0 y1 y2 (1 : Nat) :: Env.sp 14 (AV.slice y3 y4 y5 (12 : Nat) :: AV.int IntKind.i64 y6 :: AV.int IntKind.i64 y7 :: Env.sp 8 (AV.int IntKind.i64 y8 :: Env.sp 2 [])))
def f7e18 (y0 : ByteArray) (y1 : Int) (y2 : Option (Nat × Nat)) (y3 : Nat) (y4 : Option Nat) (y5 : Option (Nat × Nat)) (y6 : Nat) (y7 : Option Nat) (y8 : ByteArray) : Env := Env.sp 2 (AV.str y0 :: AV.int IntKind.i64 y1 :: AV.slice y2 y3 y4 (1 : Nat) :: Env.sp 26 (AV.slice y5 y6 y7 (1 : Nat) :: AV.str y8 :: []))

/- function 7 -/
theorem f7_eq {R : Type} (call : Bool → CallF R) (dem : Bool) (N : Nat) (y0 : Int) (y1 : Int) (y2 : Int) (y3 : ByteArray) (y4 : Option (Nat × Nat)) (y5 : Nat) (y6 : Option Nat) (y7 : Option (Nat × Nat)) (y8 : Nat) (y9 : Option Nat) (σ : St) (K : AV → St → Option R) :
    bodyK Tryz.prog call dem N ann 7 [AV.agg [AV.int IntKind.i64 y0, AV.int IntKind.i64 y1, AV.int IntKind.i64 y2, AV.str y3, AV.slice y4 y5 y6 (1 : Nat), AV.slice y7 y8 y9 (12 : Nat)]] σ K = runK Tryz.prog call dem N f7c0 f7a0 (bodyC Tryz.prog f7rs K) (f7e0 y0 y1 y2 y3 y4 y5 y6 y7 y8 y9) σ := bodyK_of (fn := ((Tryz.prog.funcs[7]?).get rfl)) (by kernel_rfl) (by kernel_rfl) (by kernel_rfl) (by kernel_rfl) (by kernel_rfl) (by kernel_rfl)
theorem f7n0 {R : Type} (call : Bool → CallF R) (dem : Bool) (N : Nat) (J : KF R) (e : Env) (σ : St) : runK Tryz.prog call dem N f7c0 f7a0 J e σ = runK Tryz.prog call dem N f7c1 f7a1 (seqC (fun K e σ => runK Tryz.prog call dem N f7c2 f7a2 K e σ) f7a0 J) e σ := runK_seq' (by kernel_rfl) (by kernel_rfl) (by kernel_rfl)
theorem f7r1_f7e0 {R : Type} (call : Bool → CallF R) (dem : Bool) (N : Nat) (y0 : Int) (y1 : Int) (y2 : Int) (y3 : ByteArray) (y4 : Option (Nat × Nat)) (y5 : Nat) (y6 : Option Nat) (y7 : Option (Nat × Nat)) (y8 : Nat) (y9 : Option Nat) (J : KF R) (σ : St) :
    runK Tryz.prog call dem N f7c1 f7a1 J (f7e0 y0 y1 y2 y3 y4 y5 y6 y7 y8 y9) σ =
J Ex.normal (f7e1 y0 y1 y2 y3 y4 y5 y6 y7 y8 y9 (St.next σ) (ByteArray.mk #[]) (0 : Int))
  (St.new σ
    (Blk.cells
      [AV.int IntKind.i64 y0, AV.int IntKind.i64 y1, AV.int IntKind.i64 y2, AV.str y3, AV.slice y4 y5 y6 (1 : Nat), AV.slice y7 y8 y9 (12 : Nat)]
      true)) := hide (by kernel_rfl)
theorem f7z0_f7e1 (y0 : Int) (y1 : Int) (y2 : Int) (y3 : ByteArray) (y4 : Option (Nat × Nat)) (y5 : Nat) (y6 : Option Nat) (y7 : Option (Nat × Nat)) (y8 : Nat) (y9 : Option Nat) (y10 : Nat) (y11 : ByteArray) (y12 : Int) : Ann.clr f7a0 (f7e1 y0 y1 y2 y3 y4 y5 y6 y7 y8 y9 y10 y11 y12) = f7e2 y10 := hide (by kernel_rfl)
theorem f7n2 {R : Type} (call : Bool → CallF R) (dem : Bool) (N : Nat) (J : KF R) (e : Env) (σ : St) : runK Tryz.prog call dem N f7c2 f7a2 J e σ = runK Tryz.prog call dem N f7c3 f7a3 (seqC (fun K e σ => runK Tryz.prog call dem N f7c4 f7a4 K e σ) f7a2 J) e σ := runK_seq' (by kernel_rfl) (by kernel_rfl) (by kernel_rfl)
theorem f7n3 {R : Type} (call : Bool → CallF R) (dem : Bool) (N : Nat) (J : KF R) (e : Env) (σ : St) : runK Tryz.prog call dem N f7c3 f7a3 J e σ = runK Tryz.prog call dem N f7c5 f7a5 (seqC (fun K e σ => runK Tryz.prog call dem N f7c6 f7a6 K e σ) f7a3 J) e σ := runK_seq' (by kernel_rfl) (by kernel_rfl) (by kernel_rfl)
theorem f7r5_f7e2 {R : Type} (call : Bool → CallF R) (dem : Bool) (N : Nat) (y0 : Nat) (J : KF R) (σ : St) :
    runK Tryz.prog call dem N f7c5 f7a5 J (f7e2 y0) σ =
Option.bind (St.ld σ y0 (5 : Nat)) fun v0 =>
  Option.bind (AV.toSl (12 : Nat) v0) fun v1 =>
    if decide ((↑(Sl.len v1) : Int) > (300 : Int)) = true then
      J Ex.normal (f7e3 y0 y0 (Sl.o v1) (Sl.len v1) (Sl.cap v1) (↑(Sl.len v1) : Int) (decide ((↑(Sl.len v1) : Int) > (300 : Int))) true true) σ
    else
      Option.bind (St.ld σ y0 (0 : Nat)) fun v2 =>
        Option.bind (AV.toInt IntKind.i64 v2) fun v3 =>
          Option.bind (St.ld σ y0 (1 : Nat)) fun v4 =>
            Option.bind (AV.toInt IntKind.i64 v4) fun v5 =>
              Option.bind (St.ld σ y0 (2 : Nat)) fun v6 =>
                Option.bind (AV.toInt IntKind.i64 v6) fun v7 =>
                  Option.bind (St.ld σ y0 (3 : Nat)) fun v8 =>
                    Option.bind (AV.toStr v8) fun v9 =>
                      Option.bind (St.ld σ y0 (4 : Nat)) fun v10 =>
                        Option.bind (AV.toSl (1 : Nat) v10) fun v11 =>
                          Option.bind (St.ld σ y0 (5 : Nat)) fun v12 =>
                            Option.bind (AV.toSl (12 : Nat) v12) fun v13 =>
                              call dem (12 : Nat)
                                [AV.agg
                                    [AV.int IntKind.i64 v3, AV.int IntKind.i64 v5, AV.int IntKind.i64 v7, AV.str v9,
                                      AV.slice (Sl.o v11) (Sl.len v11) (Sl.cap v11) (1 : Nat),
                                      AV.slice (Sl.o v13) (Sl.len v13) (Sl.cap v13) (12 : Nat)]]
                                σ fun v14 v15 =>
                                Option.bind (AV.toBool v14) fun v16 =>
                                  J Ex.normal
                                    (f7e4 y0 y0 (Sl.o v1) (Sl.len v1) (Sl.cap v1) (↑(Sl.len v1) : Int) (decide ((↑(Sl.len v1) : Int) > (300 : Int)))
                                      false v3 v5 v7 v9 (Sl.o v11) (Sl.len v11) (Sl.cap v11) (Sl.o v13) (Sl.len v13) (Sl.cap v13) v16 v16)
                                    v15 := hide (by kernel_rfl)
theorem f7z3_f7e3 (y0 : Nat) (y1 : Nat) (y2 : Option (Nat × Nat)) (y3 : Nat) (y4 : Option Nat) (y5 : Int) (y6 : Bool) (y7 : Bool) (y8 : Bool) : Ann.clr f7a3 (f7e3 y0 y1 y2 y3 y4 y5 y6 y7 y8) = f7e5 y0 y8 := hide (by kernel_rfl)
theorem f7x6_f7e5 {R : Type} (call : Bool → CallF R) (dem : Bool) (N : Nat) (y0 : Nat) (y1 : Bool) (J : KF R) (σ : St) : runK Tryz.prog call dem N f7c6 f7a6 J (f7e5 y0 y1) σ = if y1 = true then runK Tryz.prog call dem N f7c7 f7a7 (condC f7a6 J) (f7e5 y0 y1) σ else runK Tryz.prog call dem N f7c8 f7a8 (condC f7a6 J) (f7e5 y0 y1) σ := runK_cond' (o := Operand.tmp (14 : Nat)) (by kernel_rfl) (by kernel_rfl) (by kernel_rfl) (by kernel_rfl)
theorem f7n7 {R : Type} (call : Bool → CallF R) (dem : Bool) (N : Nat) (J : KF R) (e : Env) (σ : St) : runK Tryz.prog call dem N f7c7 f7a7 J e σ = runK Tryz.prog call dem N f7c9 f7a9 (seqC (fun K e σ => runK Tryz.prog call dem N f7c10 f7a10 K e σ) f7a7 J) e σ := runK_seq' (by kernel_rfl) (by kernel_rfl) (by kernel_rfl)
theorem f7r9_f7e5 {R : Type} (call : Bool → CallF R) (dem : Bool) (N : Nat) (y0 : Nat) (y1 : Bool) (J : KF R) (σ : St) :
    runK Tryz.prog call dem N f7c9 f7a9 J (f7e5 y0 y1) σ =
J Ex.normal (f7e6 y0 (ByteArray.mk #[]) (2 : Int) y1) σ := hide (by kernel_rfl)
theorem f7z7_f7e6 (y0 : Nat) (y1 : ByteArray) (y2 : Int) (y3 : Bool) : Ann.clr f7a7 (f7e6 y0 y1 y2 y3) = f7e7 y1 y2 := hide (by kernel_rfl)
theorem f7y10_f7e7 {R : Type} (call : Bool → CallF R) (dem : Bool) (N : Nat) (y0 : ByteArray) (y1 : Int) (J : KF R) (σ : St) : runK Tryz.prog call dem N f7c10 f7a10 J (f7e7 y0 y1) σ = J .ret (f7e7 y0 y1) σ := runK_ret' (by kernel_rfl) (by kernel_rfl)
theorem f7n8 {R : Type} (call : Bool → CallF R) (dem : Bool) (N : Nat) (J : KF R) (e : Env) (σ : St) : runK Tryz.prog call dem N f7c8 f7a8 J e σ = J .normal e σ := runK_skip' (by kernel_rfl)
theorem f7z6_f7e5 (y0 : Nat) (y1 : Bool) : Ann.clr f7a6 (f7e5 y0 y1) = f7e2 y0 := hide (by kernel_rfl)
theorem f7z3_f7e4 (y0 : Nat) (y1 : Nat) (y2 : Option (Nat × Nat)) (y3 : Nat) (y4 : Option Nat) (y5 : Int) (y6 : Bool) (y7 : Bool) (y8 : Int) (y9 : Int) (y10 : Int) (y11 : ByteArray) (y12 : Option (Nat × Nat)) (y13 : Nat) (y14 : Option Nat) (y15 : Option (Nat × Nat)) (y16 : Nat) (y17 : Option Nat) (y18 : Bool) (y19 : Bool) : Ann.clr f7a3 (f7e4 y0 y1 y2 y3 y4 y5 y6 y7 y8 y9 y10 y11 y12 y13 y14 y15 y16 y17 y18 y19) = f7e5 y0 y19 := hide (by kernel_rfl)
theorem f7z2_f7e2 (y0 : Nat) : Ann.clr f7a2 (f7e2 y0) = f7e2 y0 := hide (by kernel_rfl)
theorem f7n4 {R : Type} (call : Bool → CallF R) (dem : Bool) (N : Nat) (J : KF R) (e : Env) (σ : St) : runK Tryz.prog call dem N f7c4 f7a4 J e σ = runK Tryz.prog call dem N f7c11 f7a11 (seqC (fun K e σ => runK Tryz.prog call dem N f7c12 f7a12 K e σ) f7a4 J) e σ := runK_seq' (by kernel_rfl) (by kernel_rfl) (by kernel_rfl)
theorem f7r11_f7e2 {R : Type} (call : Bool → CallF R) (dem : Bool) (N : Nat) (y0 : Nat) (J : KF R) (σ : St) :
    runK Tryz.prog call dem N f7c11 f7a11 J (f7e2 y0) σ =
Option.bind (St.ld σ y0 (0 : Nat)) fun v0 =>
  Option.bind (AV.toInt IntKind.i64 v0) fun v1 =>
    Option.bind (St.ld σ y0 (1 : Nat)) fun v2 =>
      Option.bind (AV.toInt IntKind.i64 v2) fun v3 =>
        Option.bind (St.ld σ y0 (2 : Nat)) fun v4 =>
          Option.bind (AV.toInt IntKind.i64 v4) fun v5 =>
            Option.bind (St.ld σ y0 (3 : Nat)) fun v6 =>
              Option.bind (AV.toStr v6) fun v7 =>
                Option.bind (St.ld σ y0 (4 : Nat)) fun v8 =>
                  Option.bind (AV.toSl (1 : Nat) v8) fun v9 =>
                    Option.bind (St.ld σ y0 (5 : Nat)) fun v10 =>
                      Option.bind (AV.toSl (12 : Nat) v10) fun v11 =>
                        call dem (13 : Nat)
                          [AV.agg
                              [AV.int IntKind.i64 v1, AV.int IntKind.i64 v3, AV.int IntKind.i64 v5, AV.str v7,
                                AV.slice (Sl.o v9) (Sl.len v9) (Sl.cap v9) (1 : Nat), AV.slice (Sl.o v11) (Sl.len v11) (Sl.cap v11) (12 : Nat)]]
                          σ fun v12 v13 =>
                          Option.bind (AV.toStr v12) fun v14 =>
                            J Ex.normal
                              (f7e8 y0 (some (St.next v13, (0 : Nat))) (1 : Nat) (some (1 : Nat)) v1 v3 v5 v7 (Sl.o v9) (Sl.len v9) (Sl.cap v9)
                                (Sl.o v11) (Sl.len v11) (Sl.cap v11) v14 (some (St.next v13, (0 : Nat))) (1 : Nat) (some (1 : Nat)))
                              (St.new v13 (Blk.cells [AV.str v14] true)) := hide (by kernel_rfl)
theorem f7z4_f7e8 (y0 : Nat) (y1 : Option (Nat × Nat)) (y2 : Nat) (y3 : Option Nat) (y4 : Int) (y5 : Int) (y6 : Int) (y7 : ByteArray) (y8 : Option (Nat × Nat)) (y9 : Nat) (y10 : Option Nat) (y11 : Option (Nat × Nat)) (y12 : Nat) (y13 : Option Nat) (y14 : ByteArray) (y15 : Option (Nat × Nat)) (y16 : Nat) (y17 : Option Nat) : Ann.clr f7a4 (f7e8 y0 y1 y2 y3 y4 y5 y6 y7 y8 y9 y10 y11 y12 y13 y14 y15 y16 y17) = f7e9 y0 y1 y2 y3 := hide (by kernel_rfl)
theorem f7n12 {R : Type} (call : Bool → CallF R) (dem : Bool) (N : Nat) (J : KF R) (e : Env) (σ : St) : runK Tryz.prog call dem N f7c12 f7a12 J e σ = runK Tryz.prog call dem N f7c13 f7a13 (seqC (fun K e σ => runK Tryz.prog call dem N f7c14 f7a14 K e σ) f7a12 J) e σ := runK_seq' (by kernel_rfl) (by kernel_rfl) (by kernel_rfl)
theorem f7n13 {R : Type} (call : Bool → CallF R) (dem : Bool) (N : Nat) (J : KF R) (e : Env) (σ : St) : runK Tryz.prog call dem N f7c13 f7a13 J e σ = runK Tryz.prog call dem N f7c15 f7a15 (seqC (fun K e σ => runK Tryz.prog call dem N f7c16 f7a16 K e σ) f7a13 J) e σ := runK_seq' (by kernel_rfl) (by kernel_rfl) (by kernel_rfl)
theorem f7r15_f7e9 {R : Type} (call : Bool → CallF R) (dem : Bool) (N : Nat) (y0 : Nat) (y1 : Option (Nat × Nat)) (y2 : Nat) (y3 : Option Nat) (J : KF R) (σ : St) :
    runK Tryz.prog call dem N f7c15 f7a15 J (f7e9 y0 y1 y2 y3) σ =
Option.bind (St.ld σ y0 (5 : Nat)) fun v0 =>
  Option.bind (AV.toSl (12 : Nat) v0) fun v1 => J Ex.normal (f7e10 y0 y1 y2 y3 y0 (Sl.o v1) (Sl.len v1) (Sl.cap v1) (↑(Sl.len v1) : Int) (0 : Int)) σ := hide (by kernel_rfl)
theorem f7z13_f7e10 (y0 : Nat) (y1 : Option (Nat × Nat)) (y2 : Nat) (y3 : Option Nat) (y4 : Nat) (y5 : Option (Nat × Nat)) (y6 : Nat) (y7 : Option Nat) (y8 : Int) (y9 : Int) : Ann.clr f7a13 (f7e10 y0 y1 y2 y3 y4 y5 y6 y7 y8 y9) = f7e11 y1 y2 y3 y5 y6 y7 y8 y9 := hide (by kernel_rfl)
theorem f7n16 {R : Type} (call : Bool → CallF R) (dem : Bool) (N : Nat) (J : KF R) (e : Env) (σ : St) : runK Tryz.prog call dem N f7c16 f7a16 J e σ = runK Tryz.prog call dem N f7c17 f7a17 (blockC 0 f7a16 J) e σ := runK_block' (by kernel_rfl) (by kernel_rfl)
theorem f7L17_eq {R : Type} (call : Bool → CallF R) (dem : Bool) (N : Nat) (J : KF R) (e : Env) (σ : St) : f7L17 call dem N J e σ = runK Tryz.prog call dem N f7c18 f7a18 J e σ := hide rfl
theorem f7z17_f7e11 (y0 : Option (Nat × Nat)) (y1 : Nat) (y2 : Option Nat) (y3 : Option (Nat × Nat)) (y4 : Nat) (y5 : Option Nat) (y6 : Int) (y7 : Int) : Ann.clr f7a17 (f7e11 y0 y1 y2 y3 y4 y5 y6 y7) = f7e11 y0 y1 y2 y3 y4 y5 y6 y7 := hide (by kernel_rfl)
theorem f7l17_f7e11 {R : Type} (call : Bool → CallF R) (dem : Bool) (N : Nat) (y0 : Option (Nat × Nat)) (y1 : Nat) (y2 : Option Nat) (y3 : Option (Nat × Nat)) (y4 : Nat) (y5 : Option Nat) (y6 : Int) (y7 : Int) (J : KF R) (σ : St) : runK Tryz.prog call dem N f7c17 f7a17 J (f7e11 y0 y1 y2 y3 y4 y5 y6 y7) σ = loopK (f7L17 call dem N) f7a17 N J (f7e11 y0 y1 y2 y3 y4 y5 y6 y7) σ := runK_loop' (by kernel_rfl) (by kernel_rfl) (by kernel_rfl)
theorem f7n18 {R : Type} (call : Bool → CallF R) (dem : Bool) (N : Nat) (J : KF R) (e : Env) (σ : St) : runK Tryz.prog call dem N f7c18 f7a18 J e σ = runK Tryz.prog call dem N f7c19 f7a19 (seqC (fun K e σ => runK Tryz.prog call dem N f7c20 f7a20 K e σ) f7a18 J) e σ := runK_seq' (by kernel_rfl) (by kernel_rfl) (by kernel_rfl)
theorem f7r19_f7e11 {R : Type} (call : Bool → CallF R) (dem : Bool) (N : Nat) (y0 : Option (Nat × Nat)) (y1 : Nat) (y2 : Option Nat) (y3 : Option (Nat × Nat)) (y4 : Nat) (y5 : Option Nat) (y6 : Int) (y7 : Int) (J : KF R) (σ : St) :
    runK Tryz.prog call dem N f7c19 f7a19 J (f7e11 y0 y1 y2 y3 y4 y5 y6 y7) σ =
J Ex.normal (f7e12 y0 y1 y2 y3 y4 y5 y6 y7 (decide (y7 < y6))) σ := hide (by kernel_rfl)
theorem f7z18_f7e12 (y0 : Option (Nat × Nat)) (y1 : Nat) (y2 : Option Nat) (y3 : Option (Nat × Nat)) (y4 : Nat) (y5 : Option Nat) (y6 : Int) (y7 : Int) (y8 : Bool) : Ann.clr f7a18 (f7e12 y0 y1 y2 y3 y4 y5 y6 y7 y8) = f7e12 y0 y1 y2 y3 y4 y5 y6 y7 y8 := hide (by kernel_rfl)
theorem f7n20 {R : Type} (call : Bool → CallF R) (dem : Bool) (N : Nat) (J : KF R) (e : Env) (σ : St) : runK Tryz.prog call dem N f7c20 f7a20 J e σ = runK Tryz.prog call dem N f7c21 f7a21 (seqC (fun K e σ => runK Tryz.prog call dem N f7c22 f7a22 K e σ) f7a20 J) e σ := runK_seq' (by kernel_rfl) (by kernel_rfl) (by kernel_rfl)
theorem f7x21_f7e12 {R : Type} (call : Bool → CallF R) (dem : Bool) (N : Nat) (y0 : Option (Nat × Nat)) (y1 : Nat) (y2 : Option Nat) (y3 : Option (Nat × Nat)) (y4 : Nat) (y5 : Option Nat) (y6 : Int) (y7 : Int) (y8 : Bool) (J : KF R) (σ : St) : runK Tryz.prog call dem N f7c21 f7a21 J (f7e12 y0 y1 y2 y3 y4 y5 y6 y7 y8) σ = if y8 = true then runK Tryz.prog call dem N f7c23 f7a23 (condC f7a21 J) (f7e12 y0 y1 y2 y3 y4 y5 y6 y7 y8) σ else runK Tryz.prog call dem N f7c24 f7a24 (condC f7a21 J) (f7e12 y0 y1 y2 y3 y4 y5 y6 y7 y8) σ := runK_cond' (o := Operand.tmp (22 : Nat)) (by kernel_rfl) (by kernel_rfl) (by kernel_rfl) (by kernel_rfl)
theorem f7n23 {R : Type} (call : Bool → CallF R) (dem : Bool) (N : Nat) (J : KF R) (e : Env) (σ : St) : runK Tryz.prog call dem N f7c23 f7a23 J e σ = J .normal e σ := runK_skip' (by kernel_rfl)
theorem f7z21_f7e12 (y0 : Option (Nat × Nat)) (y1 : Nat) (y2 : Option Nat) (y3 : Option (Nat × Nat)) (y4 : Nat) (y5 : Option Nat) (y6 : Int) (y7 : Int) (y8 : Bool) : Ann.clr f7a21 (f7e12 y0 y1 y2 y3 y4 y5 y6 y7 y8) = f7e11 y0 y1 y2 y3 y4 y5 y6 y7 := hide (by kernel_rfl)
theorem f7y24_f7e12 {R : Type} (call : Bool → CallF R) (dem : Bool) (N : Nat) (y0 : Option (Nat × Nat)) (y1 : Nat) (y2 : Option Nat) (y3 : Option (Nat × Nat)) (y4 : Nat) (y5 : Option Nat) (y6 : Int) (y7 : Int) (y8 : Bool) (J : KF R) (σ : St) : runK Tryz.prog call dem N f7c24 f7a24 J (f7e12 y0 y1 y2 y3 y4 y5 y6 y7 y8) σ = J (.exit 0) (f7e13 y0 y1 y2) σ := runK_exit' (by kernel_rfl) (by kernel_rfl)
theorem f7z20_f7e11 (y0 : Option (Nat × Nat)) (y1 : Nat) (y2 : Option Nat) (y3 : Option (Nat × Nat)) (y4 : Nat) (y5 : Option Nat) (y6 : Int) (y7 : Int) : Ann.clr f7a20 (f7e11 y0 y1 y2 y3 y4 y5 y6 y7) = f7e11 y0 y1 y2 y3 y4 y5 y6 y7 := hide (by kernel_rfl)
theorem f7n22 {R : Type} (call : Bool → CallF R) (dem : Bool) (N : Nat) (J : KF R) (e : Env) (σ : St) : runK Tryz.prog call dem N f7c22 f7a22 J e σ = runK Tryz.prog call dem N f7c25 f7a25 (seqC (fun K e σ => runK Tryz.prog call dem N f7c26 f7a26 K e σ) f7a22 J) e σ := runK_seq' (by kernel_rfl) (by kernel_rfl) (by kernel_rfl)
theorem f7n25 {R : Type} (call : Bool → CallF R) (dem : Bool) (N : Nat) (J : KF R) (e : Env) (σ : St) : runK Tryz.prog call dem N f7c25 f7a25 J e σ = runK Tryz.prog call dem N f7c27 f7a27 (blockC 1 f7a25 J) e σ := runK_block' (by kernel_rfl) (by kernel_rfl)
theorem f7n27 {R : Type} (call : Bool → CallF R) (dem : Bool) (N : Nat) (J : KF R) (e : Env) (σ : St) : runK Tryz.prog call dem N f7c27 f7a27 J e σ = runK Tryz.prog call dem N f7c28 f7a28 (seqC (fun K e σ => runK Tryz.prog call dem N f7c29 f7a29 K e σ) f7a27 J) e σ := runK_seq' (by kernel_rfl) (by kernel_rfl) (by kernel_rfl)
theorem f7r28_f7e11 {R : Type} (call : Bool → CallF R) (dem : Bool) (N : Nat) (y0 : Option (Nat × Nat)) (y1 : Nat) (y2 : Option Nat) (y3 : Option (Nat × Nat)) (y4 : Nat) (y5 : Option Nat) (y6 : Int) (y7 : Int) (J : KF R) (σ : St) :
    runK Tryz.prog call dem N f7c28 f7a28 J (f7e11 y0 y1 y2 y3 y4 y5 y6 y7) σ =
if (0 : Int) ≤ y7 ∧ y7 < (↑y4 : Int) then
  Option.bind y3 fun v0 =>
    Option.bind (St.ld σ (Prod.fst v0) (Prod.snd v0 + Int.toNat y7 * (12 : Nat))) fun v1 =>
      Option.bind (AV.toInt IntKind.i64 v1) fun v2 =>
        Option.bind (St.ld σ (Prod.fst v0) (Prod.snd v0 + Int.toNat y7 * (12 : Nat) + (1 : Nat))) fun v3 =>
          Option.bind (AV.toInt IntKind.i64 v3) fun v4 =>
            Option.bind (St.ld σ (Prod.fst v0) (Prod.snd v0 + Int.toNat y7 * (12 : Nat) + (2 : Nat))) fun v5 =>
              Option.bind (AV.toInt IntKind.i64 v5) fun v6 =>
                Option.bind (St.ld σ (Prod.fst v0) (Prod.snd v0 + Int.toNat y7 * (12 : Nat) + (3 : Nat))) fun v7 =>
                  Option.bind (AV.toInt IntKind.i64 v7) fun v8 =>
                    Option.bind (St.ld σ (Prod.fst v0) (Prod.snd v0 + Int.toNat y7 * (12 : Nat) + (4 : Nat))) fun v9 =>
                      Option.bind (AV.toInt IntKind.i64 v9) fun v10 =>
                        Option.bind (St.ld σ (Prod.fst v0) (Prod.snd v0 + Int.toNat y7 * (12 : Nat) + (5 : Nat))) fun v11 =>
                          Option.bind (AV.toInt IntKind.i64 v11) fun v12 =>
                            Option.bind (St.ld σ (Prod.fst v0) (Prod.snd v0 + Int.toNat y7 * (12 : Nat) + (6 : Nat))) fun v13 =>
                              Option.bind (AV.toInt IntKind.i64 v13) fun v14 =>
                                Option.bind (St.ld σ (Prod.fst v0) (Prod.snd v0 + Int.toNat y7 * (12 : Nat) + (7 : Nat))) fun v15 =>
                                  Option.bind (AV.toInt IntKind.i64 v15) fun v16 =>
                                    Option.bind (St.ld σ (Prod.fst v0) (Prod.snd v0 + Int.toNat y7 * (12 : Nat) + (8 : Nat))) fun v17 =>
                                      Option.bind (AV.toStr v17) fun v18 =>
                                        Option.bind (St.ld σ (Prod.fst v0) (Prod.snd v0 + Int.toNat y7 * (12 : Nat) + (9 : Nat))) fun v19 =>
                                          Option.bind (AV.toStr v19) fun v20 =>
                                            Option.bind (St.ld σ (Prod.fst v0) (Prod.snd v0 + Int.toNat y7 * (12 : Nat) + (10 : Nat))) fun v21 =>
                                              Option.bind (AV.toStr v21) fun v22 =>
                                                Option.bind (St.ld σ (Prod.fst v0) (Prod.snd v0 + Int.toNat y7 * (12 : Nat) + (11 : Nat))) fun v23 =>
                                                  Option.bind (AV.toStr v23) fun v24 =>
                                                    Option.bind
                                                      (St.st
                                                        (St.new σ
                                                          (Blk.cells
                                                            [AV.int IntKind.i64 (0 : Int), AV.int IntKind.i64 (0 : Int), AV.int IntKind.i64 (0 : Int),
                                                              AV.int IntKind.i64 (0 : Int), AV.int IntKind.i64 (0 : Int),
                                                              AV.int IntKind.i64 (0 : Int), AV.int IntKind.i64 (0 : Int),
                                                              AV.int IntKind.i64 (0 : Int), AV.str (ByteArray.mk #[]), AV.str (ByteArray.mk #[]),
                                                              AV.str (ByteArray.mk #[]), AV.str (ByteArray.mk #[])]
                                                            true))
                                                        (St.next σ) (0 : Nat)
                                                        [AV.int IntKind.i64 v2, AV.int IntKind.i64 v4, AV.int IntKind.i64 v6, AV.int IntKind.i64 v8,
                                                          AV.int IntKind.i64 v10, AV.int IntKind.i64 v12, AV.int IntKind.i64 v14,
                                                          AV.int IntKind.i64 v16, AV.str v18, AV.str v20, AV.str v22, AV.str v24])
                                                      fun v25 =>
                                                      J Ex.normal
                                                        (f7e14 y0 y1 y2 (St.next σ) y3 y4 y5 y6 y7
                                                          (some (Prod.fst v0, Prod.snd v0 + Int.toNat y7 * (12 : Nat))) v2 v4 v6 v8 v10 v12 v14 v16
                                                          v18 v20 v22 v24)
                                                        v25
else none := hide (by kernel_rfl)
theorem f7z27_f7e14 (y0 : Option (Nat × Nat)) (y1 : Nat) (y2 : Option Nat) (y3 : Nat) (y4 : Option (Nat × Nat)) (y5 : Nat) (y6 : Option Nat) (y7 : Int) (y8 : Int) (y9 : Option (Nat × Nat)) (y10 : Int) (y11 : Int) (y12 : Int) (y13 : Int) (y14 : Int) (y15 : Int) (y16 : Int) (y17 : Int) (y18 : ByteArray) (y19 : ByteArray) (y20 : ByteArray) (y21 : ByteArray) : Ann.clr f7a27 (f7e14 y0 y1 y2 y3 y4 y5 y6 y7 y8 y9 y10 y11 y12 y13 y14 y15 y16 y17 y18 y19 y20 y21) = f7e15 y0 y1 y2 y3 y4 y5 y6 y7 y8 := hide (by kernel_rfl)
theorem f7r29_f7e15 {R : Type} (call : Bool → CallF R) (dem : Bool) (N : Nat) (y0 : Option (Nat × Nat)) (y1 : Nat) (y2 : Option Nat) (y3 : Nat) (y4 : Option (Nat × Nat)) (y5 : Nat) (y6 : Option Nat) (y7 : Int) (y8 : Int) (J : KF R) (σ : St) :
    runK Tryz.prog call dem N f7c29 f7a29 J (f7e15 y0 y1 y2 y3 y4 y5 y6 y7 y8) σ =
Option.bind (St.ld σ y3 (0 : Nat)) fun v0 =>
  Option.bind (AV.toInt IntKind.i64 v0) fun v1 =>
    Option.bind (St.ld σ y3 (1 : Nat)) fun v2 =>
      Option.bind (AV.toInt IntKind.i64 v2) fun v3 =>
        Option.bind (St.ld σ y3 (2 : Nat)) fun v4 =>
          Option.bind (AV.toInt IntKind.i64 v4) fun v5 =>
            Option.bind (St.ld σ y3 (3 : Nat)) fun v6 =>
              Option.bind (AV.toInt IntKind.i64 v6) fun v7 =>
                Option.bind (St.ld σ y3 (4 : Nat)) fun v8 =>
                  Option.bind (AV.toInt IntKind.i64 v8) fun v9 =>
                    Option.bind (St.ld σ y3 (5 : Nat)) fun v10 =>
                      Option.bind (AV.toInt IntKind.i64 v10) fun v11 =>
                        Option.bind (St.ld σ y3 (6 : Nat)) fun v12 =>
                          Option.bind (AV.toInt IntKind.i64 v12) fun v13 =>
                            Option.bind (St.ld σ y3 (7 : Nat)) fun v14 =>
                              Option.bind (AV.toInt IntKind.i64 v14) fun v15 =>
                                Option.bind (St.ld σ y3 (8 : Nat)) fun v16 =>
                                  Option.bind (AV.toStr v16) fun v17 =>
                                    Option.bind (St.ld σ y3 (9 : Nat)) fun v18 =>
                                      Option.bind (AV.toStr v18) fun v19 =>
                                        Option.bind (St.ld σ y3 (10 : Nat)) fun v20 =>
                                          Option.bind (AV.toStr v20) fun v21 =>
                                            Option.bind (St.ld σ y3 (11 : Nat)) fun v22 =>
                                              Option.bind (AV.toStr v22) fun v23 =>
                                                call dem (14 : Nat)
                                                  [AV.agg
                                                      [AV.int IntKind.i64 v1, AV.int IntKind.i64 v3, AV.int IntKind.i64 v5, AV.int IntKind.i64 v7,
                                                        AV.int IntKind.i64 v9, AV.int IntKind.i64 v11, AV.int IntKind.i64 v13, AV.int IntKind.i64 v15,
                                                        AV.str v17, AV.str v19, AV.str v21, AV.str v23]]
                                                  σ fun v24 v25 =>
                                                  Option.bind (AV.toStr v24) fun v26 =>
                                                    Option.bind
                                                      (St.elems (St.new v25 (Blk.cells [AV.str v26] true)) (1 : Nat)
                                                        (Sl.mk (some (St.next v25, (0 : Nat))) (1 : Nat) (some (1 : Nat))) (1 : Nat))
                                                      fun v27 =>
                                                      Option.bind
                                                        (St.app (St.new v25 (Blk.cells [AV.str v26] true)) (1 : Nat) (16 : Nat) (Sl.mk y0 y1 y2)
                                                          (1 : Nat) v27)
                                                        fun v28 =>
                                                        J Ex.normal
                                                          (f7e16 (Sl.o (Prod.fst v28)) (Sl.len (Prod.fst v28)) (Sl.cap (Prod.fst v28)) y3 y4 y5 y6 y7
                                                            y8 y0 y1 y2 v1 v3 v5 v7 v9 v11 v13 v15 v17 v19 v21 v23 v26 (some (St.next v25, (0 : Nat)))
                                                            (1 : Nat) (some (1 : Nat)) (Sl.o (Prod.fst v28)) (Sl.len (Prod.fst v28))
                                                            (Sl.cap (Prod.fst v28)))
                                                          (Prod.snd v28) := hide (by kernel_rfl)
theorem f7z25_f7e16 (y0 : Option (Nat × Nat)) (y1 : Nat) (y2 : Option Nat) (y3 : Nat) (y4 : Option (Nat × Nat)) (y5 : Nat) (y6 : Option Nat) (y7 : Int) (y8 : Int) (y9 : Option (Nat × Nat)) (y10 : Nat) (y11 : Option Nat) (y12 : Int) (y13 : Int) (y14 : Int) (y15 : Int) (y16 : Int) (y17 : Int) (y18 : Int) (y19 : Int) (y20 : ByteArray) (y21 : ByteArray) (y22 : ByteArray) (y23 : ByteArray) (y24 : ByteArray) (y25 : Option (Nat × Nat)) (y26 : Nat) (y27 : Option Nat) (y28 : Option (Nat × Nat)) (y29 : Nat) (y30 : Option Nat) : Ann.clr f7a25 (f7e16 y0 y1 y2 y3 y4 y5 y6 y7 y8 y9 y10 y11 y12 y13 y14 y15 y16 y17 y18 y19 y20 y21 y22 y23 y24 y25 y26 y27 y28 y29 y30) = f7e11 y0 y1 y2 y4 y5 y6 y7 y8 := hide (by kernel_rfl)
theorem f7z22_f7e11 (y0 : Option (Nat × Nat)) (y1 : Nat) (y2 : Option Nat) (y3 : Option (Nat × Nat)) (y4 : Nat) (y5 : Option Nat) (y6 : Int) (y7 : Int) : Ann.clr f7a22 (f7e11 y0 y1 y2 y3 y4 y5 y6 y7) = f7e11 y0 y1 y2 y3 y4 y5 y6 y7 := hide (by kernel_rfl)
theorem f7r26_f7e11 {R : Type} (call : Bool → CallF R) (dem : Bool) (N : Nat) (y0 : Option (Nat × Nat)) (y1 : Nat) (y2 : Option Nat) (y3 : Option (Nat × Nat)) (y4 : Nat) (y5 : Option Nat) (y6 : Int) (y7 : Int) (J : KF R) (σ : St) :
    runK Tryz.prog call dem N f7c26 f7a26 J (f7e11 y0 y1 y2 y3 y4 y5 y6 y7) σ =
J Ex.normal (f7e17 y0 y1 y2 y3 y4 y5 y6 (IntKind.wrap IntKind.i64 (y7 + (1 : Int))) (IntKind.wrap IntKind.i64 (y7 + (1 : Int)))) σ := hide (by kernel_rfl)
theorem f7z17_f7e17 (y0 : Option (Nat × Nat)) (y1 : Nat) (y2 : Option Nat) (y3 : Option (Nat × Nat)) (y4 : Nat) (y5 : Option Nat) (y6 : Int) (y7 : Int) (y8 : Int) : Ann.clr f7a17 (f7e17 y0 y1 y2 y3 y4 y5 y6 y7 y8) = f7e11 y0 y1 y2 y3 y4 y5 y6 y7 := hide (by kernel_rfl)
theorem f7z16_f7e13 (y0 : Option (Nat × Nat)) (y1 : Nat) (y2 : Option Nat) : Ann.clr f7a16 (f7e13 y0 y1 y2) = f7e13 y0 y1 y2 := hide (by kernel_rfl)
theorem f7z12_f7e13 (y0 : Option (Nat × Nat)) (y1 : Nat) (y2 : Option Nat) : Ann.clr f7a12 (f7e13 y0 y1 y2) = f7e13 y0 y1 y2 := hide (by kernel_rfl)
theorem f7n14 {R : Type} (call : Bool → CallF R) (dem : Bool) (N : Nat) (J : KF R) (e : Env) (σ : St) : runK Tryz.prog call dem N f7c14 f7a14 J e σ = runK Tryz.prog call dem N f7c30 f7a30 (seqC (fun K e σ => runK Tryz.prog call dem N f7c31 f7a31 K e σ) f7a14 J) e σ := runK_seq' (by kernel_rfl) (by kernel_rfl) (by kernel_rfl)
theorem f7r30_f7e13 {R : Type} (call : Bool → CallF R) (dem : Bool) (N : Nat) (y0 : Option (Nat × Nat)) (y1 : Nat) (y2 : Option Nat) (J : KF R) (σ : St) :
    runK Tryz.prog call dem N f7c30 f7a30 J (f7e13 y0 y1 y2) σ =
call dem (15 : Nat) [AV.slice y0 y1 y2 (1 : Nat)] σ fun v0 v1 =>
  Option.bind (AV.toStr v0) fun v2 => J Ex.normal (f7e18 v2 (0 : Int) y0 y1 y2 y0 y1 y2 v2) v1 := hide (by kernel_rfl)
theorem f7z14_f7e18 (y0 : ByteArray) (y1 : Int) (y2 : Option (Nat × Nat)) (y3 : Nat) (y4 : Option Nat) (y5 : Option (Nat × Nat)) (y6 : Nat) (y7 : Option Nat) (y8 : ByteArray) : Ann.clr f7a14 (f7e18 y0 y1 y2 y3 y4 y5 y6 y7 y8) = f7e7 y0 y1 := hide (by kernel_rfl)
theorem f7y31_f7e7 {R : Type} (call : Bool → CallF R) (dem : Bool) (N : Nat) (y0 : ByteArray) (y1 : Int) (J : KF R) (σ : St) : runK Tryz.prog call dem N f7c31 f7a31 J (f7e7 y0 y1) σ = J .ret (f7e7 y0 y1) σ := runK_ret' (by kernel_rfl) (by kernel_rfl)
theorem f7b_f7e7_r {R : Type} (y0 : ByteArray) (y1 : Int) (σ : St) (K : AV → St → Option R) : bodyC Tryz.prog f7rs K (Ex.ret) (f7e7 y0 y1) σ =
K (AV.tuple [AV.str y0, AV.int IntKind.i64 y1]) σ := hide (by kernel_rfl)
attribute [go_sem] f7_eq f7n0 f7r1_f7e0 f7z0_f7e1 f7n2 f7n3 f7r5_f7e2 f7z3_f7e3 f7x6_f7e5 f7n7 f7r9_f7e5 f7z7_f7e6 f7y10_f7e7 f7n8 f7z6_f7e5 f7z3_f7e4 f7z2_f7e2 f7n4 f7r11_f7e2 f7z4_f7e8 f7n12 f7n13 f7r15_f7e9 f7z13_f7e10 f7n16 f7L17_eq f7z17_f7e11 f7l17_f7e11 f7n18 f7r19_f7e11 f7z18_f7e12 f7n20 f7x21_f7e12 f7n23 f7z21_f7e12 f7y24_f7e12 f7z20_f7e11 f7n22 f7n25 f7n27 f7r28_f7e11 f7z27_f7e14 f7r29_f7e15 f7z25_f7e16 f7z22_f7e11 f7r26_f7e11 f7z17_f7e17 f7z16_f7e13 f7z12_f7e13 f7n14 f7r30_f7e13 f7z14_f7e18 f7y31_f7e7 f7b_f7e7_r

noncomputable def f12rs : List ResultVar := [ResultVar.tmp (2 : Nat)]
noncomputable def f12c0 : Code := subCode [] (bodyOf Tryz.prog 12)
def f12a0 : Ann := subAnn [] ann12
noncomputable def f12c1 : Code := subCode [0] (bodyOf Tryz.prog 12)
def f12a1 : Ann := subAnn [0] ann12
noncomputable def f12c2 : Code := subCode [1] (bodyOf Tryz.prog 12)
def f12a2 : Ann := subAnn [1] ann12
noncomputable def f12c3 : Code := subCode [1, 0] (bodyOf Tryz.prog 12)
def f12a3 : Ann := subAnn [1, 0] ann12
noncomputable def f12c4 : Code := subCode [1, 1] (bodyOf Tryz.prog 12)
def f12a4 : Ann := subAnn [1, 1] ann12
def f12e0 (y0 : Int) (y1 : Int) (y2 : Int) (y3 : ByteArray) (y4 : Option (Nat × Nat)) (y5 : Nat) (y6 : Option Nat) (y7 : Option (Nat × Nat)) (y8 : Nat) (y9 : Option Nat) : Env := AV.agg [AV.int IntKind.i64 y0, AV.int IntKind.i64 y1, AV.int IntKind.i64 y2, AV.str y3, AV.slice y4 y5 y6 (1 : Nat), AV.slice y7 y8 y9 (12 : Nat)] :: Env.sp 12 []
def f12e1 (y0 : Int) (y1 : Int) (y2 : Int) (y3 : ByteArray) (y4 : Option (Nat × Nat)) (y5 : Nat) (y6 : Option Nat) (y7 : Option (Nat × Nat)) (y8 : Nat) (y9 : Option Nat) (y10 : Nat) (y11 : Bool) : Env := AV.agg [AV.int IntKind.i64 y0, AV.int IntKind.i64 y1, AV.int IntKind.i64 y2, AV.str y3, AV.slice y4 y5 y6 (1 : Nat), AV.slice y7 y8 y9 (12 : Nat)] :: AV.ptr (some (y10, (0 : Nat))) :: AV.bool y11 :: Env.sp 10 []
def f12e2 (y0 : Nat) : Env := Env.sp 1 (AV.ptr (some (y0, (0 : Nat))) :: Env.sp 11 [])
def f12e3 (y0 : Nat) (y1 : Bool) (y2 : Nat) (y3 : Option (Nat × Nat)) (y4 : Nat) (y5 : Option Nat) (y6 : Int) (y7 : Bool) (y8 : Bool) (y9 : Bool) : Env := Env.sp 1 (AV.ptr (some (y0, (0 : Nat))) :: AV.bool y1 :: AV.ptr (some (y2, (4 : Nat))) :: AV.slice y3 y4 y5 (1 : Nat) :: AV.int IntKind.i64 y6 :: AV.bool y7 :: AV.bool y8 :: AV.tuple [] :: AV.tuple [] :: AV.tuple [] :: AV.tuple [] :: AV.bool y9 :: [])
def f12e4 (y0 : Nat) (y1 : Bool) (y2 : Nat) (y3 : Option (Nat × Nat)) (y4 : Nat) (y5 : Option Nat) (y6 : Int) (y7 : Bool) (y8 : Bool) (y9 : Nat) (y10 : ByteArray) (y11 : Int) (y12 : Bool) (y13 : Bool) : Env := Env.sp 1 (AV.ptr (some (y0, (0 : Nat))) :: AV.bool y1 :: AV.ptr (some (y2, (4 : Nat))) :: AV.slice y3 y4 y5 (1 : Nat) :: AV.int IntKind.i64 y6 :: AV.bool y7 :: AV.bool y8 :: AV.ptr (some (y9, (3 : Nat))) :: AV.str y10 :: AV.int IntKind.i64 y11 :: AV.bool y12 :: AV.bool y13 :: [])
def f12e5 (y0 : Bool) : Env := Env.sp 2 (AV.bool y0 :: Env.sp 10 [])

/- function 12 -/
theorem f12_eq {R : Type} (call : Bool → CallF R) (dem : Bool) (N : Nat) (y0 : Int) (y1 : Int) (y2 : Int) (y3 : ByteArray) (y4 : Option (Nat × Nat)) (y5 : Nat) (y6 : Option Nat) (y7 : Option (Nat × Nat)) (y8 : Nat) (y9 : Option Nat) (σ : St) (K : AV → St → Option R) :
    bodyK Tryz.prog call dem N ann 12 [AV.agg [AV.int IntKind.i64 y0, AV.int IntKind.i64 y1, AV.int IntKind.i64 y2, AV.str y3, AV.slice y4 y5 y6 (1 : Nat), AV.slice y7 y8 y9 (12 : Nat)]] σ K = runK Tryz.prog call dem N f12c0 f12a0 (bodyC Tryz.prog f12rs K) (f12e0 y0 y1 y2 y3 y4 y5 y6 y7 y8 y9) σ := bodyK_of (fn := ((Tryz.prog.funcs[12]?).get rfl)) (by kernel_rfl) (by kernel_rfl) (by kernel_rfl) (by kernel_rfl) (by kernel_rfl) (by kernel_rfl)
theorem f12n0 {R : Type} (call : Bool → CallF R) (dem : Bool) (N : Nat) (J : KF R) (e : Env) (σ : St) : runK Tryz.prog call dem N f12c0 f12a0 J e σ = runK Tryz.prog call dem N f12c1 f12a1 (seqC (fun K e σ => runK Tryz.prog call dem N f12c2 f12a2 K e σ) f12a0 J) e σ := runK_seq' (by kernel_rfl) (by kernel_rfl) (by kernel_rfl)
theorem f12r1_f12e0 {R : Type} (call : Bool → CallF R) (dem : Bool) (N : Nat) (y0 : Int) (y1 : Int) (y2 : Int) (y3 : ByteArray) (y4 : Option (Nat × Nat)) (y5 : Nat) (y6 : Option Nat) (y7 : Option (Nat × Nat)) (y8 : Nat) (y9 : Option Nat) (J : KF R) (σ : St) :
    runK Tryz.prog call dem N f12c1 f12a1 J (f12e0 y0 y1 y2 y3 y4 y5 y6 y7 y8 y9) σ =
J Ex.normal (f12e1 y0 y1 y2 y3 y4 y5 y6 y7 y8 y9 (St.next σ) false)
  (St.new σ
    (Blk.cells
      [AV.int IntKind.i64 y0, AV.int IntKind.i64 y1, AV.int IntKind.i64 y2, AV.str y3, AV.slice y4 y5 y6 (1 : Nat), AV.slice y7 y8 y9 (12 : Nat)]
      true)) := hide (by kernel_rfl)
theorem f12z0_f12e1 (y0 : Int) (y1 : Int) (y2 : Int) (y3 : ByteArray) (y4 : Option (Nat × Nat)) (y5 : Nat) (y6 : Option Nat) (y7 : Option (Nat × Nat)) (y8 : Nat) (y9 : Option Nat) (y10 : Nat) (y11 : Bool) : Ann.clr f12a0 (f12e1 y0 y1 y2 y3 y4 y5 y6 y7 y8 y9 y10 y11) = f12e2 y10 := hide (by kernel_rfl)
theorem f12n2 {R : Type} (call : Bool → CallF R) (dem : Bool) (N : Nat) (J : KF R) (e : Env) (σ : St) : runK Tryz.prog call dem N f12c2 f12a2 J e σ = runK Tryz.prog call dem N f12c3 f12a3 (seqC (fun K e σ => runK Tryz.prog call dem N f12c4 f12a4 K e σ) f12a2 J) e σ := runK_seq' (by kernel_rfl) (by kernel_rfl) (by kernel_rfl)
theorem f12r3_f12e2 {R : Type} (call : Bool → CallF R) (dem : Bool) (N : Nat) (y0 : Nat) (J : KF R) (σ : St) :
    runK Tryz.prog call dem N f12c3 f12a3 J (f12e2 y0) σ =
Option.bind (St.ld σ y0 (4 : Nat)) fun v0 =>
  Option.bind (AV.toSl (1 : Nat) v0) fun v1 =>
    if decide ((↑(Sl.len v1) : Int) > (16 : Int)) = true then
      J Ex.normal (f12e3 y0 true y0 (Sl.o v1) (Sl.len v1) (Sl.cap v1) (↑(Sl.len v1) : Int) (decide ((↑(Sl.len v1) : Int) > (16 : Int))) true true) σ
    else
      Option.bind (St.ld σ y0 (3 : Nat)) fun v2 =>
        Option.bind (AV.toStr v2) fun v3 =>
          J Ex.normal
            (f12e4 y0 (decide ((↑(ByteArray.size v3) : Int) > (32 : Int))) y0 (Sl.o v1) (Sl.len v1) (Sl.cap v1) (↑(Sl.len v1) : Int)
              (decide ((↑(Sl.len v1) : Int) > (16 : Int))) false y0 v3 (↑(ByteArray.size v3) : Int)
              (decide ((↑(ByteArray.size v3) : Int) > (32 : Int))) (decide ((↑(ByteArray.size v3) : Int) > (32 : Int))))
            σ := hide (by kernel_rfl)
theorem f12z2_f12e3 (y0 : Nat) (y1 : Bool) (y2 : Nat) (y3 : Option (Nat × Nat)) (y4 : Nat) (y5 : Option Nat) (y6 : Int) (y7 : Bool) (y8 : Bool) (y9 : Bool) : Ann.clr f12a2 (f12e3 y0 y1 y2 y3 y4 y5 y6 y7 y8 y9) = f12e5 y1 := hide (by kernel_rfl)
theorem f12y4_f12e5 {R : Type} (call : Bool → CallF R) (dem : Bool) (N : Nat) (y0 : Bool) (J : KF R) (σ : St) : runK Tryz.prog call dem N f12c4 f12a4 J (f12e5 y0) σ = J .ret (f12e5 y0) σ := runK_ret' (by kernel_rfl) (by kernel_rfl)
theorem f12z2_f12e4 (y0 : Nat) (y1 : Bool) (y2 : Nat) (y3 : Option (Nat × Nat)) (y4 : Nat) (y5 : Option Nat) (y6 : Int) (y7 : Bool) (y8 : Bool) (y9 : Nat) (y10 : ByteArray) (y11 : Int) (y12 : Bool) (y13 : Bool) : Ann.clr f12a2 (f12e4 y0 y1 y2 y3 y4 y5 y6 y7 y8 y9 y10 y11 y12 y13) = f12e5 y1 := hide (by kernel_rfl)
theorem f12b_f12e5_r {R : Type} (y0 : Bool) (σ : St) (K : AV → St → Option R) : bodyC Tryz.prog f12rs K (Ex.ret) (f12e5 y0) σ =
K (AV.bool y0) σ := hide (by kernel_rfl)
attribute [go_sem] f12_eq f12n0 f12r1_f12e0 f12z0_f12e1 f12n2 f12r3_f12e2 f12z2_f12e3 f12y4_f12e5 f12z2_f12e4 f12b_f12e5_r

noncomputable def f13rs : List ResultVar := [ResultVar.tmp (2 : Nat)]
noncomputable def f13c0 : Code := subCode [] (bodyOf Tryz.prog 13)
def f13a0 : Ann := subAnn [] ann13
noncomputable def f13c1 : Code := subCode [0] (bodyOf Tryz.prog 13)
def f13a1 : Ann := subAnn [0] ann13
noncomputable def f13c2 : Code := subCode [1] (bodyOf Tryz.prog 13)
def f13a2 : Ann := subAnn [1] ann13
noncomputable def f13c3 : Code := subCode [1, 0] (bodyOf Tryz.prog 13)
def f13a3 : Ann := subAnn [1, 0] ann13
noncomputable def f13c4 : Code := subCode [1, 1] (bodyOf Tryz.prog 13)
def f13a4 : Ann := subAnn [1, 1] ann13
noncomputable def f13c5 : Code := subCode [1, 1, 0] (bodyOf Tryz.prog 13)
def f13a5 : Ann := subAnn [1, 1, 0] ann13
noncomputable def f13c6 : Code := subCode [1, 1, 1] (bodyOf Tryz.prog 13)
def f13a6 : Ann := subAnn [1, 1, 1] ann13
noncomputable def f13c7 : Code := subCode [1, 1, 0, 0] (bodyOf Tryz.prog 13)
def f13a7 : Ann := subAnn [1, 1, 0, 0] ann13
noncomputable def f13c8 : Code := subCode [1, 1, 0, 1] (bodyOf Tryz.prog 13)
def f13a8 : Ann := subAnn [1, 1, 0, 1] ann13
noncomputable def f13c9 : Code := subCode [1, 1, 0, 1, 0] (bodyOf Tryz.prog 13)
def f13a9 : Ann := subAnn [1, 1, 0, 1, 0] ann13
noncomputable def f13c10 : Code := subCode [1, 1, 0, 1, 0, 0] (bodyOf Tryz.prog 13)
def f13a10 : Ann := subAnn [1, 1, 0, 1, 0, 0] ann13
noncomputable def f13c11 : Code := subCode [1, 1, 0, 1, 0, 0, 0] (bodyOf Tryz.prog 13)
def f13a11 : Ann := subAnn [1, 1, 0, 1, 0, 0, 0] ann13
noncomputable def f13c12 : Code := subCode [1, 1, 0, 1, 0, 0, 1] (bodyOf Tryz.prog 13)
def f13a12 : Ann := subAnn [1, 1, 0, 1, 0, 0, 1] ann13
noncomputable def f13c13 : Code := subCode [1, 1, 0, 1, 0, 0, 1, 0] (bodyOf Tryz.prog 13)
def f13a13 : Ann := subAnn [1, 1, 0, 1, 0, 0, 1, 0] ann13
noncomputable def f13c14 : Code := subCode [1, 1, 0, 1, 0, 0, 1, 1] (bodyOf Tryz.prog 13)
def f13a14 : Ann := subAnn [1, 1, 0, 1, 0, 0, 1, 1] ann13
noncomputable def f13c15 : Code := subCode [1, 1, 0, 1, 0, 0, 1, 0, 0] (bodyOf Tryz.prog 13)
def f13a15 : Ann := subAnn [1, 1, 0, 1, 0, 0, 1, 0, 0] ann13
noncomputable def f13c16 : Code := subCode [1, 1, 0, 1, 0, 0, 1, 0, 1] (bodyOf Tryz.prog 13)
def f13a16 : Ann := subAnn [1, 1, 0, 1, 0, 0, 1, 0, 1] ann13
noncomputable def f13c17 : Code := subCode [1, 1, 0, 1, 0, 0, 1, 1, 0] (bodyOf Tryz.prog 13)
def f13a17 : Ann := subAnn [1, 1, 0, 1, 0, 0, 1, 1, 0] ann13
noncomputable def f13c18 : Code := subCode [1, 1, 0, 1, 0, 0, 1, 1, 1] (bodyOf Tryz.prog 13)
def f13a18 : Ann := subAnn [1, 1, 0, 1, 0, 0, 1, 1, 1] ann13
noncomputable def f13c19 : Code := subCode [1, 1, 0, 1, 0, 0, 1, 1, 0, 0] (bodyOf Tryz.prog 13)
def f13a19 : Ann := subAnn [1, 1, 0, 1, 0, 0, 1, 1, 0, 0] ann13
noncomputable def f13c20 : Code := subCode [1, 1, 0, 1, 0, 0, 1, 1, 0, 0, 0] (bodyOf Tryz.prog 13)
def f13a20 : Ann := subAnn [1, 1, 0, 1, 0, 0, 1, 1, 0, 0, 0] ann13
noncomputable def f13c21 : Code := subCode [1, 1, 0, 1, 0, 0, 1, 1, 0, 0, 1] (bodyOf Tryz.prog 13)
def f13a21 : Ann := subAnn [1, 1, 0, 1, 0, 0, 1, 1, 0, 0, 1] ann13
noncomputable def f13c22 : Code := subCode [1, 1, 1, 0] (bodyOf Tryz.prog 13)
def f13a22 : Ann := subAnn [1, 1, 1, 0] ann13
noncomputable def f13c23 : Code := subCode [1, 1, 1, 1] (bodyOf Tryz.prog 13)
def f13a23 : Ann := subAnn [1, 1, 1, 1] ann13
noncomputable def f13L9 {R : Type} (call : Bool → CallF R) (dem : Bool) (N : Nat) : KF R → Env → St → Option R := fun K e σ => runK Tryz.prog call dem N f13c10 f13a10 K e σ
def f13e0 (y0 : Int) (y1 : Int) (y2 : Int) (y3 : ByteArray) (y4 : Option (Nat × Nat)) (y5 : Nat) (y6 : Option Nat) (y7 : Option (Nat × Nat)) (y8 : Nat) (y9 : Option Nat) : Env := AV.agg [AV.int IntKind.i64 y0, AV.int IntKind.i64 y1, AV.int IntKind.i64 y2, AV.str y3, AV.slice y4 y5 y6 (1 : Nat), AV.slice y7 y8 y9 (12 : Nat)] :: Env.sp 35 []
def f13e1 (y0 : Int) (y1 : Int) (y2 : Int) (y3 : ByteArray) (y4 : Option (Nat × Nat)) (y5 : Nat) (y6 : Option Nat) (y7 : Option (Nat × Nat)) (y8 : Nat) (y9 : Option Nat) (y10 : Nat) (y11 : ByteArray) : Env := AV.agg [AV.int IntKind.i64 y0, AV.int IntKind.i64 y1, AV.int IntKind.i64 y2, AV.str y3, AV.slice y4 y5 y6 (1 : Nat), AV.slice y7 y8 y9 (12 : Nat)] :: AV.ptr (some (y10, (0 : Nat))) :: AV.str y11 :: Env.sp 33 []
def f13e2 (y0 : Nat) : Env := Env.sp 1 (AV.ptr (some (y0, (0 : Nat))) :: Env.sp 34 [])
def f13e3 (y0 : Nat) (y1 : Option (Nat × Nat)) (y2 : Nat) (y3 : Option Nat) (y4 : Nat) (y5 : Nat) (y6 : Int) (y7 : ByteArray) (y8 : Nat) (y9 : Nat) (y10 : Int) (y11 : ByteArray) (y12 : Nat) (y13 : Nat) (y14 : Int) (y15 : ByteArray) (y16 : Nat) (y17 : ByteArray) (y18 : Option (Nat × Nat)) (y19 : Nat) (y20 : Option Nat) : Env := Env.sp 1 (AV.ptr (some (y0, (0 : Nat))) :: Env.sp 1 (AV.slice y1 y2 y3 (1 : Nat) :: Env.sp 2 (AV.ptr (some (y4, (0 : Nat))) :: AV.ptr (some (y5, (0 : Nat))) :: AV.int IntKind.i64 y6 :: AV.str y7 :: AV.ptr (some (y8, (0 : Nat))) :: AV.ptr (some (y9, (1 : Nat))) :: AV.int IntKind.i64 y10 :: AV.str y11 :: AV.ptr (some (y12, (0 : Nat))) :: AV.ptr (some (y13, (2 : Nat))) :: AV.int IntKind.i64 y14 :: AV.str y15 :: AV.ptr (some (y16, (3 : Nat))) :: AV.str y17 :: AV.slice y18 y19 y20 (1 : Nat) :: Env.sp 15 [])))
def f13e4 (y0 : Nat) (y1 : Option (Nat × Nat)) (y2 : Nat) (y3 : Option Nat) : Env := Env.sp 1 (AV.ptr (some (y0, (0 : Nat))) :: Env.sp 1 (AV.slice y1 y2 y3 (1 : Nat) :: Env.sp 32 []))
def f13e5 (y0 : Nat) (y1 : Option (Nat × Nat)) (y2 : Nat) (y3 : Option Nat) (y4 : Nat) (y5 : Option (Nat × Nat)) (y6 : Nat) (y7 : Option Nat) (y8 : Int) (y9 : Int) : Env := Env.sp 1 (AV.ptr (some (y0, (0 : Nat))) :: Env.sp 1 (AV.slice y1 y2 y3 (1 : Nat) :: Env.sp 17 (AV.ptr (some (y4, (4 : Nat))) :: AV.slice y5 y6 y7 (1 : Nat) :: AV.int IntKind.i64 y8 :: AV.int IntKind.i64 y9 :: Env.sp 11 [])))
def f13e6 (y0 : Option (Nat × Nat)) (y1 : Nat) (y2 : Option Nat) (y3 : Option (Nat × Nat)) (y4 : Nat) (y5 : Option Nat) (y6 : Int) (y7 : Int) : Env := Env.sp 3 (AV.slice y0 y1 y2 (1 : Nat) :: Env.sp 18 (AV.slice y3 y4 y5 (1 : Nat) :: AV.int IntKind.i64 y6 :: AV.int IntKind.i64 y7 :: Env.sp 11 []))
def f13e7 (y0 : Option (Nat × Nat)) (y1 : Nat) (y2 : Option Nat) (y3 : Option (Nat × Nat)) (y4 : Nat) (y5 : Option Nat) (y6 : Int) (y7 : Int) (y8 : Bool) : Env := Env.sp 3 (AV.slice y0 y1 y2 (1 : Nat) :: Env.sp 18 (AV.slice y3 y4 y5 (1 : Nat) :: AV.int IntKind.i64 y6 :: AV.int IntKind.i64 y7 :: AV.bool y8 :: Env.sp 10 []))
def f13e8 (y0 : Option (Nat × Nat)) (y1 : Nat) (y2 : Option Nat) : Env := Env.sp 3 (AV.slice y0 y1 y2 (1 : Nat) :: Env.sp 32 [])
def f13e9 (y0 : Option (Nat × Nat)) (y1 : Nat) (y2 : Option Nat) (y3 : Int) (y4 : Option (Nat × Nat)) (y5 : Nat) (y6 : Option Nat) (y7 : Int) (y8 : Int) (y9 : Option (Nat × Nat)) (y10 : Int) : Env := Env.sp 3 (AV.slice y0 y1 y2 (1 : Nat) :: Env.sp 1 (AV.int IntKind.i64 y3 :: Env.sp 16 (AV.slice y4 y5 y6 (1 : Nat) :: AV.int IntKind.i64 y7 :: AV.int IntKind.i64 y8 :: Env.sp 1 (AV.ptr y9 :: AV.int IntKind.i64 y10 :: Env.sp 8 []))))
def f13e10 (y0 : Option (Nat × Nat)) (y1 : Nat) (y2 : Option Nat) (y3 : Int) (y4 : Option (Nat × Nat)) (y5 : Nat) (y6 : Option Nat) (y7 : Int) (y8 : Int) : Env := Env.sp 3 (AV.slice y0 y1 y2 (1 : Nat) :: Env.sp 1 (AV.int IntKind.i64 y3 :: Env.sp 16 (AV.slice y4 y5 y6 (1 : Nat) :: AV.int IntKind.i64 y7 :: AV.int IntKind.i64 y8 :: Env.sp 11 [])))
def f13e11 (y0 : Option (Nat × Nat)) (y1 : Nat) (y2 : Option Nat) (y3 : Int) (y4 : Option (Nat × Nat)) (y5 : Nat) (y6 : Option Nat) (y7 : Int) (y8 : Int) (y9 : Option (Nat × Nat)) (y10 : Nat) (y11 : Option Nat) (y12 : Int) (y13 : ByteArray) (y14 : Option (Nat × Nat)) (y15 : Nat) (y16 : Option Nat) (y17 : Option (Nat × Nat)) (y18 : Nat) (y19 : Option Nat) : Env := Env.sp 3 (AV.slice y0 y1 y2 (1 : Nat) :: Env.sp 1 (AV.int IntKind.i64 y3 :: Env.sp 16 (AV.slice y4 y5 y6 (1 : Nat) :: AV.int IntKind.i64 y7 :: AV.int IntKind.i64 y8 :: Env.sp 3 (AV.slice y9 y10 y11 (1 : Nat) :: AV.int IntKind.i64 y12 :: AV.str y13 :: AV.slice y14 y15 y16 (1 : Nat) :: AV.slice y17 y18 y19 (1 : Nat) :: Env.sp 3 []))))
def f13e12 (y0 : Option (Nat × Nat)) (y1 : Nat) (y2 : Option Nat) (y3 : Option (Nat × Nat)) (y4 : Nat) (y5 : Option Nat) (y6 : Int) (y7 : Int) (y8 : Int) : Env := Env.sp 3 (AV.slice y0 y1 y2 (1 : Nat) :: Env.sp 18 (AV.slice y3 y4 y5 (1 : Nat) :: AV.int IntKind.i64 y6 :: AV.int IntKind.i64 y7 :: Env.sp 8 (AV.int IntKind.i64 y8 :: Env.sp 2 [])))
def f13e13 (y0 : ByteArray) (y1 : Option (Nat × Nat)) (y2 : Nat) (y3 : Option Nat) (y4 : Option (Nat × Nat)) (y5 : Nat) (y6 : Option Nat) (y7 : ByteArray) : Env := Env.sp 2 (AV.str y0 :: AV.slice y1 y2 y3 (1 : Nat) :: Env.sp 30 (AV.slice y4 y5 y6 (1 : Nat) :: AV.str y7 :: []))
def f13e14 (y0 : ByteArray) : Env := Env.sp 2 (AV.str y0 :: Env.sp 33 [])

/- function 13 -/
theorem f13_eq {R : Type} (call : Bool → CallF R) (dem : Bool) (N : Nat) (y0 : Int) (y1 : Int) (y2 : Int) (y3 : ByteArray) (y4 : Option (Nat × Nat)) (y5 : Nat) (y6 : Option Nat) (y7 : Option (Nat × Nat)) (y8 : Nat) (y9 : Option Nat) (σ : St) (K : AV → St → Option R) :
    bodyK Tryz.prog call dem N ann 13 [AV.agg [AV.int IntKind.i64 y0, AV.int IntKind.i64 y1, AV.int IntKind.i64 y2, AV.str y3, AV.slice y4 y5 y6 (1 : Nat), AV.slice y7 y8 y9 (12 : Nat)]] σ K = runK Tryz.prog call dem N f13c0 f13a0 (bodyC Tryz.prog f13rs K) (f13e0 y0 y1 y2 y3 y4 y5 y6 y7 y8 y9) σ := bodyK_of (fn := ((Tryz.prog.funcs[13]?).get rfl)) (by kernel_rfl) (by kernel_rfl) (by kernel_rfl) (by kernel_rfl) (by kernel_rfl) (by kernel_rfl)
theorem f13n0 {R : Type} (call : Bool → CallF R) (dem : Bool) (N : Nat) (J : KF R) (e : Env) (σ : St) : runK Tryz.prog call dem N f13c0 f13a0 J e σ = runK Tryz.prog call dem N f13c1 f13a1 (seqC (fun K e σ => runK Tryz.prog call dem N f13c2 f13a2 K e σ) f13a0 J) e σ := runK_seq' (by kernel_rfl) (by kernel_rfl) (by kernel_rfl)
theorem f13r1_f13e0 {R : Type} (call : Bool → CallF R) (dem : Bool) (N : Nat) (y0 : Int) (y1 : Int) (y2 : Int) (y3 : ByteArray) (y4 : Option (Nat × Nat)) (y5 : Nat) (y6 : Option Nat) (y7 : Option (Nat × Nat)) (y8 : Nat) (y9 : Option Nat) (J : KF R) (σ : St) :
    runK Tryz.prog call dem N f13c1 f13a1 J (f13e0 y0 y1 y2 y3 y4 y5 y6 y7 y8 y9) σ =
J Ex.normal (f13e1 y0 y1 y2 y3 y4 y5 y6 y7 y8 y9 (St.next σ) (ByteArray.mk #[]))
  (St.new σ
    (Blk.cells
      [AV.int IntKind.i64 y0, AV.int IntKind.i64 y1, AV.int IntKind.i64 y2, AV.str y3, AV.slice y4 y5 y6 (1 : Nat), AV.slice y7 y8 y9 (12 : Nat)]
      true)) := hide (by kernel_rfl)
theorem f13z0_f13e1 (y0 : Int) (y1 : Int) (y2 : Int) (y3 : ByteArray) (y4 : Option (Nat × Nat)) (y5 : Nat) (y6 : Option Nat) (y7 : Option (Nat × Nat)) (y8 : Nat) (y9 : Option Nat) (y10 : Nat) (y11 : ByteArray) : Ann.clr f13a0 (f13e1 y0 y1 y2 y3 y4 y5 y6 y7 y8 y9 y10 y11) = f13e2 y10 := hide (by kernel_rfl)
theorem f13n2 {R : Type} (call : Bool → CallF R) (dem : Bool) (N : Nat) (J : KF R) (e : Env) (σ : St) : runK Tryz.prog call dem N f13c2 f13a2 J e σ = runK Tryz.prog call dem N f13c3 f13a3 (seqC (fun K e σ => runK Tryz.prog call dem N f13c4 f13a4 K e σ) f13a2 J) e σ := runK_seq' (by kernel_rfl) (by kernel_rfl) (by kernel_rfl)
theorem f13r3_f13e2 {R : Type} (call : Bool → CallF R) (dem : Bool) (N : Nat) (y0 : Nat) (J : KF R) (σ : St) :
    runK Tryz.prog call dem N f13c3 f13a3 J (f13e2 y0) σ =
Option.bind (St.ld σ y0 (0 : Nat)) fun v0 =>
  Option.bind (AV.toInt IntKind.i64 v0) fun v1 =>
    call false (27 : Nat) [AV.int IntKind.i64 v1] σ fun v2 v3 =>
      Option.bind (AV.toStr v2) fun v4 =>
        Option.bind (St.ld v3 y0 (1 : Nat)) fun v5 =>
          Option.bind (AV.toInt IntKind.i64 v5) fun v6 =>
            if St.same σ y0 (1 : Nat) [AV.int IntKind.i64 v6] = true then
              call false (27 : Nat) [AV.int IntKind.i64 v6] v3 fun v7 v8 =>
                Option.bind (AV.toStr v7) fun v9 =>
                  Option.bind (St.ld v8 y0 (2 : Nat)) fun v10 =>
                    Option.bind (AV.toInt IntKind.i64 v10) fun v11 =>
                      if St.same v3 y0 (2 : Nat) [AV.int IntKind.i64 v11] = true then
                        if St.same σ y0 (2 : Nat) [AV.int IntKind.i64 v11] = true then
                          call false (27 : Nat) [AV.int IntKind.i64 v11] v8 fun v12 v13 =>
                            Option.bind (AV.toStr v12) fun v14 =>
                              Option.bind (St.ld v13 y0 (3 : Nat)) fun v15 =>
                                Option.bind (AV.toStr v15) fun v16 =>
                                  if St.same v8 y0 (3 : Nat) [AV.str v16] = true then
                                    if St.same v3 y0 (3 : Nat) [AV.str v16] = true then
                                      if St.same σ y0 (3 : Nat) [AV.str v16] = true then
                                        J Ex.normal
                                          (f13e3 y0 (some (St.next v13, (0 : Nat))) (4 : Nat) (some (4 : Nat)) y0 y0 v1 v4 y0 y0 v6 v9 y0 y0 v11 v14
                                            y0 v16 (some (St.next v13, (0 : Nat))) (4 : Nat) (some (4 : Nat)))
                                          (St.new v13 (Blk.cells [AV.str v4, AV.str v9, AV.str v14, AV.str v16] true))
                                      else none
                                    else none
                                  else none
                        else none
                      else none
            else none := hide (by kernel_rfl)
theorem f13z2_f13e3 (y0 : Nat) (y1 : Option (Nat × Nat)) (y2 : Nat) (y3 : Option Nat) (y4 : Nat) (y5 : Nat) (y6 : Int) (y7 : ByteArray) (y8 : Nat) (y9 : Nat) (y10 : Int) (y11 : ByteArray) (y12 : Nat) (y13 : Nat) (y14 : Int) (y15 : ByteArray) (y16 : Nat) (y17 : ByteArray) (y18 : Option (Nat × Nat)) (y19 : Nat) (y20 : Option Nat) : Ann.clr f13a2 (f13e3 y0 y1 y2 y3 y4 y5 y6 y7 y8 y9 y10 y11 y12 y13 y14 y15 y16 y17 y18 y19 y20) = f13e4 y0 y1 y2 y3 := hide (by kernel_rfl)
theorem f13n4 {R : Type} (call : Bool → CallF R) (dem : Bool) (N : Nat) (J : KF R) (e : Env) (σ : St) : runK Tryz.prog call dem N f13c4 f13a4 J e σ = runK Tryz.prog call dem N f13c5 f13a5 (seqC (fun K e σ => runK Tryz.prog call dem N f13c6 f13a6 K e σ) f13a4 J) e σ := runK_seq' (by kernel_rfl) (by kernel_rfl) (by kernel_rfl)
theorem f13n5 {R : Type} (call : Bool → CallF R) (dem : Bool) (N : Nat) (J : KF R) (e : Env) (σ : St) : runK Tryz.prog call dem N f13c5 f13a5 J e σ = runK Tryz.prog call dem N f13c7 f13a7 (seqC (fun K e σ => runK Tryz.prog call dem N f13c8 f13a8 K e σ) f13a5 J) e σ := runK_seq' (by kernel_rfl) (by kernel_rfl) (by kernel_rfl)
theorem f13r7_f13e4 {R : Type} (call : Bool → CallF R) (dem : Bool) (N : Nat) (y0 : Nat) (y1 : Option (Nat × Nat)) (y2 : Nat) (y3 : Option Nat) (J : KF R) (σ : St) :
    runK Tryz.prog call dem N f13c7 f13a7 J (f13e4 y0 y1 y2 y3) σ =
Option.bind (St.ld σ y0 (4 : Nat)) fun v0 =>
  Option.bind (AV.toSl (1 : Nat) v0) fun v1 => J Ex.normal (f13e5 y0 y1 y2 y3 y0 (Sl.o v1) (Sl.len v1) (Sl.cap v1) (↑(Sl.len v1) : Int) (0 : Int)) σ := hide (by kernel_rfl)
theorem f13z5_f13e5 (y0 : Nat) (y1 : Option (Nat × Nat)) (y2 : Nat) (y3 : Option Nat) (y4 : Nat) (y5 : Option (Nat × Nat)) (y6 : Nat) (y7 : Option Nat) (y8 : Int) (y9 : Int) : Ann.clr f13a5 (f13e5 y0 y1 y2 y3 y4 y5 y6 y7 y8 y9) = f13e6 y1 y2 y3 y5 y6 y7 y8 y9 := hide (by kernel_rfl)
theorem f13n8 {R : Type} (call : Bool → CallF R) (dem : Bool) (N : Nat) (J : KF R) (e : Env) (σ : St) : runK Tryz.prog call dem N f13c8 f13a8 J e σ = runK Tryz.prog call dem N f13c9 f13a9 (blockC 0 f13a8 J) e σ := runK_block' (by kernel_rfl) (by kernel_rfl)
theorem f13L9_eq {R : Type} (call : Bool → CallF R) (dem : Bool) (N : Nat) (J : KF R) (e : Env) (σ : St) : f13L9 call dem N J e σ = runK Tryz.prog call dem N f13c10 f13a10 J e σ := hide rfl
theorem f13z9_f13e6 (y0 : Option (Nat × Nat)) (y1 : Nat) (y2 : Option Nat) (y3 : Option (Nat × Nat)) (y4 : Nat) (y5 : Option Nat) (y6 : Int) (y7 : Int) : Ann.clr f13a9 (f13e6 y0 y1 y2 y3 y4 y5 y6 y7) = f13e6 y0 y1 y2 y3 y4 y5 y6 y7 := hide (by kernel_rfl)
theorem f13l9_f13e6 {R : Type} (call : Bool → CallF R) (dem : Bool) (N : Nat) (y0 : Option (Nat × Nat)) (y1 : Nat) (y2 : Option Nat) (y3 : Option (Nat × Nat)) (y4 : Nat) (y5 : Option Nat) (y6 : Int) (y7 : Int) (J : KF R) (σ : St) : runK Tryz.prog call dem N f13c9 f13a9 J (f13e6 y0 y1 y2 y3 y4 y5 y6 y7) σ = loopK (f13L9 call dem N) f13a9 N J (f13e6 y0 y1 y2 y3 y4 y5 y6 y7) σ := runK_loop' (by kernel_rfl) (by kernel_rfl) (by kernel_rfl)
theorem f13n10 {R : Type} (call : Bool → CallF R) (dem : Bool) (N : Nat) (J : KF R) (e : Env) (σ : St) : runK Tryz.prog call dem N f13c10 f13a10 J e σ = runK Tryz.prog call dem N f13c11 f13a11 (seqC (fun K e σ => runK Tryz.prog call dem N f13c12 f13a12 K e σ) f13a10 J) e σ := runK_seq' (by kernel_rfl) (by kernel_rfl) (by kernel_rfl)
theorem f13r11_f13e6 {R : Type} (call : Bool → CallF R) (dem : Bool) (N : Nat) (y0 : Option (Nat × Nat)) (y1 : Nat) (y2 : Option Nat) (y3 : Option (Nat × Nat)) (y4 : Nat) (y5 : Option Nat) (y6 : Int) (y7 : Int) (J : KF R) (σ : St) :
    runK Tryz.prog call dem N f13c11 f13a11 J (f13e6 y0 y1 y2 y3 y4 y5 y6 y7) σ =
J Ex.normal (f13e7 y0 y1 y2 y3 y4 y5 y6 y7 (decide (y7 < y6))) σ := hide (by kernel_rfl)
theorem f13z10_f13e7 (y0 : Option (Nat × Nat)) (y1 : Nat) (y2 : Option Nat) (y3 : Option (Nat × Nat)) (y4 : Nat) (y5 : Option Nat) (y6 : Int) (y7 : Int) (y8 : Bool) : Ann.clr f13a10 (f13e7 y0 y1 y2 y3 y4 y5 y6 y7 y8) = f13e7 y0 y1 y2 y3 y4 y5 y6 y7 y8 := hide (by kernel_rfl)
theorem f13n12 {R : Type} (call : Bool → CallF R) (dem : Bool) (N : Nat) (J : KF R) (e : Env) (σ : St) : runK Tryz.prog call dem N f13c12 f13a12 J e σ = runK Tryz.prog call dem N f13c13 f13a13 (seqC (fun K e σ => runK Tryz.prog call dem N f13c14 f13a14 K e σ) f13a12 J) e σ := runK_seq' (by kernel_rfl) (by kernel_rfl) (by kernel_rfl)
theorem f13x13_f13e7 {R : Type} (call : Bool → CallF R) (dem : Bool) (N : Nat) (y0 : Option (Nat × Nat)) (y1 : Nat) (y2 : Option Nat) (y3 : Option (Nat × Nat)) (y4 : Nat) (y5 : Option Nat) (y6 : Int) (y7 : Int) (y8 : Bool) (J : KF R) (σ : St) : runK Tryz.prog call dem N f13c13 f13a13 J (f13e7 y0 y1 y2 y3 y4 y5 y6 y7 y8) σ = if y8 = true then runK Tryz.prog call dem N f13c15 f13a15 (condC f13a13 J) (f13e7 y0 y1 y2 y3 y4 y5 y6 y7 y8) σ else runK Tryz.prog call dem N f13c16 f13a16 (condC f13a13 J) (f13e7 y0 y1 y2 y3 y4 y5 y6 y7 y8) σ := runK_cond' (o := Operand.tmp (25 : Nat)) (by kernel_rfl) (by kernel_rfl) (by kernel_rfl) (by kernel_rfl)
theorem f13n15 {R : Type} (call : Bool → CallF R) (dem : Bool) (N : Nat) (J : KF R) (e : Env) (σ : St) : runK Tryz.prog call dem N f13c15 f13a15 J e σ = J .normal e σ := runK_skip' (by kernel_rfl)
theorem f13z13_f13e7 (y0 : Option (Nat × Nat)) (y1 : Nat) (y2 : Option Nat) (y3 : Option (Nat × Nat)) (y4 : Nat) (y5 : Option Nat) (y6 : Int) (y7 : Int) (y8 : Bool) : Ann.clr f13a13 (f13e7 y0 y1 y2 y3 y4 y5 y6 y7 y8) = f13e6 y0 y1 y2 y3 y4 y5 y6 y7 := hide (by kernel_rfl)
theorem f13y16_f13e7 {R : Type} (call : Bool → CallF R) (dem : Bool) (N : Nat) (y0 : Option (Nat × Nat)) (y1 : Nat) (y2 : Option Nat) (y3 : Option (Nat × Nat)) (y4 : Nat) (y5 : Option Nat) (y6 : Int) (y7 : Int) (y8 : Bool) (J : KF R) (σ : St) : runK Tryz.prog call dem N f13c16 f13a16 J (f13e7 y0 y1 y2 y3 y4 y5 y6 y7 y8) σ = J (.exit 0) (f13e8 y0 y1 y2) σ := runK_exit' (by kernel_rfl) (by kernel_rfl)
theorem f13z12_f13e6 (y0 : Option (Nat × Nat)) (y1 : Nat) (y2 : Option Nat) (y3 : Option (Nat × Nat)) (y4 : Nat) (y5 : Option Nat) (y6 : Int) (y7 : Int) : Ann.clr f13a12 (f13e6 y0 y1 y2 y3 y4 y5 y6 y7) = f13e6 y0 y1 y2 y3 y4 y5 y6 y7 := hide (by kernel_rfl)
theorem f13n14 {R : Type} (call : Bool → CallF R) (dem : Bool) (N : Nat) (J : KF R) (e : Env) (σ : St) : runK Tryz.prog call dem N f13c14 f13a14 J e σ = runK Tryz.prog call dem N f13c17 f13a17 (seqC (fun K e σ => runK Tryz.prog call dem N f13c18 f13a18 K e σ) f13a14 J) e σ := runK_seq' (by kernel_rfl) (by kernel_rfl) (by kernel_rfl)
theorem f13n17 {R : Type} (call : Bool → CallF R) (dem : Bool) (N : Nat) (J : KF R) (e : Env) (σ : St) : runK Tryz.prog call dem N f13c17 f13a17 J e σ = runK Tryz.prog call dem N f13c19 f13a19 (blockC 1 f13a17 J) e σ := runK_block' (by kernel_rfl) (by kernel_rfl)
theorem f13n19 {R : Type} (call : Bool → CallF R) (dem : Bool) (N : Nat) (J : KF R) (e : Env) (σ : St) : runK Tryz.prog call dem N f13c19 f13a19 J e σ = runK Tryz.prog call dem N f13c20 f13a20 (seqC (fun K e σ => runK Tryz.prog call dem N f13c21 f13a21 K e σ) f13a19 J) e σ := runK_seq' (by kernel_rfl) (by kernel_rfl) (by kernel_rfl)
theorem f13r20_f13e6 {R : Type} (call : Bool → CallF R) (dem : Bool) (N : Nat) (y0 : Option (Nat × Nat)) (y1 : Nat) (y2 : Option Nat) (y3 : Option (Nat × Nat)) (y4 : Nat) (y5 : Option Nat) (y6 : Int) (y7 : Int) (J : KF R) (σ : St) :
    runK Tryz.prog call dem N f13c20 f13a20 J (f13e6 y0 y1 y2 y3 y4 y5 y6 y7) σ =
if (0 : Int) ≤ y7 ∧ y7 < (↑y4 : Int) then
  Option.bind y3 fun v0 =>
    Option.bind (St.ld σ (Prod.fst v0) (Prod.snd v0 + Int.toNat y7 * (1 : Nat))) fun v1 =>
      Option.bind (AV.toInt IntKind.i64 v1) fun v2 =>
        J Ex.normal (f13e9 y0 y1 y2 v2 y3 y4 y5 y6 y7 (some (Prod.fst v0, Prod.snd v0 + Int.toNat y7 * (1 : Nat))) v2) σ
else none := hide (by kernel_rfl)
theorem f13z19_f13e9 (y0 : Option (Nat × Nat)) (y1 : Nat) (y2 : Option Nat) (y3 : Int) (y4 : Option (Nat × Nat)) (y5 : Nat) (y6 : Option Nat) (y7 : Int) (y8 : Int) (y9 : Option (Nat × Nat)) (y10 : Int) : Ann.clr f13a19 (f13e9 y0 y1 y2 y3 y4 y5 y6 y7 y8 y9 y10) = f13e10 y0 y1 y2 y3 y4 y5 y6 y7 y8 := hide (by kernel_rfl)
theorem f13r21_f13e10 {R : Type} (call : Bool → CallF R) (dem : Bool) (N : Nat) (y0 : Option (Nat × Nat)) (y1 : Nat) (y2 : Option Nat) (y3 : Int) (y4 : Option (Nat × Nat)) (y5 : Nat) (y6 : Option Nat) (y7 : Int) (y8 : Int) (J : KF R) (σ : St) :
    runK Tryz.prog call dem N f13c21 f13a21 J (f13e10 y0 y1 y2 y3 y4 y5 y6 y7 y8) σ =
call dem (27 : Nat) [AV.int IntKind.i64 y3] σ fun v0 v1 =>
  Option.bind (AV.toStr v0) fun v2 =>
    Option.bind
      (St.elems (St.new v1 (Blk.cells [AV.str v2] true)) (1 : Nat) (Sl.mk (some (St.next v1, (0 : Nat))) (1 : Nat) (some (1 : Nat))) (1 : Nat))
      fun v3 =>
      Option.bind (St.app (St.new v1 (Blk.cells [AV.str v2] true)) (1 : Nat) (16 : Nat) (Sl.mk y0 y1 y2) (1 : Nat) v3) fun v4 =>
        J Ex.normal
          (f13e11 (Sl.o (Prod.fst v4)) (Sl.len (Prod.fst v4)) (Sl.cap (Prod.fst v4)) y3 y4 y5 y6 y7 y8 y0 y1 y2 y3 v2 (some (St.next v1, (0 : Nat)))
            (1 : Nat) (some (1 : Nat)) (Sl.o (Prod.fst v4)) (Sl.len (Prod.fst v4)) (Sl.cap (Prod.fst v4)))
          (Prod.snd v4) := hide (by kernel_rfl)
theorem f13z17_f13e11 (y0 : Option (Nat × Nat)) (y1 : Nat) (y2 : Option Nat) (y3 : Int) (y4 : Option (Nat × Nat)) (y5 : Nat) (y6 : Option Nat) (y7 : Int) (y8 : Int) (y9 : Option (Nat × Nat)) (y10 : Nat) (y11 : Option Nat) (y12 : Int) (y13 : ByteArray) (y14 : Option (Nat × Nat)) (y15 : Nat) (y16 : Option Nat) (y17 : Option (Nat × Nat)) (y18 : Nat) (y19 : Option Nat) : Ann.clr f13a17 (f13e11 y0 y1 y2 y3 y4 y5 y6 y7 y8 y9 y10 y11 y12 y13 y14 y15 y16 y17 y18 y19) = f13e6 y0 y1 y2 y4 y5 y6 y7 y8 := hide (by kernel_rfl)
theorem f13z14_f13e6 (y0 : Option (Nat × Nat)) (y1 : Nat) (y2 : Option Nat) (y3 : Option (Nat × Nat)) (y4 : Nat) (y5 : Option Nat) (y6 : Int) (y7 : Int) : Ann.clr f13a14 (f13e6 y0 y1 y2 y3 y4 y5 y6 y7) = f13e6 y0 y1 y2 y3 y4 y5 y6 y7 := hide (by kernel_rfl)
theorem f13r18_f13e6 {R : Type} (call : Bool → CallF R) (dem : Bool) (N : Nat) (y0 : Option (Nat × Nat)) (y1 : Nat) (y2 : Option Nat) (y3 : Option (Nat × Nat)) (y4 : Nat) (y5 : Option Nat) (y6 : Int) (y7 : Int) (J : KF R) (σ : St) :
    runK Tryz.prog call dem N f13c18 f13a18 J (f13e6 y0 y1 y2 y3 y4 y5 y6 y7) σ =
J Ex.normal (f13e12 y0 y1 y2 y3 y4 y5 y6 (IntKind.wrap IntKind.i64 (y7 + (1 : Int))) (IntKind.wrap IntKind.i64 (y7 + (1 : Int)))) σ := hide (by kernel_rfl)
theorem f13z9_f13e12 (y0 : Option (Nat × Nat)) (y1 : Nat) (y2 : Option Nat) (y3 : Option (Nat × Nat)) (y4 : Nat) (y5 : Option Nat) (y6 : Int) (y7 : Int) (y8 : Int) : Ann.clr f13a9 (f13e12 y0 y1 y2 y3 y4 y5 y6 y7 y8) = f13e6 y0 y1 y2 y3 y4 y5 y6 y7 := hide (by kernel_rfl)
theorem f13z8_f13e8 (y0 : Option (Nat × Nat)) (y1 : Nat) (y2 : Option Nat) : Ann.clr f13a8 (f13e8 y0 y1 y2) = f13e8 y0 y1 y2 := hide (by kernel_rfl)
theorem f13z4_f13e8 (y0 : Option (Nat × Nat)) (y1 : Nat) (y2 : Option Nat) : Ann.clr f13a4 (f13e8 y0 y1 y2) = f13e8 y0 y1 y2 := hide (by kernel_rfl)
theorem f13n6 {R : Type} (call : Bool → CallF R) (dem : Bool) (N : Nat) (J : KF R) (e : Env) (σ : St) : runK Tryz.prog call dem N f13c6 f13a6 J e σ = runK Tryz.prog call dem N f13c22 f13a22 (seqC (fun K e σ => runK Tryz.prog call dem N f13c23 f13a23 K e σ) f13a6 J) e σ := runK_seq' (by kernel_rfl) (by kernel_rfl) (by kernel_rfl)
theorem f13r22_f13e8 {R : Type} (call : Bool → CallF R) (dem : Bool) (N : Nat) (y0 : Option (Nat × Nat)) (y1 : Nat) (y2 : Option Nat) (J : KF R) (σ : St) :
    runK Tryz.prog call dem N f13c22 f13a22 J (f13e8 y0 y1 y2) σ =
call dem (15 : Nat) [AV.slice y0 y1 y2 (1 : Nat)] σ fun v0 v1 => Option.bind (AV.toStr v0) fun v2 => J Ex.normal (f13e13 v2 y0 y1 y2 y0 y1 y2 v2) v1 := hide (by kernel_rfl)
theorem f13z6_f13e13 (y0 : ByteArray) (y1 : Option (Nat × Nat)) (y2 : Nat) (y3 : Option Nat) (y4 : Option (Nat × Nat)) (y5 : Nat) (y6 : Option Nat) (y7 : ByteArray) : Ann.clr f13a6 (f13e13 y0 y1 y2 y3 y4 y5 y6 y7) = f13e14 y0 := hide (by kernel_rfl)
theorem f13y23_f13e14 {R : Type} (call : Bool → CallF R) (dem : Bool) (N : Nat) (y0 : ByteArray) (J : KF R) (σ : St) : runK Tryz.prog call dem N f13c23 f13a23 J (f13e14 y0) σ = J .ret (f13e14 y0) σ := runK_ret' (by kernel_rfl) (by kernel_rfl)
theorem f13b_f13e14_r {R : Type} (y0 : ByteArray) (σ : St) (K : AV → St → Option R) : bodyC Tryz.prog f13rs K (Ex.ret) (f13e14 y0) σ =
K (AV.str y0) σ := hide (by kernel_rfl)
attribute [go_sem] f13_eq f13n0 f13r1_f13e0 f13z0_f13e1 f13n2 f13r3_f13e2 f13z2_f13e3 f13n4 f13n5 f13r7_f13e4 f13z5_f13e5 f13n8 f13L9_eq f13z9_f13e6 f13l9_f13e6 f13n10 f13r11_f13e6 f13z10_f13e7 f13n12 f13x13_f13e7 f13n15 f13z13_f13e7 f13y16_f13e7 f13z12_f13e6 f13n14 f13n17 f13n19 f13r20_f13e6 f13z19_f13e9 f13r21_f13e10 f13z17_f13e11 f13z14_f13e6 f13r18_f13e6 f13z9_f13e12 f13z8_f13e8 f13z4_f13e8 f13n6 f13r22_f13e8 f13z6_f13e13 f13y23_f13e14 f13b_f13e14_r

end Go.Proofs.YtnjhcfcnpapaiaaGreatDoor
