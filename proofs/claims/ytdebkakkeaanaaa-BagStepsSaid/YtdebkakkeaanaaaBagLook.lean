/- What the machine does with each piece of code, in plain text. PRINTED by a program of this workplace; Lean checks it. -/
import Derived.Test.YtdebkakkeaanaaaBagAnn
import Derived.Test.YtdebkakkeaanaaaProg
import Derived.KernelRfl
import Derived.Attr
namespace Go.Proofs.Ytdebkakkeaanaaa
open Go.AM
set_option maxRecDepth 100000
set_option linter.unusedVariables false
noncomputable def f16rs : List ResultVar := [ResultVar.tmp (6 : Nat)]
noncomputable def f16c0 : Code := subCode [] (bodyOf Try.prog 16)
def f16a0 : Ann := subAnn [] ann16
noncomputable def f16c1 : Code := subCode [0] (bodyOf Try.prog 16)
def f16a1 : Ann := subAnn [0] ann16
noncomputable def f16c2 : Code := subCode [1] (bodyOf Try.prog 16)
def f16a2 : Ann := subAnn [1] ann16
noncomputable def f16c3 : Code := subCode [1, 0] (bodyOf Try.prog 16)
def f16a3 : Ann := subAnn [1, 0] ann16
noncomputable def f16c4 : Code := subCode [1, 1] (bodyOf Try.prog 16)
def f16a4 : Ann := subAnn [1, 1] ann16
noncomputable def f16c5 : Code := subCode [1, 1, 0] (bodyOf Try.prog 16)
def f16a5 : Ann := subAnn [1, 1, 0] ann16
noncomputable def f16c6 : Code := subCode [1, 1, 1] (bodyOf Try.prog 16)
def f16a6 : Ann := subAnn [1, 1, 1] ann16
noncomputable def f16c7 : Code := subCode [1, 1, 0, 0] (bodyOf Try.prog 16)
def f16a7 : Ann := subAnn [1, 1, 0, 0] ann16
noncomputable def f16c8 : Code := subCode [1, 1, 0, 1] (bodyOf Try.prog 16)
def f16a8 : Ann := subAnn [1, 1, 0, 1] ann16
noncomputable def f16c9 : Code := subCode [1, 1, 0, 1, 0] (bodyOf Try.prog 16)
def f16a9 : Ann := subAnn [1, 1, 0, 1, 0] ann16
noncomputable def f16c10 : Code := subCode [1, 1, 0, 1, 0, 0] (bodyOf Try.prog 16)
def f16a10 : Ann := subAnn [1, 1, 0, 1, 0, 0] ann16
noncomputable def f16c11 : Code := subCode [1, 1, 0, 1, 0, 0, 0] (bodyOf Try.prog 16)
def f16a11 : Ann := subAnn [1, 1, 0, 1, 0, 0, 0] ann16
noncomputable def f16c12 : Code := subCode [1, 1, 0, 1, 0, 0, 1] (bodyOf Try.prog 16)
def f16a12 : Ann := subAnn [1, 1, 0, 1, 0, 0, 1] ann16
noncomputable def f16c13 : Code := subCode [1, 1, 0, 1, 0, 0, 1, 0] (bodyOf Try.prog 16)
def f16a13 : Ann := subAnn [1, 1, 0, 1, 0, 0, 1, 0] ann16
noncomputable def f16c14 : Code := subCode [1, 1, 0, 1, 0, 0, 1, 1] (bodyOf Try.prog 16)
def f16a14 : Ann := subAnn [1, 1, 0, 1, 0, 0, 1, 1] ann16
noncomputable def f16c15 : Code := subCode [1, 1, 0, 1, 0, 0, 1, 0, 0] (bodyOf Try.prog 16)
def f16a15 : Ann := subAnn [1, 1, 0, 1, 0, 0, 1, 0, 0] ann16
noncomputable def f16c16 : Code := subCode [1, 1, 0, 1, 0, 0, 1, 0, 1] (bodyOf Try.prog 16)
def f16a16 : Ann := subAnn [1, 1, 0, 1, 0, 0, 1, 0, 1] ann16
noncomputable def f16c17 : Code := subCode [1, 1, 0, 1, 0, 0, 1, 1, 0] (bodyOf Try.prog 16)
def f16a17 : Ann := subAnn [1, 1, 0, 1, 0, 0, 1, 1, 0] ann16
noncomputable def f16c18 : Code := subCode [1, 1, 0, 1, 0, 0, 1, 1, 1] (bodyOf Try.prog 16)
def f16a18 : Ann := subAnn [1, 1, 0, 1, 0, 0, 1, 1, 1] ann16
noncomputable def f16c19 : Code := subCode [1, 1, 0, 1, 0, 0, 1, 1, 0, 0] (bodyOf Try.prog 16)
def f16a19 : Ann := subAnn [1, 1, 0, 1, 0, 0, 1, 1, 0, 0] ann16
noncomputable def f16c20 : Code := subCode [1, 1, 0, 1, 0, 0, 1, 1, 0, 0, 0] (bodyOf Try.prog 16)
def f16a20 : Ann := subAnn [1, 1, 0, 1, 0, 0, 1, 1, 0, 0, 0] ann16
noncomputable def f16c21 : Code := subCode [1, 1, 0, 1, 0, 0, 1, 1, 0, 0, 1] (bodyOf Try.prog 16)
def f16a21 : Ann := subAnn [1, 1, 0, 1, 0, 0, 1, 1, 0, 0, 1] ann16
noncomputable def f16c22 : Code := subCode [1, 1, 0, 1, 0, 0, 1, 1, 0, 0, 1, 0] (bodyOf Try.prog 16)
def f16a22 : Ann := subAnn [1, 1, 0, 1, 0, 0, 1, 1, 0, 0, 1, 0] ann16
noncomputable def f16c23 : Code := subCode [1, 1, 0, 1, 0, 0, 1, 1, 0, 0, 1, 1] (bodyOf Try.prog 16)
def f16a23 : Ann := subAnn [1, 1, 0, 1, 0, 0, 1, 1, 0, 0, 1, 1] ann16
noncomputable def f16c24 : Code := subCode [1, 1, 0, 1, 0, 0, 1, 1, 0, 0, 1, 1, 0] (bodyOf Try.prog 16)
def f16a24 : Ann := subAnn [1, 1, 0, 1, 0, 0, 1, 1, 0, 0, 1, 1, 0] ann16
noncomputable def f16c25 : Code := subCode [1, 1, 0, 1, 0, 0, 1, 1, 0, 0, 1, 1, 1] (bodyOf Try.prog 16)
def f16a25 : Ann := subAnn [1, 1, 0, 1, 0, 0, 1, 1, 0, 0, 1, 1, 1] ann16
noncomputable def f16c26 : Code := subCode [1, 1, 0, 1, 0, 0, 1, 1, 0, 0, 1, 1, 1, 0] (bodyOf Try.prog 16)
def f16a26 : Ann := subAnn [1, 1, 0, 1, 0, 0, 1, 1, 0, 0, 1, 1, 1, 0] ann16
noncomputable def f16c27 : Code := subCode [1, 1, 0, 1, 0, 0, 1, 1, 0, 0, 1, 1, 1, 1] (bodyOf Try.prog 16)
def f16a27 : Ann := subAnn [1, 1, 0, 1, 0, 0, 1, 1, 0, 0, 1, 1, 1, 1] ann16
noncomputable def f16c28 : Code := subCode [1, 1, 1, 0] (bodyOf Try.prog 16)
def f16a28 : Ann := subAnn [1, 1, 1, 0] ann16
noncomputable def f16c29 : Code := subCode [1, 1, 1, 1] (bodyOf Try.prog 16)
def f16a29 : Ann := subAnn [1, 1, 1, 1] ann16
noncomputable def f16L9 {R : Type} (call : CallF R) (N : Nat) : KF R → Env → St → Option R := fun K e σ => runK Try.prog call N f16c10 f16a10 K e σ
def f16e0 (y0 : Option (Nat × Nat)) (y1 : Int) (y2 : Int) : Env := AV.ptr y0 :: AV.int IntKind.i64 y1 :: AV.int IntKind.i64 y2 :: Env.sp 35 []
def f16e1 (y0 : Option (Nat × Nat)) (y1 : Int) (y2 : Int) (y3 : Option (Nat × Nat)) (y4 : Nat) (y5 : Option Nat) : Env := AV.ptr y0 :: AV.int IntKind.i64 y1 :: AV.int IntKind.i64 y2 :: Env.sp 3 (AV.slice y3 y4 y5 (1 : Nat) :: Env.sp 31 [])
def f16e2 (y0 : Option (Nat × Nat)) (y1 : Int) (y2 : Int) (y3 : Option (Nat × Nat)) (y4 : Nat) (y5 : Option Nat) : Env := AV.ptr y0 :: AV.int IntKind.i64 y1 :: AV.int IntKind.i64 y2 :: Env.sp 4 (AV.slice y3 y4 y5 (1 : Nat) :: Env.sp 30 [])
def f16e3 (y0 : Option (Nat × Nat)) (y1 : Int) (y2 : Int) (y3 : Option (Nat × Nat)) (y4 : Nat) (y5 : Option Nat) (y6 : Option (Nat × Nat)) (y7 : Int) (y8 : Int) : Env := AV.ptr y0 :: AV.int IntKind.i64 y1 :: AV.int IntKind.i64 y2 :: Env.sp 4 (AV.slice y3 y4 y5 (1 : Nat) :: Env.sp 2 (AV.ptr y6 :: AV.int IntKind.i64 y7 :: AV.int IntKind.i64 y8 :: Env.sp 25 []))
def f16e4 (y0 : Option (Nat × Nat)) (y1 : Int) (y2 : Int) (y3 : Option (Nat × Nat)) (y4 : Nat) (y5 : Option Nat) (y6 : Int) (y7 : Int) : Env := AV.ptr y0 :: AV.int IntKind.i64 y1 :: AV.int IntKind.i64 y2 :: Env.sp 4 (AV.slice y3 y4 y5 (1 : Nat) :: Env.sp 3 (AV.int IntKind.i64 y6 :: AV.int IntKind.i64 y7 :: Env.sp 25 []))
def f16e5 (y0 : Option (Nat × Nat)) (y1 : Int) (y2 : Int) (y3 : Option (Nat × Nat)) (y4 : Nat) (y5 : Option Nat) (y6 : Int) (y7 : Int) (y8 : Bool) : Env := AV.ptr y0 :: AV.int IntKind.i64 y1 :: AV.int IntKind.i64 y2 :: Env.sp 4 (AV.slice y3 y4 y5 (1 : Nat) :: Env.sp 3 (AV.int IntKind.i64 y6 :: AV.int IntKind.i64 y7 :: AV.bool y8 :: Env.sp 24 []))
def f16e6 (y0 : Option (Nat × Nat)) (y1 : Nat) (y2 : Option Nat) : Env := Env.sp 7 (AV.slice y0 y1 y2 (1 : Nat) :: Env.sp 30 [])
def f16e7 (y0 : Option (Nat × Nat)) (y1 : Int) (y2 : Int) (y3 : Option (Nat × Nat)) (y4 : Nat) (y5 : Option Nat) (y6 : Int) (y7 : Int) (y8 : Int) (y9 : Int) : Env := AV.ptr y0 :: AV.int IntKind.i64 y1 :: AV.int IntKind.i64 y2 :: Env.sp 4 (AV.slice y3 y4 y5 (1 : Nat) :: AV.int IntKind.i64 y6 :: Env.sp 2 (AV.int IntKind.i64 y7 :: AV.int IntKind.i64 y8 :: Env.sp 1 (AV.int IntKind.i64 y9 :: Env.sp 23 [])))
def f16e8 (y0 : Option (Nat × Nat)) (y1 : Int) (y2 : Int) (y3 : Option (Nat × Nat)) (y4 : Nat) (y5 : Option Nat) (y6 : Int) (y7 : Int) (y8 : Int) : Env := AV.ptr y0 :: AV.int IntKind.i64 y1 :: AV.int IntKind.i64 y2 :: Env.sp 4 (AV.slice y3 y4 y5 (1 : Nat) :: AV.int IntKind.i64 y6 :: Env.sp 2 (AV.int IntKind.i64 y7 :: AV.int IntKind.i64 y8 :: Env.sp 25 []))
def f16e9 (y0 : Option (Nat × Nat)) (y1 : Int) (y2 : Int) (y3 : Option (Nat × Nat)) (y4 : Nat) (y5 : Option Nat) (y6 : Int) (y7 : Nat) (y8 : Int) (y9 : Int) (y10 : Option (Nat × Nat)) (y11 : Option (Nat × Nat)) (y12 : Option (Nat × Nat)) (y13 : Option (Nat × Nat)) (y14 : Nat) (y15 : Option Nat) (y16 : Int) (y17 : Option (Nat × Nat)) (y18 : Int) (y19 : Int) (y20 : Int) (y21 : ByteArray) : Env := AV.ptr y0 :: AV.int IntKind.i64 y1 :: AV.int IntKind.i64 y2 :: Env.sp 4 (AV.slice y3 y4 y5 (1 : Nat) :: AV.int IntKind.i64 y6 :: AV.ptr (some (y7, (0 : Nat))) :: Env.sp 1 (AV.int IntKind.i64 y8 :: AV.int IntKind.i64 y9 :: Env.sp 2 (AV.ptr y10 :: AV.ptr y11 :: AV.ptr y12 :: AV.slice y13 y14 y15 (4 : Nat) :: AV.int IntKind.i64 y16 :: AV.ptr y17 :: AV.agg [AV.int IntKind.i64 y18, AV.int IntKind.i64 y19, AV.int IntKind.i64 y20, AV.str y21] :: Env.sp 16 [])))
def f16e10 (y0 : Option (Nat × Nat)) (y1 : Int) (y2 : Int) (y3 : Option (Nat × Nat)) (y4 : Nat) (y5 : Option Nat) (y6 : Int) (y7 : Nat) (y8 : Int) (y9 : Int) : Env := AV.ptr y0 :: AV.int IntKind.i64 y1 :: AV.int IntKind.i64 y2 :: Env.sp 4 (AV.slice y3 y4 y5 (1 : Nat) :: AV.int IntKind.i64 y6 :: AV.ptr (some (y7, (0 : Nat))) :: Env.sp 1 (AV.int IntKind.i64 y8 :: AV.int IntKind.i64 y9 :: Env.sp 25 []))
def f16e11 (y0 : Option (Nat × Nat)) (y1 : Int) (y2 : Int) (y3 : Option (Nat × Nat)) (y4 : Nat) (y5 : Option Nat) (y6 : Int) (y7 : Nat) (y8 : Int) (y9 : Int) (y10 : Nat) (y11 : Int) (y12 : Int) (y13 : Bool) (y14 : Bool) (y15 : Nat) (y16 : Int) (y17 : Int) (y18 : Bool) (y19 : Bool) : Env := AV.ptr y0 :: AV.int IntKind.i64 y1 :: AV.int IntKind.i64 y2 :: Env.sp 4 (AV.slice y3 y4 y5 (1 : Nat) :: AV.int IntKind.i64 y6 :: AV.ptr (some (y7, (0 : Nat))) :: Env.sp 1 (AV.int IntKind.i64 y8 :: AV.int IntKind.i64 y9 :: Env.sp 9 (AV.ptr (some (y10, (0 : Nat))) :: AV.int IntKind.i64 y11 :: AV.int IntKind.i64 y12 :: AV.bool y13 :: AV.bool y14 :: AV.ptr (some (y15, (1 : Nat))) :: AV.int IntKind.i64 y16 :: AV.int IntKind.i64 y17 :: AV.bool y18 :: AV.bool y19 :: Env.sp 6 [])))
def f16e12 (y0 : Option (Nat × Nat)) (y1 : Int) (y2 : Int) (y3 : Option (Nat × Nat)) (y4 : Nat) (y5 : Option Nat) (y6 : Int) (y7 : Nat) (y8 : Int) (y9 : Int) (y10 : Nat) (y11 : Int) (y12 : Int) (y13 : Bool) (y14 : Bool) (y15 : Bool) : Env := AV.ptr y0 :: AV.int IntKind.i64 y1 :: AV.int IntKind.i64 y2 :: Env.sp 4 (AV.slice y3 y4 y5 (1 : Nat) :: AV.int IntKind.i64 y6 :: AV.ptr (some (y7, (0 : Nat))) :: Env.sp 1 (AV.int IntKind.i64 y8 :: AV.int IntKind.i64 y9 :: Env.sp 9 (AV.ptr (some (y10, (0 : Nat))) :: AV.int IntKind.i64 y11 :: AV.int IntKind.i64 y12 :: AV.bool y13 :: AV.bool y14 :: AV.tuple [] :: AV.tuple [] :: AV.tuple [] :: AV.tuple [] :: AV.bool y15 :: Env.sp 6 [])))
def f16e13 (y0 : Option (Nat × Nat)) (y1 : Int) (y2 : Int) (y3 : Option (Nat × Nat)) (y4 : Nat) (y5 : Option Nat) (y6 : Int) (y7 : Int) (y8 : Int) (y9 : Bool) : Env := AV.ptr y0 :: AV.int IntKind.i64 y1 :: AV.int IntKind.i64 y2 :: Env.sp 4 (AV.slice y3 y4 y5 (1 : Nat) :: AV.int IntKind.i64 y6 :: Env.sp 2 (AV.int IntKind.i64 y7 :: AV.int IntKind.i64 y8 :: Env.sp 18 (AV.bool y9 :: Env.sp 6 [])))
def f16e14 (y0 : Option (Nat × Nat)) (y1 : Int) (y2 : Int) (y3 : Option (Nat × Nat)) (y4 : Nat) (y5 : Option Nat) (y6 : Int) (y7 : Int) (y8 : Int) (y9 : Bool) (y10 : Option (Nat × Nat)) (y11 : Nat) (y12 : Option Nat) (y13 : Int) (y14 : Option (Nat × Nat)) (y15 : Nat) (y16 : Option Nat) (y17 : Option (Nat × Nat)) (y18 : Nat) (y19 : Option Nat) : Env := AV.ptr y0 :: AV.int IntKind.i64 y1 :: AV.int IntKind.i64 y2 :: Env.sp 4 (AV.slice y3 y4 y5 (1 : Nat) :: AV.int IntKind.i64 y6 :: Env.sp 2 (AV.int IntKind.i64 y7 :: AV.int IntKind.i64 y8 :: Env.sp 18 (AV.bool y9 :: AV.slice y10 y11 y12 (1 : Nat) :: AV.int IntKind.i64 y13 :: AV.slice y14 y15 y16 (1 : Nat) :: AV.slice y17 y18 y19 (1 : Nat) :: Env.sp 2 [])))
def f16e15 (y0 : Option (Nat × Nat)) (y1 : Int) (y2 : Int) (y3 : Option (Nat × Nat)) (y4 : Nat) (y5 : Option Nat) (y6 : Int) (y7 : Int) (y8 : Int) : Env := AV.ptr y0 :: AV.int IntKind.i64 y1 :: AV.int IntKind.i64 y2 :: Env.sp 4 (AV.slice y3 y4 y5 (1 : Nat) :: Env.sp 3 (AV.int IntKind.i64 y6 :: AV.int IntKind.i64 y7 :: Env.sp 23 (AV.int IntKind.i64 y8 :: Env.sp 1 [])))
def f16e16 (y0 : Option (Nat × Nat)) (y1 : Nat) (y2 : Option Nat) (y3 : Option (Nat × Nat)) (y4 : Nat) (y5 : Option Nat) (y6 : Option (Nat × Nat)) (y7 : Nat) (y8 : Option Nat) : Env := Env.sp 6 (AV.slice y0 y1 y2 (1 : Nat) :: AV.slice y3 y4 y5 (1 : Nat) :: Env.sp 29 (AV.slice y6 y7 y8 (1 : Nat) :: []))
def f16e17 (y0 : Option (Nat × Nat)) (y1 : Nat) (y2 : Option Nat) : Env := Env.sp 6 (AV.slice y0 y1 y2 (1 : Nat) :: Env.sp 31 [])

/- function 16 -/
theorem f16_eq {R : Type} (call : CallF R) (N : Nat) (y0 : Option (Nat × Nat)) (y1 : Int) (y2 : Int) (σ : St) (K : AV → St → Option R) :
    bodyK Try.prog call N ann 16 [AV.ptr y0, AV.int IntKind.i64 y1, AV.int IntKind.i64 y2] σ K = runK Try.prog call N f16c0 f16a0 (bodyC Try.prog f16rs K) (f16e0 y0 y1 y2) σ := bodyK_of (fn := ((Try.prog.funcs[16]?).get rfl)) (by kernel_rfl) (by kernel_rfl) (by kernel_rfl) (by kernel_rfl) (by kernel_rfl) (by kernel_rfl)
theorem f16n0 {R : Type} (call : CallF R) (N : Nat) (J : KF R) (e : Env) (σ : St) : runK Try.prog call N f16c0 f16a0 J e σ = runK Try.prog call N f16c1 f16a1 (seqC (fun K e σ => runK Try.prog call N f16c2 f16a2 K e σ) f16a0 J) e σ := runK_seq' (by kernel_rfl) (by kernel_rfl) (by kernel_rfl)
theorem f16r1_f16e0 {R : Type} (call : CallF R) (N : Nat) (y0 : Option (Nat × Nat)) (y1 : Int) (y2 : Int) (J : KF R) (σ : St) :
    runK Try.prog call N f16c1 f16a1 J (f16e0 y0 y1 y2) σ =
J Ex.normal (f16e1 y0 y1 y2 none (0 : Nat) (some (0 : Nat))) σ := hide (by kernel_rfl)
theorem f16z0_f16e1 (y0 : Option (Nat × Nat)) (y1 : Int) (y2 : Int) (y3 : Option (Nat × Nat)) (y4 : Nat) (y5 : Option Nat) : Ann.clr f16a0 (f16e1 y0 y1 y2 y3 y4 y5) = f16e0 y0 y1 y2 := hide (by kernel_rfl)
theorem f16n2 {R : Type} (call : CallF R) (N : Nat) (J : KF R) (e : Env) (σ : St) : runK Try.prog call N f16c2 f16a2 J e σ = runK Try.prog call N f16c3 f16a3 (seqC (fun K e σ => runK Try.prog call N f16c4 f16a4 K e σ) f16a2 J) e σ := runK_seq' (by kernel_rfl) (by kernel_rfl) (by kernel_rfl)
theorem f16r3_f16e0 {R : Type} (call : CallF R) (N : Nat) (y0 : Option (Nat × Nat)) (y1 : Int) (y2 : Int) (J : KF R) (σ : St) :
    runK Try.prog call N f16c3 f16a3 J (f16e0 y0 y1 y2) σ =
J Ex.normal (f16e2 y0 y1 y2 none (0 : Nat) (some (0 : Nat))) σ := hide (by kernel_rfl)
theorem f16z2_f16e2 (y0 : Option (Nat × Nat)) (y1 : Int) (y2 : Int) (y3 : Option (Nat × Nat)) (y4 : Nat) (y5 : Option Nat) : Ann.clr f16a2 (f16e2 y0 y1 y2 y3 y4 y5) = f16e2 y0 y1 y2 y3 y4 y5 := hide (by kernel_rfl)
theorem f16n4 {R : Type} (call : CallF R) (N : Nat) (J : KF R) (e : Env) (σ : St) : runK Try.prog call N f16c4 f16a4 J e σ = runK Try.prog call N f16c5 f16a5 (seqC (fun K e σ => runK Try.prog call N f16c6 f16a6 K e σ) f16a4 J) e σ := runK_seq' (by kernel_rfl) (by kernel_rfl) (by kernel_rfl)
theorem f16n5 {R : Type} (call : CallF R) (N : Nat) (J : KF R) (e : Env) (σ : St) : runK Try.prog call N f16c5 f16a5 J e σ = runK Try.prog call N f16c7 f16a7 (seqC (fun K e σ => runK Try.prog call N f16c8 f16a8 K e σ) f16a5 J) e σ := runK_seq' (by kernel_rfl) (by kernel_rfl) (by kernel_rfl)
theorem f16r7_f16e2 {R : Type} (call : CallF R) (N : Nat) (y0 : Option (Nat × Nat)) (y1 : Int) (y2 : Int) (y3 : Option (Nat × Nat)) (y4 : Nat) (y5 : Option Nat) (J : KF R) (σ : St) :
    runK Try.prog call N f16c7 f16a7 J (f16e2 y0 y1 y2 y3 y4 y5) σ =
call (13 : Nat) [AV.ptr y0] σ fun v0 v1 => Option.bind (AV.toInt IntKind.i64 v0) fun v2 => J Ex.normal (f16e3 y0 y1 y2 y3 y4 y5 y0 v2 (0 : Int)) v1 := hide (by kernel_rfl)
theorem f16z5_f16e3 (y0 : Option (Nat × Nat)) (y1 : Int) (y2 : Int) (y3 : Option (Nat × Nat)) (y4 : Nat) (y5 : Option Nat) (y6 : Option (Nat × Nat)) (y7 : Int) (y8 : Int) : Ann.clr f16a5 (f16e3 y0 y1 y2 y3 y4 y5 y6 y7 y8) = f16e4 y0 y1 y2 y3 y4 y5 y7 y8 := hide (by kernel_rfl)
theorem f16n8 {R : Type} (call : CallF R) (N : Nat) (J : KF R) (e : Env) (σ : St) : runK Try.prog call N f16c8 f16a8 J e σ = runK Try.prog call N f16c9 f16a9 (blockC 0 f16a8 J) e σ := runK_block' (by kernel_rfl) (by kernel_rfl)
theorem f16L9_eq {R : Type} (call : CallF R) (N : Nat) (J : KF R) (e : Env) (σ : St) : f16L9 call N J e σ = runK Try.prog call N f16c10 f16a10 J e σ := hide rfl
theorem f16z9_f16e4 (y0 : Option (Nat × Nat)) (y1 : Int) (y2 : Int) (y3 : Option (Nat × Nat)) (y4 : Nat) (y5 : Option Nat) (y6 : Int) (y7 : Int) : Ann.clr f16a9 (f16e4 y0 y1 y2 y3 y4 y5 y6 y7) = f16e4 y0 y1 y2 y3 y4 y5 y6 y7 := hide (by kernel_rfl)
theorem f16l9_f16e4 {R : Type} (call : CallF R) (N : Nat) (y0 : Option (Nat × Nat)) (y1 : Int) (y2 : Int) (y3 : Option (Nat × Nat)) (y4 : Nat) (y5 : Option Nat) (y6 : Int) (y7 : Int) (J : KF R) (σ : St) : runK Try.prog call N f16c9 f16a9 J (f16e4 y0 y1 y2 y3 y4 y5 y6 y7) σ = loopK (f16L9 call N) f16a9 N J (f16e4 y0 y1 y2 y3 y4 y5 y6 y7) σ := runK_loop' (by kernel_rfl) (by kernel_rfl) (by kernel_rfl)
theorem f16n10 {R : Type} (call : CallF R) (N : Nat) (J : KF R) (e : Env) (σ : St) : runK Try.prog call N f16c10 f16a10 J e σ = runK Try.prog call N f16c11 f16a11 (seqC (fun K e σ => runK Try.prog call N f16c12 f16a12 K e σ) f16a10 J) e σ := runK_seq' (by kernel_rfl) (by kernel_rfl) (by kernel_rfl)
theorem f16r11_f16e4 {R : Type} (call : CallF R) (N : Nat) (y0 : Option (Nat × Nat)) (y1 : Int) (y2 : Int) (y3 : Option (Nat × Nat)) (y4 : Nat) (y5 : Option Nat) (y6 : Int) (y7 : Int) (J : KF R) (σ : St) :
    runK Try.prog call N f16c11 f16a11 J (f16e4 y0 y1 y2 y3 y4 y5 y6 y7) σ =
J Ex.normal (f16e5 y0 y1 y2 y3 y4 y5 y6 y7 (decide (y7 < y6))) σ := hide (by kernel_rfl)
theorem f16z10_f16e5 (y0 : Option (Nat × Nat)) (y1 : Int) (y2 : Int) (y3 : Option (Nat × Nat)) (y4 : Nat) (y5 : Option Nat) (y6 : Int) (y7 : Int) (y8 : Bool) : Ann.clr f16a10 (f16e5 y0 y1 y2 y3 y4 y5 y6 y7 y8) = f16e5 y0 y1 y2 y3 y4 y5 y6 y7 y8 := hide (by kernel_rfl)
theorem f16n12 {R : Type} (call : CallF R) (N : Nat) (J : KF R) (e : Env) (σ : St) : runK Try.prog call N f16c12 f16a12 J e σ = runK Try.prog call N f16c13 f16a13 (seqC (fun K e σ => runK Try.prog call N f16c14 f16a14 K e σ) f16a12 J) e σ := runK_seq' (by kernel_rfl) (by kernel_rfl) (by kernel_rfl)
theorem f16x13_f16e5 {R : Type} (call : CallF R) (N : Nat) (y0 : Option (Nat × Nat)) (y1 : Int) (y2 : Int) (y3 : Option (Nat × Nat)) (y4 : Nat) (y5 : Option Nat) (y6 : Int) (y7 : Int) (y8 : Bool) (J : KF R) (σ : St) : runK Try.prog call N f16c13 f16a13 J (f16e5 y0 y1 y2 y3 y4 y5 y6 y7 y8) σ = if y8 = true then runK Try.prog call N f16c15 f16a15 (condC f16a13 J) (f16e5 y0 y1 y2 y3 y4 y5 y6 y7 y8) σ else runK Try.prog call N f16c16 f16a16 (condC f16a13 J) (f16e5 y0 y1 y2 y3 y4 y5 y6 y7 y8) σ := runK_cond' (o := Operand.tmp (13 : Nat)) (by kernel_rfl) (by kernel_rfl) (by kernel_rfl) (by kernel_rfl)
theorem f16n15 {R : Type} (call : CallF R) (N : Nat) (J : KF R) (e : Env) (σ : St) : runK Try.prog call N f16c15 f16a15 J e σ = J .normal e σ := runK_skip' (by kernel_rfl)
theorem f16z13_f16e5 (y0 : Option (Nat × Nat)) (y1 : Int) (y2 : Int) (y3 : Option (Nat × Nat)) (y4 : Nat) (y5 : Option Nat) (y6 : Int) (y7 : Int) (y8 : Bool) : Ann.clr f16a13 (f16e5 y0 y1 y2 y3 y4 y5 y6 y7 y8) = f16e4 y0 y1 y2 y3 y4 y5 y6 y7 := hide (by kernel_rfl)
theorem f16y16_f16e5 {R : Type} (call : CallF R) (N : Nat) (y0 : Option (Nat × Nat)) (y1 : Int) (y2 : Int) (y3 : Option (Nat × Nat)) (y4 : Nat) (y5 : Option Nat) (y6 : Int) (y7 : Int) (y8 : Bool) (J : KF R) (σ : St) : runK Try.prog call N f16c16 f16a16 J (f16e5 y0 y1 y2 y3 y4 y5 y6 y7 y8) σ = J (.exit 0) (f16e6 y3 y4 y5) σ := runK_exit' (by kernel_rfl) (by kernel_rfl)
theorem f16z12_f16e4 (y0 : Option (Nat × Nat)) (y1 : Int) (y2 : Int) (y3 : Option (Nat × Nat)) (y4 : Nat) (y5 : Option Nat) (y6 : Int) (y7 : Int) : Ann.clr f16a12 (f16e4 y0 y1 y2 y3 y4 y5 y6 y7) = f16e4 y0 y1 y2 y3 y4 y5 y6 y7 := hide (by kernel_rfl)
theorem f16n14 {R : Type} (call : CallF R) (N : Nat) (J : KF R) (e : Env) (σ : St) : runK Try.prog call N f16c14 f16a14 J e σ = runK Try.prog call N f16c17 f16a17 (seqC (fun K e σ => runK Try.prog call N f16c18 f16a18 K e σ) f16a14 J) e σ := runK_seq' (by kernel_rfl) (by kernel_rfl) (by kernel_rfl)
theorem f16n17 {R : Type} (call : CallF R) (N : Nat) (J : KF R) (e : Env) (σ : St) : runK Try.prog call N f16c17 f16a17 J e σ = runK Try.prog call N f16c19 f16a19 (blockC 1 f16a17 J) e σ := runK_block' (by kernel_rfl) (by kernel_rfl)
theorem f16n19 {R : Type} (call : CallF R) (N : Nat) (J : KF R) (e : Env) (σ : St) : runK Try.prog call N f16c19 f16a19 J e σ = runK Try.prog call N f16c20 f16a20 (seqC (fun K e σ => runK Try.prog call N f16c21 f16a21 K e σ) f16a19 J) e σ := runK_seq' (by kernel_rfl) (by kernel_rfl) (by kernel_rfl)
theorem f16r20_f16e4 {R : Type} (call : CallF R) (N : Nat) (y0 : Option (Nat × Nat)) (y1 : Int) (y2 : Int) (y3 : Option (Nat × Nat)) (y4 : Nat) (y5 : Option Nat) (y6 : Int) (y7 : Int) (J : KF R) (σ : St) :
    runK Try.prog call N f16c20 f16a20 J (f16e4 y0 y1 y2 y3 y4 y5 y6 y7) σ =
J Ex.normal (f16e7 y0 y1 y2 y3 y4 y5 y7 y6 y7 y7) σ := hide (by kernel_rfl)
theorem f16z19_f16e7 (y0 : Option (Nat × Nat)) (y1 : Int) (y2 : Int) (y3 : Option (Nat × Nat)) (y4 : Nat) (y5 : Option Nat) (y6 : Int) (y7 : Int) (y8 : Int) (y9 : Int) : Ann.clr f16a19 (f16e7 y0 y1 y2 y3 y4 y5 y6 y7 y8 y9) = f16e8 y0 y1 y2 y3 y4 y5 y6 y7 y8 := hide (by kernel_rfl)
theorem f16n21 {R : Type} (call : CallF R) (N : Nat) (J : KF R) (e : Env) (σ : St) : runK Try.prog call N f16c21 f16a21 J e σ = runK Try.prog call N f16c22 f16a22 (seqC (fun K e σ => runK Try.prog call N f16c23 f16a23 K e σ) f16a21 J) e σ := runK_seq' (by kernel_rfl) (by kernel_rfl) (by kernel_rfl)
theorem f16r22_f16e8 {R : Type} (call : CallF R) (N : Nat) (y0 : Option (Nat × Nat)) (y1 : Int) (y2 : Int) (y3 : Option (Nat × Nat)) (y4 : Nat) (y5 : Option Nat) (y6 : Int) (y7 : Int) (y8 : Int) (J : KF R) (σ : St) :
    runK Try.prog call N f16c22 f16a22 J (f16e8 y0 y1 y2 y3 y4 y5 y6 y7 y8) σ =
Option.bind y0 fun v0 =>
  Option.bind (St.ld σ (Prod.fst v0) (Prod.snd v0)) fun v1 =>
    Option.bind (AV.toSl (4 : Nat) v1) fun v2 =>
      if (0 : Int) ≤ y6 ∧ y6 < (↑(Sl.len v2) : Int) then
        Option.bind (Sl.o v2) fun v3 =>
          Option.bind (St.ld σ (Prod.fst v3) (Prod.snd v3 + Int.toNat y6 * (4 : Nat))) fun v4 =>
            Option.bind (AV.toInt IntKind.i64 v4) fun v5 =>
              Option.bind (St.ld σ (Prod.fst v3) (Prod.snd v3 + Int.toNat y6 * (4 : Nat) + (1 : Nat))) fun v6 =>
                Option.bind (AV.toInt IntKind.i64 v6) fun v7 =>
                  Option.bind (St.ld σ (Prod.fst v3) (Prod.snd v3 + Int.toNat y6 * (4 : Nat) + (2 : Nat))) fun v8 =>
                    Option.bind (AV.toInt IntKind.i64 v8) fun v9 =>
                      Option.bind (St.ld σ (Prod.fst v3) (Prod.snd v3 + Int.toNat y6 * (4 : Nat) + (3 : Nat))) fun v10 =>
                        Option.bind (AV.toStr v10) fun v11 =>
                          Option.bind
                            (St.st
                              (St.new σ
                                (Blk.cells
                                  [AV.int IntKind.i64 (0 : Int), AV.int IntKind.i64 (0 : Int), AV.int IntKind.i64 (0 : Int),
                                    AV.str (ByteArray.mk #[])]
                                  true))
                              (St.next σ) (0 : Nat) [AV.int IntKind.i64 v5, AV.int IntKind.i64 v7, AV.int IntKind.i64 v9, AV.str v11])
                            fun v12 =>
                            J Ex.normal
                              (f16e9 y0 y1 y2 y3 y4 y5 y6 (St.next σ) y7 y8 y0 (some v0) (some (Prod.fst v0, Prod.snd v0)) (Sl.o v2) (Sl.len v2)
                                (Sl.cap v2) y6 (some (Prod.fst v3, Prod.snd v3 + Int.toNat y6 * (4 : Nat))) v5 v7 v9 v11)
                              v12
      else none := hide (by kernel_rfl)
theorem f16z21_f16e9 (y0 : Option (Nat × Nat)) (y1 : Int) (y2 : Int) (y3 : Option (Nat × Nat)) (y4 : Nat) (y5 : Option Nat) (y6 : Int) (y7 : Nat) (y8 : Int) (y9 : Int) (y10 : Option (Nat × Nat)) (y11 : Option (Nat × Nat)) (y12 : Option (Nat × Nat)) (y13 : Option (Nat × Nat)) (y14 : Nat) (y15 : Option Nat) (y16 : Int) (y17 : Option (Nat × Nat)) (y18 : Int) (y19 : Int) (y20 : Int) (y21 : ByteArray) : Ann.clr f16a21 (f16e9 y0 y1 y2 y3 y4 y5 y6 y7 y8 y9 y10 y11 y12 y13 y14 y15 y16 y17 y18 y19 y20 y21) = f16e10 y0 y1 y2 y3 y4 y5 y6 y7 y8 y9 := hide (by kernel_rfl)
theorem f16n23 {R : Type} (call : CallF R) (N : Nat) (J : KF R) (e : Env) (σ : St) : runK Try.prog call N f16c23 f16a23 J e σ = runK Try.prog call N f16c24 f16a24 (seqC (fun K e σ => runK Try.prog call N f16c25 f16a25 K e σ) f16a23 J) e σ := runK_seq' (by kernel_rfl) (by kernel_rfl) (by kernel_rfl)
theorem f16r24_f16e10 {R : Type} (call : CallF R) (N : Nat) (y0 : Option (Nat × Nat)) (y1 : Int) (y2 : Int) (y3 : Option (Nat × Nat)) (y4 : Nat) (y5 : Option Nat) (y6 : Int) (y7 : Nat) (y8 : Int) (y9 : Int) (J : KF R) (σ : St) :
    runK Try.prog call N f16c24 f16a24 J (f16e10 y0 y1 y2 y3 y4 y5 y6 y7 y8 y9) σ =
Option.bind (St.ld σ y7 (0 : Nat)) fun v0 =>
  Option.bind (AV.toInt IntKind.i64 v0) fun v1 =>
    if (v1 == y1) = true then
      Option.bind (St.ld σ y7 (1 : Nat)) fun v2 =>
        Option.bind (AV.toInt IntKind.i64 v2) fun v3 =>
          J Ex.normal (f16e11 y0 y1 y2 y3 y4 y5 y6 y7 y8 y9 y7 v1 y1 (v1 == y1) true y7 v3 y2 (v3 == y2) (v3 == y2)) σ
    else J Ex.normal (f16e12 y0 y1 y2 y3 y4 y5 y6 y7 y8 y9 y7 v1 y1 (v1 == y1) false false) σ := hide (by kernel_rfl)
theorem f16z23_f16e11 (y0 : Option (Nat × Nat)) (y1 : Int) (y2 : Int) (y3 : Option (Nat × Nat)) (y4 : Nat) (y5 : Option Nat) (y6 : Int) (y7 : Nat) (y8 : Int) (y9 : Int) (y10 : Nat) (y11 : Int) (y12 : Int) (y13 : Bool) (y14 : Bool) (y15 : Nat) (y16 : Int) (y17 : Int) (y18 : Bool) (y19 : Bool) : Ann.clr f16a23 (f16e11 y0 y1 y2 y3 y4 y5 y6 y7 y8 y9 y10 y11 y12 y13 y14 y15 y16 y17 y18 y19) = f16e13 y0 y1 y2 y3 y4 y5 y6 y8 y9 y19 := hide (by kernel_rfl)
theorem f16x25_f16e13 {R : Type} (call : CallF R) (N : Nat) (y0 : Option (Nat × Nat)) (y1 : Int) (y2 : Int) (y3 : Option (Nat × Nat)) (y4 : Nat) (y5 : Option Nat) (y6 : Int) (y7 : Int) (y8 : Int) (y9 : Bool) (J : KF R) (σ : St) : runK Try.prog call N f16c25 f16a25 J (f16e13 y0 y1 y2 y3 y4 y5 y6 y7 y8 y9) σ = if y9 = true then runK Try.prog call N f16c26 f16a26 (condC f16a25 J) (f16e13 y0 y1 y2 y3 y4 y5 y6 y7 y8 y9) σ else runK Try.prog call N f16c27 f16a27 (condC f16a25 J) (f16e13 y0 y1 y2 y3 y4 y5 y6 y7 y8 y9) σ := runK_cond' (o := Operand.tmp (31 : Nat)) (by kernel_rfl) (by kernel_rfl) (by kernel_rfl) (by kernel_rfl)
theorem f16r26_f16e13 {R : Type} (call : CallF R) (N : Nat) (y0 : Option (Nat × Nat)) (y1 : Int) (y2 : Int) (y3 : Option (Nat × Nat)) (y4 : Nat) (y5 : Option Nat) (y6 : Int) (y7 : Int) (y8 : Int) (y9 : Bool) (J : KF R) (σ : St) :
    runK Try.prog call N f16c26 f16a26 J (f16e13 y0 y1 y2 y3 y4 y5 y6 y7 y8 y9) σ =
Option.bind
  (St.elems (St.new σ (Blk.cells [AV.int IntKind.i64 y6] true)) (1 : Nat) (Sl.mk (some (St.next σ, (0 : Nat))) (1 : Nat) (some (1 : Nat))) (1 : Nat))
  fun v0 =>
  Option.bind (St.app (St.new σ (Blk.cells [AV.int IntKind.i64 y6] true)) (1 : Nat) (8 : Nat) (Sl.mk y3 y4 y5) (1 : Nat) v0) fun v1 =>
    J Ex.normal
      (f16e14 y0 y1 y2 (Sl.o (Prod.fst v1)) (Sl.len (Prod.fst v1)) (Sl.cap (Prod.fst v1)) y6 y7 y8 y9 y3 y4 y5 y6 (some (St.next σ, (0 : Nat)))
        (1 : Nat) (some (1 : Nat)) (Sl.o (Prod.fst v1)) (Sl.len (Prod.fst v1)) (Sl.cap (Prod.fst v1)))
      (Prod.snd v1) := hide (by kernel_rfl)
theorem f16z25_f16e14 (y0 : Option (Nat × Nat)) (y1 : Int) (y2 : Int) (y3 : Option (Nat × Nat)) (y4 : Nat) (y5 : Option Nat) (y6 : Int) (y7 : Int) (y8 : Int) (y9 : Bool) (y10 : Option (Nat × Nat)) (y11 : Nat) (y12 : Option Nat) (y13 : Int) (y14 : Option (Nat × Nat)) (y15 : Nat) (y16 : Option Nat) (y17 : Option (Nat × Nat)) (y18 : Nat) (y19 : Option Nat) : Ann.clr f16a25 (f16e14 y0 y1 y2 y3 y4 y5 y6 y7 y8 y9 y10 y11 y12 y13 y14 y15 y16 y17 y18 y19) = f16e4 y0 y1 y2 y3 y4 y5 y7 y8 := hide (by kernel_rfl)
theorem f16n27 {R : Type} (call : CallF R) (N : Nat) (J : KF R) (e : Env) (σ : St) : runK Try.prog call N f16c27 f16a27 J e σ = J .normal e σ := runK_skip' (by kernel_rfl)
theorem f16z25_f16e13 (y0 : Option (Nat × Nat)) (y1 : Int) (y2 : Int) (y3 : Option (Nat × Nat)) (y4 : Nat) (y5 : Option Nat) (y6 : Int) (y7 : Int) (y8 : Int) (y9 : Bool) : Ann.clr f16a25 (f16e13 y0 y1 y2 y3 y4 y5 y6 y7 y8 y9) = f16e4 y0 y1 y2 y3 y4 y5 y7 y8 := hide (by kernel_rfl)
theorem f16z23_f16e12 (y0 : Option (Nat × Nat)) (y1 : Int) (y2 : Int) (y3 : Option (Nat × Nat)) (y4 : Nat) (y5 : Option Nat) (y6 : Int) (y7 : Nat) (y8 : Int) (y9 : Int) (y10 : Nat) (y11 : Int) (y12 : Int) (y13 : Bool) (y14 : Bool) (y15 : Bool) : Ann.clr f16a23 (f16e12 y0 y1 y2 y3 y4 y5 y6 y7 y8 y9 y10 y11 y12 y13 y14 y15) = f16e13 y0 y1 y2 y3 y4 y5 y6 y8 y9 y15 := hide (by kernel_rfl)
theorem f16z17_f16e4 (y0 : Option (Nat × Nat)) (y1 : Int) (y2 : Int) (y3 : Option (Nat × Nat)) (y4 : Nat) (y5 : Option Nat) (y6 : Int) (y7 : Int) : Ann.clr f16a17 (f16e4 y0 y1 y2 y3 y4 y5 y6 y7) = f16e4 y0 y1 y2 y3 y4 y5 y6 y7 := hide (by kernel_rfl)
theorem f16z14_f16e4 (y0 : Option (Nat × Nat)) (y1 : Int) (y2 : Int) (y3 : Option (Nat × Nat)) (y4 : Nat) (y5 : Option Nat) (y6 : Int) (y7 : Int) : Ann.clr f16a14 (f16e4 y0 y1 y2 y3 y4 y5 y6 y7) = f16e4 y0 y1 y2 y3 y4 y5 y6 y7 := hide (by kernel_rfl)
theorem f16r18_f16e4 {R : Type} (call : CallF R) (N : Nat) (y0 : Option (Nat × Nat)) (y1 : Int) (y2 : Int) (y3 : Option (Nat × Nat)) (y4 : Nat) (y5 : Option Nat) (y6 : Int) (y7 : Int) (J : KF R) (σ : St) :
    runK Try.prog call N f16c18 f16a18 J (f16e4 y0 y1 y2 y3 y4 y5 y6 y7) σ =
J Ex.normal (f16e15 y0 y1 y2 y3 y4 y5 y6 (IntKind.wrap IntKind.i64 (y7 + (1 : Int))) (IntKind.wrap IntKind.i64 (y7 + (1 : Int)))) σ := hide (by kernel_rfl)
theorem f16z9_f16e15 (y0 : Option (Nat × Nat)) (y1 : Int) (y2 : Int) (y3 : Option (Nat × Nat)) (y4 : Nat) (y5 : Option Nat) (y6 : Int) (y7 : Int) (y8 : Int) : Ann.clr f16a9 (f16e15 y0 y1 y2 y3 y4 y5 y6 y7 y8) = f16e4 y0 y1 y2 y3 y4 y5 y6 y7 := hide (by kernel_rfl)
theorem f16z8_f16e6 (y0 : Option (Nat × Nat)) (y1 : Nat) (y2 : Option Nat) : Ann.clr f16a8 (f16e6 y0 y1 y2) = f16e6 y0 y1 y2 := hide (by kernel_rfl)
theorem f16z4_f16e6 (y0 : Option (Nat × Nat)) (y1 : Nat) (y2 : Option Nat) : Ann.clr f16a4 (f16e6 y0 y1 y2) = f16e6 y0 y1 y2 := hide (by kernel_rfl)
theorem f16n6 {R : Type} (call : CallF R) (N : Nat) (J : KF R) (e : Env) (σ : St) : runK Try.prog call N f16c6 f16a6 J e σ = runK Try.prog call N f16c28 f16a28 (seqC (fun K e σ => runK Try.prog call N f16c29 f16a29 K e σ) f16a6 J) e σ := runK_seq' (by kernel_rfl) (by kernel_rfl) (by kernel_rfl)
theorem f16r28_f16e6 {R : Type} (call : CallF R) (N : Nat) (y0 : Option (Nat × Nat)) (y1 : Nat) (y2 : Option Nat) (J : KF R) (σ : St) :
    runK Try.prog call N f16c28 f16a28 J (f16e6 y0 y1 y2) σ =
J Ex.normal (f16e16 y0 y1 y2 y0 y1 y2 y0 y1 y2) σ := hide (by kernel_rfl)
theorem f16z6_f16e16 (y0 : Option (Nat × Nat)) (y1 : Nat) (y2 : Option Nat) (y3 : Option (Nat × Nat)) (y4 : Nat) (y5 : Option Nat) (y6 : Option (Nat × Nat)) (y7 : Nat) (y8 : Option Nat) : Ann.clr f16a6 (f16e16 y0 y1 y2 y3 y4 y5 y6 y7 y8) = f16e17 y0 y1 y2 := hide (by kernel_rfl)
theorem f16y29_f16e17 {R : Type} (call : CallF R) (N : Nat) (y0 : Option (Nat × Nat)) (y1 : Nat) (y2 : Option Nat) (J : KF R) (σ : St) : runK Try.prog call N f16c29 f16a29 J (f16e17 y0 y1 y2) σ = J .ret (f16e17 y0 y1 y2) σ := runK_ret' (by kernel_rfl) (by kernel_rfl)
theorem f16b_f16e17_r {R : Type} (y0 : Option (Nat × Nat)) (y1 : Nat) (y2 : Option Nat) (σ : St) (K : AV → St → Option R) : bodyC Try.prog f16rs K (Ex.ret) (f16e17 y0 y1 y2) σ =
K (AV.slice y0 y1 y2 (1 : Nat)) σ := hide (by kernel_rfl)
attribute [go_sem] f16_eq f16n0 f16r1_f16e0 f16z0_f16e1 f16n2 f16r3_f16e0 f16z2_f16e2 f16n4 f16n5 f16r7_f16e2 f16z5_f16e3 f16n8 f16L9_eq f16z9_f16e4 f16l9_f16e4 f16n10 f16r11_f16e4 f16z10_f16e5 f16n12 f16x13_f16e5 f16n15 f16z13_f16e5 f16y16_f16e5 f16z12_f16e4 f16n14 f16n17 f16n19 f16r20_f16e4 f16z19_f16e7 f16n21 f16r22_f16e8 f16z21_f16e9 f16n23 f16r24_f16e10 f16z23_f16e11 f16x25_f16e13 f16r26_f16e13 f16z25_f16e14 f16n27 f16z25_f16e13 f16z23_f16e12 f16z17_f16e4 f16z14_f16e4 f16r18_f16e4 f16z9_f16e15 f16z8_f16e6 f16z4_f16e6 f16n6 f16r28_f16e6 f16z6_f16e16 f16y29_f16e17 f16b_f16e17_r

noncomputable def f20rs : List ResultVar := [ResultVar.tmp (4 : Nat)]
noncomputable def f20c0 : Code := subCode [] (bodyOf Try.prog 20)
def f20a0 : Ann := subAnn [] ann20
noncomputable def f20c1 : Code := subCode [0] (bodyOf Try.prog 20)
def f20a1 : Ann := subAnn [0] ann20
noncomputable def f20c2 : Code := subCode [1] (bodyOf Try.prog 20)
def f20a2 : Ann := subAnn [1] ann20
noncomputable def f20c3 : Code := subCode [1, 0] (bodyOf Try.prog 20)
def f20a3 : Ann := subAnn [1, 0] ann20
noncomputable def f20c4 : Code := subCode [1, 1] (bodyOf Try.prog 20)
def f20a4 : Ann := subAnn [1, 1] ann20
noncomputable def f20c5 : Code := subCode [1, 1, 0] (bodyOf Try.prog 20)
def f20a5 : Ann := subAnn [1, 1, 0] ann20
noncomputable def f20c6 : Code := subCode [1, 1, 1] (bodyOf Try.prog 20)
def f20a6 : Ann := subAnn [1, 1, 1] ann20
noncomputable def f20c7 : Code := subCode [1, 1, 0, 0] (bodyOf Try.prog 20)
def f20a7 : Ann := subAnn [1, 1, 0, 0] ann20
noncomputable def f20c8 : Code := subCode [1, 1, 0, 1] (bodyOf Try.prog 20)
def f20a8 : Ann := subAnn [1, 1, 0, 1] ann20
noncomputable def f20c9 : Code := subCode [1, 1, 0, 1, 0] (bodyOf Try.prog 20)
def f20a9 : Ann := subAnn [1, 1, 0, 1, 0] ann20
noncomputable def f20c10 : Code := subCode [1, 1, 0, 1, 0, 0] (bodyOf Try.prog 20)
def f20a10 : Ann := subAnn [1, 1, 0, 1, 0, 0] ann20
noncomputable def f20c11 : Code := subCode [1, 1, 0, 1, 0, 0, 0] (bodyOf Try.prog 20)
def f20a11 : Ann := subAnn [1, 1, 0, 1, 0, 0, 0] ann20
noncomputable def f20c12 : Code := subCode [1, 1, 0, 1, 0, 0, 1] (bodyOf Try.prog 20)
def f20a12 : Ann := subAnn [1, 1, 0, 1, 0, 0, 1] ann20
noncomputable def f20c13 : Code := subCode [1, 1, 0, 1, 0, 0, 1, 0] (bodyOf Try.prog 20)
def f20a13 : Ann := subAnn [1, 1, 0, 1, 0, 0, 1, 0] ann20
noncomputable def f20c14 : Code := subCode [1, 1, 0, 1, 0, 0, 1, 1] (bodyOf Try.prog 20)
def f20a14 : Ann := subAnn [1, 1, 0, 1, 0, 0, 1, 1] ann20
noncomputable def f20c15 : Code := subCode [1, 1, 0, 1, 0, 0, 1, 0, 0] (bodyOf Try.prog 20)
def f20a15 : Ann := subAnn [1, 1, 0, 1, 0, 0, 1, 0, 0] ann20
noncomputable def f20c16 : Code := subCode [1, 1, 0, 1, 0, 0, 1, 0, 1] (bodyOf Try.prog 20)
def f20a16 : Ann := subAnn [1, 1, 0, 1, 0, 0, 1, 0, 1] ann20
noncomputable def f20c17 : Code := subCode [1, 1, 0, 1, 0, 0, 1, 1, 0] (bodyOf Try.prog 20)
def f20a17 : Ann := subAnn [1, 1, 0, 1, 0, 0, 1, 1, 0] ann20
noncomputable def f20c18 : Code := subCode [1, 1, 0, 1, 0, 0, 1, 1, 1] (bodyOf Try.prog 20)
def f20a18 : Ann := subAnn [1, 1, 0, 1, 0, 0, 1, 1, 1] ann20
noncomputable def f20c19 : Code := subCode [1, 1, 0, 1, 0, 0, 1, 1, 0, 0] (bodyOf Try.prog 20)
def f20a19 : Ann := subAnn [1, 1, 0, 1, 0, 0, 1, 1, 0, 0] ann20
noncomputable def f20c20 : Code := subCode [1, 1, 0, 1, 0, 0, 1, 1, 0, 0, 0] (bodyOf Try.prog 20)
def f20a20 : Ann := subAnn [1, 1, 0, 1, 0, 0, 1, 1, 0, 0, 0] ann20
noncomputable def f20c21 : Code := subCode [1, 1, 0, 1, 0, 0, 1, 1, 0, 0, 1] (bodyOf Try.prog 20)
def f20a21 : Ann := subAnn [1, 1, 0, 1, 0, 0, 1, 1, 0, 0, 1] ann20
noncomputable def f20c22 : Code := subCode [1, 1, 0, 1, 0, 0, 1, 1, 0, 0, 1, 0] (bodyOf Try.prog 20)
def f20a22 : Ann := subAnn [1, 1, 0, 1, 0, 0, 1, 1, 0, 0, 1, 0] ann20
noncomputable def f20c23 : Code := subCode [1, 1, 0, 1, 0, 0, 1, 1, 0, 0, 1, 1] (bodyOf Try.prog 20)
def f20a23 : Ann := subAnn [1, 1, 0, 1, 0, 0, 1, 1, 0, 0, 1, 1] ann20
noncomputable def f20c24 : Code := subCode [1, 1, 0, 1, 0, 0, 1, 1, 0, 0, 1, 1, 0] (bodyOf Try.prog 20)
def f20a24 : Ann := subAnn [1, 1, 0, 1, 0, 0, 1, 1, 0, 0, 1, 1, 0] ann20
noncomputable def f20c25 : Code := subCode [1, 1, 0, 1, 0, 0, 1, 1, 0, 0, 1, 1, 1] (bodyOf Try.prog 20)
def f20a25 : Ann := subAnn [1, 1, 0, 1, 0, 0, 1, 1, 0, 0, 1, 1, 1] ann20
noncomputable def f20c26 : Code := subCode [1, 1, 1, 0] (bodyOf Try.prog 20)
def f20a26 : Ann := subAnn [1, 1, 1, 0] ann20
noncomputable def f20c27 : Code := subCode [1, 1, 1, 1] (bodyOf Try.prog 20)
def f20a27 : Ann := subAnn [1, 1, 1, 1] ann20
noncomputable def f20L9 {R : Type} (call : CallF R) (N : Nat) : KF R → Env → St → Option R := fun K e σ => runK Try.prog call N f20c10 f20a10 K e σ
def f20e0 (y0 : Option (Nat × Nat)) (y1 : Int) : Env := AV.ptr y0 :: AV.int IntKind.i64 y1 :: Env.sp 24 []
def f20e1 (y0 : Option (Nat × Nat)) (y1 : Int) (y2 : Int) : Env := AV.ptr y0 :: AV.int IntKind.i64 y1 :: Env.sp 2 (AV.int IntKind.i64 y2 :: Env.sp 21 [])
def f20e2 (y0 : Option (Nat × Nat)) (y1 : Int) (y2 : Int) : Env := AV.ptr y0 :: AV.int IntKind.i64 y1 :: Env.sp 3 (AV.int IntKind.i64 y2 :: Env.sp 20 [])
def f20e3 (y0 : Option (Nat × Nat)) (y1 : Int) (y2 : Int) (y3 : Option (Nat × Nat)) (y4 : Int) (y5 : Int) : Env := AV.ptr y0 :: AV.int IntKind.i64 y1 :: Env.sp 3 (AV.int IntKind.i64 y2 :: Env.sp 1 (AV.ptr y3 :: AV.int IntKind.i64 y4 :: AV.int IntKind.i64 y5 :: Env.sp 16 []))
def f20e4 (y0 : Option (Nat × Nat)) (y1 : Int) (y2 : Int) (y3 : Int) (y4 : Int) : Env := AV.ptr y0 :: AV.int IntKind.i64 y1 :: Env.sp 3 (AV.int IntKind.i64 y2 :: Env.sp 2 (AV.int IntKind.i64 y3 :: AV.int IntKind.i64 y4 :: Env.sp 16 []))
def f20e5 (y0 : Option (Nat × Nat)) (y1 : Int) (y2 : Int) (y3 : Int) (y4 : Int) (y5 : Bool) : Env := AV.ptr y0 :: AV.int IntKind.i64 y1 :: Env.sp 3 (AV.int IntKind.i64 y2 :: Env.sp 2 (AV.int IntKind.i64 y3 :: AV.int IntKind.i64 y4 :: AV.bool y5 :: Env.sp 15 []))
def f20e6 (y0 : Int) : Env := Env.sp 5 (AV.int IntKind.i64 y0 :: Env.sp 20 [])
def f20e7 (y0 : Option (Nat × Nat)) (y1 : Int) (y2 : Int) (y3 : Int) (y4 : Int) (y5 : Int) (y6 : Int) : Env := AV.ptr y0 :: AV.int IntKind.i64 y1 :: Env.sp 3 (AV.int IntKind.i64 y2 :: AV.int IntKind.i64 y3 :: Env.sp 1 (AV.int IntKind.i64 y4 :: AV.int IntKind.i64 y5 :: Env.sp 1 (AV.int IntKind.i64 y6 :: Env.sp 14 [])))
def f20e8 (y0 : Option (Nat × Nat)) (y1 : Int) (y2 : Int) (y3 : Int) (y4 : Int) (y5 : Int) : Env := AV.ptr y0 :: AV.int IntKind.i64 y1 :: Env.sp 3 (AV.int IntKind.i64 y2 :: AV.int IntKind.i64 y3 :: Env.sp 1 (AV.int IntKind.i64 y4 :: AV.int IntKind.i64 y5 :: Env.sp 16 []))
def f20e9 (y0 : Option (Nat × Nat)) (y1 : Int) (y2 : Int) (y3 : Int) (y4 : Int) (y5 : Int) (y6 : Option (Nat × Nat)) (y7 : Option (Nat × Nat)) (y8 : Option (Nat × Nat)) (y9 : Option (Nat × Nat)) (y10 : Nat) (y11 : Option Nat) (y12 : Int) (y13 : Option (Nat × Nat)) (y14 : Option (Nat × Nat)) (y15 : Int) (y16 : Int) (y17 : Bool) : Env := AV.ptr y0 :: AV.int IntKind.i64 y1 :: Env.sp 3 (AV.int IntKind.i64 y2 :: AV.int IntKind.i64 y3 :: Env.sp 1 (AV.int IntKind.i64 y4 :: AV.int IntKind.i64 y5 :: Env.sp 2 (AV.ptr y6 :: AV.ptr y7 :: AV.ptr y8 :: AV.slice y9 y10 y11 (4 : Nat) :: AV.int IntKind.i64 y12 :: AV.ptr y13 :: AV.ptr y14 :: AV.int IntKind.i64 y15 :: AV.int IntKind.i64 y16 :: AV.bool y17 :: Env.sp 4 [])))
def f20e10 (y0 : Option (Nat × Nat)) (y1 : Int) (y2 : Int) (y3 : Int) (y4 : Int) (y5 : Bool) : Env := AV.ptr y0 :: AV.int IntKind.i64 y1 :: Env.sp 3 (AV.int IntKind.i64 y2 :: Env.sp 2 (AV.int IntKind.i64 y3 :: AV.int IntKind.i64 y4 :: Env.sp 11 (AV.bool y5 :: Env.sp 4 [])))
def f20e11 (y0 : Option (Nat × Nat)) (y1 : Int) (y2 : Int) (y3 : Int) (y4 : Int) (y5 : Bool) (y6 : Int) (y7 : Int) : Env := AV.ptr y0 :: AV.int IntKind.i64 y1 :: Env.sp 3 (AV.int IntKind.i64 y2 :: Env.sp 2 (AV.int IntKind.i64 y3 :: AV.int IntKind.i64 y4 :: Env.sp 11 (AV.bool y5 :: AV.int IntKind.i64 y6 :: AV.int IntKind.i64 y7 :: Env.sp 2 [])))
def f20e12 (y0 : Option (Nat × Nat)) (y1 : Int) (y2 : Int) (y3 : Int) (y4 : Int) (y5 : Int) : Env := AV.ptr y0 :: AV.int IntKind.i64 y1 :: Env.sp 3 (AV.int IntKind.i64 y2 :: Env.sp 2 (AV.int IntKind.i64 y3 :: AV.int IntKind.i64 y4 :: Env.sp 14 (AV.int IntKind.i64 y5 :: Env.sp 1 [])))
def f20e13 (y0 : Int) (y1 : Int) (y2 : Int) : Env := Env.sp 4 (AV.int IntKind.i64 y0 :: AV.int IntKind.i64 y1 :: Env.sp 19 (AV.int IntKind.i64 y2 :: []))
def f20e14 (y0 : Int) : Env := Env.sp 4 (AV.int IntKind.i64 y0 :: Env.sp 21 [])

/- function 20 -/
theorem f20_eq {R : Type} (call : CallF R) (N : Nat) (y0 : Option (Nat × Nat)) (y1 : Int) (σ : St) (K : AV → St → Option R) :
    bodyK Try.prog call N ann 20 [AV.ptr y0, AV.int IntKind.i64 y1] σ K = runK Try.prog call N f20c0 f20a0 (bodyC Try.prog f20rs K) (f20e0 y0 y1) σ := bodyK_of (fn := ((Try.prog.funcs[20]?).get rfl)) (by kernel_rfl) (by kernel_rfl) (by kernel_rfl) (by kernel_rfl) (by kernel_rfl) (by kernel_rfl)
theorem f20n0 {R : Type} (call : CallF R) (N : Nat) (J : KF R) (e : Env) (σ : St) : runK Try.prog call N f20c0 f20a0 J e σ = runK Try.prog call N f20c1 f20a1 (seqC (fun K e σ => runK Try.prog call N f20c2 f20a2 K e σ) f20a0 J) e σ := runK_seq' (by kernel_rfl) (by kernel_rfl) (by kernel_rfl)
theorem f20r1_f20e0 {R : Type} (call : CallF R) (N : Nat) (y0 : Option (Nat × Nat)) (y1 : Int) (J : KF R) (σ : St) :
    runK Try.prog call N f20c1 f20a1 J (f20e0 y0 y1) σ =
J Ex.normal (f20e1 y0 y1 (0 : Int)) σ := hide (by kernel_rfl)
theorem f20z0_f20e1 (y0 : Option (Nat × Nat)) (y1 : Int) (y2 : Int) : Ann.clr f20a0 (f20e1 y0 y1 y2) = f20e0 y0 y1 := hide (by kernel_rfl)
theorem f20n2 {R : Type} (call : CallF R) (N : Nat) (J : KF R) (e : Env) (σ : St) : runK Try.prog call N f20c2 f20a2 J e σ = runK Try.prog call N f20c3 f20a3 (seqC (fun K e σ => runK Try.prog call N f20c4 f20a4 K e σ) f20a2 J) e σ := runK_seq' (by kernel_rfl) (by kernel_rfl) (by kernel_rfl)
theorem f20r3_f20e0 {R : Type} (call : CallF R) (N : Nat) (y0 : Option (Nat × Nat)) (y1 : Int) (J : KF R) (σ : St) :
    runK Try.prog call N f20c3 f20a3 J (f20e0 y0 y1) σ =
J Ex.normal (f20e2 y0 y1 (0 : Int)) σ := hide (by kernel_rfl)
theorem f20z2_f20e2 (y0 : Option (Nat × Nat)) (y1 : Int) (y2 : Int) : Ann.clr f20a2 (f20e2 y0 y1 y2) = f20e2 y0 y1 y2 := hide (by kernel_rfl)
theorem f20n4 {R : Type} (call : CallF R) (N : Nat) (J : KF R) (e : Env) (σ : St) : runK Try.prog call N f20c4 f20a4 J e σ = runK Try.prog call N f20c5 f20a5 (seqC (fun K e σ => runK Try.prog call N f20c6 f20a6 K e σ) f20a4 J) e σ := runK_seq' (by kernel_rfl) (by kernel_rfl) (by kernel_rfl)
theorem f20n5 {R : Type} (call : CallF R) (N : Nat) (J : KF R) (e : Env) (σ : St) : runK Try.prog call N f20c5 f20a5 J e σ = runK Try.prog call N f20c7 f20a7 (seqC (fun K e σ => runK Try.prog call N f20c8 f20a8 K e σ) f20a5 J) e σ := runK_seq' (by kernel_rfl) (by kernel_rfl) (by kernel_rfl)
theorem f20r7_f20e2 {R : Type} (call : CallF R) (N : Nat) (y0 : Option (Nat × Nat)) (y1 : Int) (y2 : Int) (J : KF R) (σ : St) :
    runK Try.prog call N f20c7 f20a7 J (f20e2 y0 y1 y2) σ =
call (13 : Nat) [AV.ptr y0] σ fun v0 v1 => Option.bind (AV.toInt IntKind.i64 v0) fun v2 => J Ex.normal (f20e3 y0 y1 y2 y0 v2 (0 : Int)) v1 := hide (by kernel_rfl)
theorem f20z5_f20e3 (y0 : Option (Nat × Nat)) (y1 : Int) (y2 : Int) (y3 : Option (Nat × Nat)) (y4 : Int) (y5 : Int) : Ann.clr f20a5 (f20e3 y0 y1 y2 y3 y4 y5) = f20e4 y0 y1 y2 y4 y5 := hide (by kernel_rfl)
theorem f20n8 {R : Type} (call : CallF R) (N : Nat) (J : KF R) (e : Env) (σ : St) : runK Try.prog call N f20c8 f20a8 J e σ = runK Try.prog call N f20c9 f20a9 (blockC 0 f20a8 J) e σ := runK_block' (by kernel_rfl) (by kernel_rfl)
theorem f20L9_eq {R : Type} (call : CallF R) (N : Nat) (J : KF R) (e : Env) (σ : St) : f20L9 call N J e σ = runK Try.prog call N f20c10 f20a10 J e σ := hide rfl
theorem f20z9_f20e4 (y0 : Option (Nat × Nat)) (y1 : Int) (y2 : Int) (y3 : Int) (y4 : Int) : Ann.clr f20a9 (f20e4 y0 y1 y2 y3 y4) = f20e4 y0 y1 y2 y3 y4 := hide (by kernel_rfl)
theorem f20l9_f20e4 {R : Type} (call : CallF R) (N : Nat) (y0 : Option (Nat × Nat)) (y1 : Int) (y2 : Int) (y3 : Int) (y4 : Int) (J : KF R) (σ : St) : runK Try.prog call N f20c9 f20a9 J (f20e4 y0 y1 y2 y3 y4) σ = loopK (f20L9 call N) f20a9 N J (f20e4 y0 y1 y2 y3 y4) σ := runK_loop' (by kernel_rfl) (by kernel_rfl) (by kernel_rfl)
theorem f20n10 {R : Type} (call : CallF R) (N : Nat) (J : KF R) (e : Env) (σ : St) : runK Try.prog call N f20c10 f20a10 J e σ = runK Try.prog call N f20c11 f20a11 (seqC (fun K e σ => runK Try.prog call N f20c12 f20a12 K e σ) f20a10 J) e σ := runK_seq' (by kernel_rfl) (by kernel_rfl) (by kernel_rfl)
theorem f20r11_f20e4 {R : Type} (call : CallF R) (N : Nat) (y0 : Option (Nat × Nat)) (y1 : Int) (y2 : Int) (y3 : Int) (y4 : Int) (J : KF R) (σ : St) :
    runK Try.prog call N f20c11 f20a11 J (f20e4 y0 y1 y2 y3 y4) σ =
J Ex.normal (f20e5 y0 y1 y2 y3 y4 (decide (y4 < y3))) σ := hide (by kernel_rfl)
theorem f20z10_f20e5 (y0 : Option (Nat × Nat)) (y1 : Int) (y2 : Int) (y3 : Int) (y4 : Int) (y5 : Bool) : Ann.clr f20a10 (f20e5 y0 y1 y2 y3 y4 y5) = f20e5 y0 y1 y2 y3 y4 y5 := hide (by kernel_rfl)
theorem f20n12 {R : Type} (call : CallF R) (N : Nat) (J : KF R) (e : Env) (σ : St) : runK Try.prog call N f20c12 f20a12 J e σ = runK Try.prog call N f20c13 f20a13 (seqC (fun K e σ => runK Try.prog call N f20c14 f20a14 K e σ) f20a12 J) e σ := runK_seq' (by kernel_rfl) (by kernel_rfl) (by kernel_rfl)
theorem f20x13_f20e5 {R : Type} (call : CallF R) (N : Nat) (y0 : Option (Nat × Nat)) (y1 : Int) (y2 : Int) (y3 : Int) (y4 : Int) (y5 : Bool) (J : KF R) (σ : St) : runK Try.prog call N f20c13 f20a13 J (f20e5 y0 y1 y2 y3 y4 y5) σ = if y5 = true then runK Try.prog call N f20c15 f20a15 (condC f20a13 J) (f20e5 y0 y1 y2 y3 y4 y5) σ else runK Try.prog call N f20c16 f20a16 (condC f20a13 J) (f20e5 y0 y1 y2 y3 y4 y5) σ := runK_cond' (o := Operand.tmp (10 : Nat)) (by kernel_rfl) (by kernel_rfl) (by kernel_rfl) (by kernel_rfl)
theorem f20n15 {R : Type} (call : CallF R) (N : Nat) (J : KF R) (e : Env) (σ : St) : runK Try.prog call N f20c15 f20a15 J e σ = J .normal e σ := runK_skip' (by kernel_rfl)
theorem f20z13_f20e5 (y0 : Option (Nat × Nat)) (y1 : Int) (y2 : Int) (y3 : Int) (y4 : Int) (y5 : Bool) : Ann.clr f20a13 (f20e5 y0 y1 y2 y3 y4 y5) = f20e4 y0 y1 y2 y3 y4 := hide (by kernel_rfl)
theorem f20y16_f20e5 {R : Type} (call : CallF R) (N : Nat) (y0 : Option (Nat × Nat)) (y1 : Int) (y2 : Int) (y3 : Int) (y4 : Int) (y5 : Bool) (J : KF R) (σ : St) : runK Try.prog call N f20c16 f20a16 J (f20e5 y0 y1 y2 y3 y4 y5) σ = J (.exit 0) (f20e6 y2) σ := runK_exit' (by kernel_rfl) (by kernel_rfl)
theorem f20z12_f20e4 (y0 : Option (Nat × Nat)) (y1 : Int) (y2 : Int) (y3 : Int) (y4 : Int) : Ann.clr f20a12 (f20e4 y0 y1 y2 y3 y4) = f20e4 y0 y1 y2 y3 y4 := hide (by kernel_rfl)
theorem f20n14 {R : Type} (call : CallF R) (N : Nat) (J : KF R) (e : Env) (σ : St) : runK Try.prog call N f20c14 f20a14 J e σ = runK Try.prog call N f20c17 f20a17 (seqC (fun K e σ => runK Try.prog call N f20c18 f20a18 K e σ) f20a14 J) e σ := runK_seq' (by kernel_rfl) (by kernel_rfl) (by kernel_rfl)
theorem f20n17 {R : Type} (call : CallF R) (N : Nat) (J : KF R) (e : Env) (σ : St) : runK Try.prog call N f20c17 f20a17 J e σ = runK Try.prog call N f20c19 f20a19 (blockC 1 f20a17 J) e σ := runK_block' (by kernel_rfl) (by kernel_rfl)
theorem f20n19 {R : Type} (call : CallF R) (N : Nat) (J : KF R) (e : Env) (σ : St) : runK Try.prog call N f20c19 f20a19 J e σ = runK Try.prog call N f20c20 f20a20 (seqC (fun K e σ => runK Try.prog call N f20c21 f20a21 K e σ) f20a19 J) e σ := runK_seq' (by kernel_rfl) (by kernel_rfl) (by kernel_rfl)
theorem f20r20_f20e4 {R : Type} (call : CallF R) (N : Nat) (y0 : Option (Nat × Nat)) (y1 : Int) (y2 : Int) (y3 : Int) (y4 : Int) (J : KF R) (σ : St) :
    runK Try.prog call N f20c20 f20a20 J (f20e4 y0 y1 y2 y3 y4) σ =
J Ex.normal (f20e7 y0 y1 y2 y4 y3 y4 y4) σ := hide (by kernel_rfl)
theorem f20z19_f20e7 (y0 : Option (Nat × Nat)) (y1 : Int) (y2 : Int) (y3 : Int) (y4 : Int) (y5 : Int) (y6 : Int) : Ann.clr f20a19 (f20e7 y0 y1 y2 y3 y4 y5 y6) = f20e8 y0 y1 y2 y3 y4 y5 := hide (by kernel_rfl)
theorem f20n21 {R : Type} (call : CallF R) (N : Nat) (J : KF R) (e : Env) (σ : St) : runK Try.prog call N f20c21 f20a21 J e σ = runK Try.prog call N f20c22 f20a22 (seqC (fun K e σ => runK Try.prog call N f20c23 f20a23 K e σ) f20a21 J) e σ := runK_seq' (by kernel_rfl) (by kernel_rfl) (by kernel_rfl)
theorem f20r22_f20e8 {R : Type} (call : CallF R) (N : Nat) (y0 : Option (Nat × Nat)) (y1 : Int) (y2 : Int) (y3 : Int) (y4 : Int) (y5 : Int) (J : KF R) (σ : St) :
    runK Try.prog call N f20c22 f20a22 J (f20e8 y0 y1 y2 y3 y4 y5) σ =
Option.bind y0 fun v0 =>
  Option.bind (St.ld σ (Prod.fst v0) (Prod.snd v0)) fun v1 =>
    Option.bind (AV.toSl (4 : Nat) v1) fun v2 =>
      if (0 : Int) ≤ y3 ∧ y3 < (↑(Sl.len v2) : Int) then
        Option.bind (Sl.o v2) fun v3 =>
          Option.bind (St.ld σ (Prod.fst v3) (Prod.snd v3 + Int.toNat y3 * (4 : Nat) + (2 : Nat))) fun v4 =>
            Option.bind (AV.toInt IntKind.i64 v4) fun v5 =>
              J Ex.normal
                (f20e9 y0 y1 y2 y3 y4 y5 y0 (some v0) (some (Prod.fst v0, Prod.snd v0)) (Sl.o v2) (Sl.len v2) (Sl.cap v2) y3
                  (some (Prod.fst v3, Prod.snd v3 + Int.toNat y3 * (4 : Nat)))
                  (some (Prod.fst v3, Prod.snd v3 + Int.toNat y3 * (4 : Nat) + (2 : Nat))) v5 y1 (decide (v5 < y1)))
                σ
      else none := hide (by kernel_rfl)
theorem f20z21_f20e9 (y0 : Option (Nat × Nat)) (y1 : Int) (y2 : Int) (y3 : Int) (y4 : Int) (y5 : Int) (y6 : Option (Nat × Nat)) (y7 : Option (Nat × Nat)) (y8 : Option (Nat × Nat)) (y9 : Option (Nat × Nat)) (y10 : Nat) (y11 : Option Nat) (y12 : Int) (y13 : Option (Nat × Nat)) (y14 : Option (Nat × Nat)) (y15 : Int) (y16 : Int) (y17 : Bool) : Ann.clr f20a21 (f20e9 y0 y1 y2 y3 y4 y5 y6 y7 y8 y9 y10 y11 y12 y13 y14 y15 y16 y17) = f20e10 y0 y1 y2 y4 y5 y17 := hide (by kernel_rfl)
theorem f20x23_f20e10 {R : Type} (call : CallF R) (N : Nat) (y0 : Option (Nat × Nat)) (y1 : Int) (y2 : Int) (y3 : Int) (y4 : Int) (y5 : Bool) (J : KF R) (σ : St) : runK Try.prog call N f20c23 f20a23 J (f20e10 y0 y1 y2 y3 y4 y5) σ = if y5 = true then runK Try.prog call N f20c24 f20a24 (condC f20a23 J) (f20e10 y0 y1 y2 y3 y4 y5) σ else runK Try.prog call N f20c25 f20a25 (condC f20a23 J) (f20e10 y0 y1 y2 y3 y4 y5) σ := runK_cond' (o := Operand.tmp (21 : Nat)) (by kernel_rfl) (by kernel_rfl) (by kernel_rfl) (by kernel_rfl)
theorem f20r24_f20e10 {R : Type} (call : CallF R) (N : Nat) (y0 : Option (Nat × Nat)) (y1 : Int) (y2 : Int) (y3 : Int) (y4 : Int) (y5 : Bool) (J : KF R) (σ : St) :
    runK Try.prog call N f20c24 f20a24 J (f20e10 y0 y1 y2 y3 y4 y5) σ =
J Ex.normal (f20e11 y0 y1 (IntKind.wrap IntKind.i64 (y2 + (1 : Int))) y3 y4 y5 y2 (IntKind.wrap IntKind.i64 (y2 + (1 : Int)))) σ := hide (by kernel_rfl)
theorem f20z23_f20e11 (y0 : Option (Nat × Nat)) (y1 : Int) (y2 : Int) (y3 : Int) (y4 : Int) (y5 : Bool) (y6 : Int) (y7 : Int) : Ann.clr f20a23 (f20e11 y0 y1 y2 y3 y4 y5 y6 y7) = f20e4 y0 y1 y2 y3 y4 := hide (by kernel_rfl)
theorem f20n25 {R : Type} (call : CallF R) (N : Nat) (J : KF R) (e : Env) (σ : St) : runK Try.prog call N f20c25 f20a25 J e σ = J .normal e σ := runK_skip' (by kernel_rfl)
theorem f20z23_f20e10 (y0 : Option (Nat × Nat)) (y1 : Int) (y2 : Int) (y3 : Int) (y4 : Int) (y5 : Bool) : Ann.clr f20a23 (f20e10 y0 y1 y2 y3 y4 y5) = f20e4 y0 y1 y2 y3 y4 := hide (by kernel_rfl)
theorem f20z17_f20e4 (y0 : Option (Nat × Nat)) (y1 : Int) (y2 : Int) (y3 : Int) (y4 : Int) : Ann.clr f20a17 (f20e4 y0 y1 y2 y3 y4) = f20e4 y0 y1 y2 y3 y4 := hide (by kernel_rfl)
theorem f20z14_f20e4 (y0 : Option (Nat × Nat)) (y1 : Int) (y2 : Int) (y3 : Int) (y4 : Int) : Ann.clr f20a14 (f20e4 y0 y1 y2 y3 y4) = f20e4 y0 y1 y2 y3 y4 := hide (by kernel_rfl)
theorem f20r18_f20e4 {R : Type} (call : CallF R) (N : Nat) (y0 : Option (Nat × Nat)) (y1 : Int) (y2 : Int) (y3 : Int) (y4 : Int) (J : KF R) (σ : St) :
    runK Try.prog call N f20c18 f20a18 J (f20e4 y0 y1 y2 y3 y4) σ =
J Ex.normal (f20e12 y0 y1 y2 y3 (IntKind.wrap IntKind.i64 (y4 + (1 : Int))) (IntKind.wrap IntKind.i64 (y4 + (1 : Int)))) σ := hide (by kernel_rfl)
theorem f20z9_f20e12 (y0 : Option (Nat × Nat)) (y1 : Int) (y2 : Int) (y3 : Int) (y4 : Int) (y5 : Int) : Ann.clr f20a9 (f20e12 y0 y1 y2 y3 y4 y5) = f20e4 y0 y1 y2 y3 y4 := hide (by kernel_rfl)
theorem f20z8_f20e6 (y0 : Int) : Ann.clr f20a8 (f20e6 y0) = f20e6 y0 := hide (by kernel_rfl)
theorem f20z4_f20e6 (y0 : Int) : Ann.clr f20a4 (f20e6 y0) = f20e6 y0 := hide (by kernel_rfl)
theorem f20n6 {R : Type} (call : CallF R) (N : Nat) (J : KF R) (e : Env) (σ : St) : runK Try.prog call N f20c6 f20a6 J e σ = runK Try.prog call N f20c26 f20a26 (seqC (fun K e σ => runK Try.prog call N f20c27 f20a27 K e σ) f20a6 J) e σ := runK_seq' (by kernel_rfl) (by kernel_rfl) (by kernel_rfl)
theorem f20r26_f20e6 {R : Type} (call : CallF R) (N : Nat) (y0 : Int) (J : KF R) (σ : St) :
    runK Try.prog call N f20c26 f20a26 J (f20e6 y0) σ =
J Ex.normal (f20e13 y0 y0 y0) σ := hide (by kernel_rfl)
theorem f20z6_f20e13 (y0 : Int) (y1 : Int) (y2 : Int) : Ann.clr f20a6 (f20e13 y0 y1 y2) = f20e14 y0 := hide (by kernel_rfl)
theorem f20y27_f20e14 {R : Type} (call : CallF R) (N : Nat) (y0 : Int) (J : KF R) (σ : St) : runK Try.prog call N f20c27 f20a27 J (f20e14 y0) σ = J .ret (f20e14 y0) σ := runK_ret' (by kernel_rfl) (by kernel_rfl)
theorem f20b_f20e14_r {R : Type} (y0 : Int) (σ : St) (K : AV → St → Option R) : bodyC Try.prog f20rs K (Ex.ret) (f20e14 y0) σ =
K (AV.int IntKind.i64 y0) σ := hide (by kernel_rfl)
attribute [go_sem] f20_eq f20n0 f20r1_f20e0 f20z0_f20e1 f20n2 f20r3_f20e0 f20z2_f20e2 f20n4 f20n5 f20r7_f20e2 f20z5_f20e3 f20n8 f20L9_eq f20z9_f20e4 f20l9_f20e4 f20n10 f20r11_f20e4 f20z10_f20e5 f20n12 f20x13_f20e5 f20n15 f20z13_f20e5 f20y16_f20e5 f20z12_f20e4 f20n14 f20n17 f20n19 f20r20_f20e4 f20z19_f20e7 f20n21 f20r22_f20e8 f20z21_f20e9 f20x23_f20e10 f20r24_f20e10 f20z23_f20e11 f20n25 f20z23_f20e10 f20z17_f20e4 f20z14_f20e4 f20r18_f20e4 f20z9_f20e12 f20z8_f20e6 f20z4_f20e6 f20n6 f20r26_f20e6 f20z6_f20e13 f20y27_f20e14 f20b_f20e14_r

end Go.Proofs.Ytdebkakkeaanaaa
