/- What the machine does with each piece of code, in plain text. PRINTED by a program of this workplace; Lean checks it. -/
import Derived.Test.YtmgacgonoodkfaaWiAnn
import Derived.Test.YtmgacgonoodkfaaProg
import Derived.KernelRfl
import Derived.Attr
namespace Go.Proofs.Ytmgacgonoodkfaa
open Go.AM
set_option maxRecDepth 100000
set_option linter.unusedVariables false
noncomputable def f51rs : List ResultVar := [ResultVar.tmp (6 : Nat)]
noncomputable def f51c0 : Code := subCode [] (bodyOf Try.prog 51)
def f51a0 : Ann := subAnn [] ann51
noncomputable def f51c1 : Code := subCode [0] (bodyOf Try.prog 51)
def f51a1 : Ann := subAnn [0] ann51
noncomputable def f51c2 : Code := subCode [1] (bodyOf Try.prog 51)
def f51a2 : Ann := subAnn [1] ann51
noncomputable def f51c3 : Code := subCode [1, 0] (bodyOf Try.prog 51)
def f51a3 : Ann := subAnn [1, 0] ann51
noncomputable def f51c4 : Code := subCode [1, 1] (bodyOf Try.prog 51)
def f51a4 : Ann := subAnn [1, 1] ann51
noncomputable def f51c5 : Code := subCode [1, 1, 0] (bodyOf Try.prog 51)
def f51a5 : Ann := subAnn [1, 1, 0] ann51
noncomputable def f51c6 : Code := subCode [1, 1, 1] (bodyOf Try.prog 51)
def f51a6 : Ann := subAnn [1, 1, 1] ann51
noncomputable def f51c7 : Code := subCode [1, 1, 0, 0] (bodyOf Try.prog 51)
def f51a7 : Ann := subAnn [1, 1, 0, 0] ann51
noncomputable def f51c8 : Code := subCode [1, 1, 0, 1] (bodyOf Try.prog 51)
def f51a8 : Ann := subAnn [1, 1, 0, 1] ann51
noncomputable def f51c9 : Code := subCode [1, 1, 0, 1, 0] (bodyOf Try.prog 51)
def f51a9 : Ann := subAnn [1, 1, 0, 1, 0] ann51
noncomputable def f51c10 : Code := subCode [1, 1, 0, 1, 1] (bodyOf Try.prog 51)
def f51a10 : Ann := subAnn [1, 1, 0, 1, 1] ann51
noncomputable def f51c11 : Code := subCode [1, 1, 0, 1, 0, 0] (bodyOf Try.prog 51)
def f51a11 : Ann := subAnn [1, 1, 0, 1, 0, 0] ann51
noncomputable def f51c12 : Code := subCode [1, 1, 0, 1, 0, 1] (bodyOf Try.prog 51)
def f51a12 : Ann := subAnn [1, 1, 0, 1, 0, 1] ann51
noncomputable def f51c13 : Code := subCode [1, 1, 1, 0] (bodyOf Try.prog 51)
def f51a13 : Ann := subAnn [1, 1, 1, 0] ann51
noncomputable def f51c14 : Code := subCode [1, 1, 1, 1] (bodyOf Try.prog 51)
def f51a14 : Ann := subAnn [1, 1, 1, 1] ann51
noncomputable def f51c15 : Code := subCode [1, 1, 1, 0, 0] (bodyOf Try.prog 51)
def f51a15 : Ann := subAnn [1, 1, 1, 0, 0] ann51
noncomputable def f51c16 : Code := subCode [1, 1, 1, 0, 1] (bodyOf Try.prog 51)
def f51a16 : Ann := subAnn [1, 1, 1, 0, 1] ann51
noncomputable def f51c17 : Code := subCode [1, 1, 1, 0, 1, 0] (bodyOf Try.prog 51)
def f51a17 : Ann := subAnn [1, 1, 1, 0, 1, 0] ann51
noncomputable def f51c18 : Code := subCode [1, 1, 1, 0, 1, 0, 0] (bodyOf Try.prog 51)
def f51a18 : Ann := subAnn [1, 1, 1, 0, 1, 0, 0] ann51
noncomputable def f51c19 : Code := subCode [1, 1, 1, 0, 1, 0, 0, 0] (bodyOf Try.prog 51)
def f51a19 : Ann := subAnn [1, 1, 1, 0, 1, 0, 0, 0] ann51
noncomputable def f51c20 : Code := subCode [1, 1, 1, 0, 1, 0, 0, 1] (bodyOf Try.prog 51)
def f51a20 : Ann := subAnn [1, 1, 1, 0, 1, 0, 0, 1] ann51
noncomputable def f51c21 : Code := subCode [1, 1, 1, 0, 1, 0, 0, 1, 0] (bodyOf Try.prog 51)
def f51a21 : Ann := subAnn [1, 1, 1, 0, 1, 0, 0, 1, 0] ann51
noncomputable def f51c22 : Code := subCode [1, 1, 1, 0, 1, 0, 0, 1, 1] (bodyOf Try.prog 51)
def f51a22 : Ann := subAnn [1, 1, 1, 0, 1, 0, 0, 1, 1] ann51
noncomputable def f51c23 : Code := subCode [1, 1, 1, 0, 1, 0, 0, 1, 0, 0] (bodyOf Try.prog 51)
def f51a23 : Ann := subAnn [1, 1, 1, 0, 1, 0, 0, 1, 0, 0] ann51
noncomputable def f51c24 : Code := subCode [1, 1, 1, 0, 1, 0, 0, 1, 0, 1] (bodyOf Try.prog 51)
def f51a24 : Ann := subAnn [1, 1, 1, 0, 1, 0, 0, 1, 0, 1] ann51
noncomputable def f51c25 : Code := subCode [1, 1, 1, 0, 1, 0, 0, 1, 1, 0] (bodyOf Try.prog 51)
def f51a25 : Ann := subAnn [1, 1, 1, 0, 1, 0, 0, 1, 1, 0] ann51
noncomputable def f51c26 : Code := subCode [1, 1, 1, 0, 1, 0, 0, 1, 1, 1] (bodyOf Try.prog 51)
def f51a26 : Ann := subAnn [1, 1, 1, 0, 1, 0, 0, 1, 1, 1] ann51
noncomputable def f51c27 : Code := subCode [1, 1, 1, 0, 1, 0, 0, 1, 1, 0, 0] (bodyOf Try.prog 51)
def f51a27 : Ann := subAnn [1, 1, 1, 0, 1, 0, 0, 1, 1, 0, 0] ann51
noncomputable def f51c28 : Code := subCode [1, 1, 1, 0, 1, 0, 0, 1, 1, 0, 0, 0] (bodyOf Try.prog 51)
def f51a28 : Ann := subAnn [1, 1, 1, 0, 1, 0, 0, 1, 1, 0, 0, 0] ann51
noncomputable def f51c29 : Code := subCode [1, 1, 1, 0, 1, 0, 0, 1, 1, 0, 0, 1] (bodyOf Try.prog 51)
def f51a29 : Ann := subAnn [1, 1, 1, 0, 1, 0, 0, 1, 1, 0, 0, 1] ann51
noncomputable def f51c30 : Code := subCode [1, 1, 1, 0, 1, 0, 0, 1, 1, 0, 0, 1, 0] (bodyOf Try.prog 51)
def f51a30 : Ann := subAnn [1, 1, 1, 0, 1, 0, 0, 1, 1, 0, 0, 1, 0] ann51
noncomputable def f51c31 : Code := subCode [1, 1, 1, 0, 1, 0, 0, 1, 1, 0, 0, 1, 1] (bodyOf Try.prog 51)
def f51a31 : Ann := subAnn [1, 1, 1, 0, 1, 0, 0, 1, 1, 0, 0, 1, 1] ann51
noncomputable def f51c32 : Code := subCode [1, 1, 1, 0, 1, 0, 0, 1, 1, 0, 0, 1, 1, 0] (bodyOf Try.prog 51)
def f51a32 : Ann := subAnn [1, 1, 1, 0, 1, 0, 0, 1, 1, 0, 0, 1, 1, 0] ann51
noncomputable def f51c33 : Code := subCode [1, 1, 1, 0, 1, 0, 0, 1, 1, 0, 0, 1, 1, 1] (bodyOf Try.prog 51)
def f51a33 : Ann := subAnn [1, 1, 1, 0, 1, 0, 0, 1, 1, 0, 0, 1, 1, 1] ann51
noncomputable def f51c34 : Code := subCode [1, 1, 1, 0, 1, 0, 0, 1, 1, 0, 0, 1, 1, 0, 0] (bodyOf Try.prog 51)
def f51a34 : Ann := subAnn [1, 1, 1, 0, 1, 0, 0, 1, 1, 0, 0, 1, 1, 0, 0] ann51
noncomputable def f51c35 : Code := subCode [1, 1, 1, 0, 1, 0, 0, 1, 1, 0, 0, 1, 1, 0, 1] (bodyOf Try.prog 51)
def f51a35 : Ann := subAnn [1, 1, 1, 0, 1, 0, 0, 1, 1, 0, 0, 1, 1, 0, 1] ann51
noncomputable def f51c36 : Code := subCode [1, 1, 1, 1, 0] (bodyOf Try.prog 51)
def f51a36 : Ann := subAnn [1, 1, 1, 1, 0] ann51
noncomputable def f51c37 : Code := subCode [1, 1, 1, 1, 1] (bodyOf Try.prog 51)
def f51a37 : Ann := subAnn [1, 1, 1, 1, 1] ann51
noncomputable def f51c38 : Code := subCode [1, 1, 1, 1, 1, 0] (bodyOf Try.prog 51)
def f51a38 : Ann := subAnn [1, 1, 1, 1, 1, 0] ann51
noncomputable def f51c39 : Code := subCode [1, 1, 1, 1, 1, 1] (bodyOf Try.prog 51)
def f51a39 : Ann := subAnn [1, 1, 1, 1, 1, 1] ann51
noncomputable def f51L17 {R : Type} (call : Bool → CallF R) (dem : Bool) (N : Nat) : KF R → Env → St → Option R := fun K e σ => runK Try.prog call dem N f51c18 f51a18 K e σ
def f51e0 (y0 : Option (Nat × Nat)) (y1 : Int) (y2 : Int) : Env := AV.ptr y0 :: AV.int IntKind.i64 y1 :: AV.int IntKind.i64 y2 :: Env.sp 46 []
def f51e1 (y0 : Option (Nat × Nat)) (y1 : Int) (y2 : Int) (y3 : Int) : Env := AV.ptr y0 :: AV.int IntKind.i64 y1 :: AV.int IntKind.i64 y2 :: Env.sp 3 (AV.int IntKind.i64 y3 :: Env.sp 42 [])
def f51e2 (y0 : Option (Nat × Nat)) (y1 : Int) (y2 : Int) (y3 : Int) (y4 : Option (Nat × Nat)) (y5 : Int) (y6 : Int) (y7 : Int) : Env := AV.ptr y0 :: AV.int IntKind.i64 y1 :: AV.int IntKind.i64 y2 :: Env.sp 4 (AV.int IntKind.i64 y3 :: Env.sp 2 (AV.ptr y4 :: AV.int IntKind.i64 y5 :: AV.int IntKind.i64 y6 :: AV.int IntKind.i64 y7 :: Env.sp 35 []))
def f51e3 (y0 : Option (Nat × Nat)) (y1 : Int) (y2 : Int) (y3 : Int) : Env := AV.ptr y0 :: AV.int IntKind.i64 y1 :: AV.int IntKind.i64 y2 :: Env.sp 4 (AV.int IntKind.i64 y3 :: Env.sp 41 [])
def f51e4 (y0 : Option (Nat × Nat)) (y1 : Int) (y2 : Int) (y3 : Int) (y4 : Int) (y5 : Bool) : Env := AV.ptr y0 :: AV.int IntKind.i64 y1 :: AV.int IntKind.i64 y2 :: Env.sp 4 (AV.int IntKind.i64 y3 :: Env.sp 6 (AV.int IntKind.i64 y4 :: AV.bool y5 :: Env.sp 33 []))
def f51e5 (y0 : Option (Nat × Nat)) (y1 : Int) (y2 : Int) (y3 : Int) (y4 : Bool) : Env := AV.ptr y0 :: AV.int IntKind.i64 y1 :: AV.int IntKind.i64 y2 :: Env.sp 4 (AV.int IntKind.i64 y3 :: Env.sp 7 (AV.bool y4 :: Env.sp 33 []))
def f51e6 (y0 : Option (Nat × Nat)) (y1 : Int) (y2 : Int) (y3 : Int) (y4 : Int) (y5 : Bool) (y6 : Int) : Env := AV.ptr y0 :: AV.int IntKind.i64 y1 :: AV.int IntKind.i64 y2 :: Env.sp 3 (AV.int IntKind.i64 y3 :: AV.int IntKind.i64 y4 :: Env.sp 7 (AV.bool y5 :: AV.int IntKind.i64 y6 :: Env.sp 32 []))
def f51e7 (y0 : Int) : Env := Env.sp 6 (AV.int IntKind.i64 y0 :: Env.sp 42 [])
def f51e8 (y0 : Option (Nat × Nat)) (y1 : Int) (y2 : Int) (y3 : Option (Nat × Nat)) (y4 : Option (Nat × Nat)) (y5 : Option (Nat × Nat)) (y6 : Option (Nat × Nat)) (y7 : Nat) (y8 : Option Nat) (y9 : Int) (y10 : Int) : Env := AV.ptr y0 :: AV.int IntKind.i64 y1 :: AV.int IntKind.i64 y2 :: Env.sp 14 (AV.ptr y3 :: AV.ptr y4 :: AV.ptr y5 :: AV.slice y6 y7 y8 (3 : Nat) :: AV.int IntKind.i64 y9 :: AV.int IntKind.i64 y10 :: Env.sp 26 [])
def f51e9 (y0 : Option (Nat × Nat)) (y1 : Int) (y2 : Int) (y3 : Option (Nat × Nat)) (y4 : Nat) (y5 : Option Nat) (y6 : Int) (y7 : Int) : Env := AV.ptr y0 :: AV.int IntKind.i64 y1 :: AV.int IntKind.i64 y2 :: Env.sp 17 (AV.slice y3 y4 y5 (3 : Nat) :: AV.int IntKind.i64 y6 :: AV.int IntKind.i64 y7 :: Env.sp 26 [])
def f51e10 (y0 : Option (Nat × Nat)) (y1 : Int) (y2 : Int) (y3 : Option (Nat × Nat)) (y4 : Nat) (y5 : Option Nat) (y6 : Int) (y7 : Int) (y8 : Bool) : Env := AV.ptr y0 :: AV.int IntKind.i64 y1 :: AV.int IntKind.i64 y2 :: Env.sp 17 (AV.slice y3 y4 y5 (3 : Nat) :: AV.int IntKind.i64 y6 :: AV.int IntKind.i64 y7 :: AV.bool y8 :: Env.sp 25 [])
def f51e11 (y0 : Option (Nat × Nat)) (y1 : Int) (y2 : Int) (y3 : Nat) (y4 : Option (Nat × Nat)) (y5 : Nat) (y6 : Option Nat) (y7 : Int) (y8 : Int) (y9 : Option (Nat × Nat)) (y10 : Int) (y11 : Int) (y12 : ByteArray) : Env := AV.ptr y0 :: AV.int IntKind.i64 y1 :: AV.int IntKind.i64 y2 :: Env.sp 6 (AV.ptr (some (y3, (0 : Nat))) :: Env.sp 10 (AV.slice y4 y5 y6 (3 : Nat) :: AV.int IntKind.i64 y7 :: AV.int IntKind.i64 y8 :: Env.sp 1 (AV.ptr y9 :: AV.agg [AV.int IntKind.i64 y10, AV.int IntKind.i64 y11, AV.str y12] :: Env.sp 23 [])))
def f51e12 (y0 : Option (Nat × Nat)) (y1 : Int) (y2 : Int) (y3 : Nat) (y4 : Option (Nat × Nat)) (y5 : Nat) (y6 : Option Nat) (y7 : Int) (y8 : Int) : Env := AV.ptr y0 :: AV.int IntKind.i64 y1 :: AV.int IntKind.i64 y2 :: Env.sp 6 (AV.ptr (some (y3, (0 : Nat))) :: Env.sp 10 (AV.slice y4 y5 y6 (3 : Nat) :: AV.int IntKind.i64 y7 :: AV.int IntKind.i64 y8 :: Env.sp 26 []))
def f51e13 (y0 : Option (Nat × Nat)) (y1 : Int) (y2 : Int) (y3 : Nat) (y4 : Option (Nat × Nat)) (y5 : Nat) (y6 : Option Nat) (y7 : Int) (y8 : Int) (y9 : Nat) (y10 : Int) (y11 : Int) (y12 : Bool) (y13 : Bool) (y14 : Nat) (y15 : Int) (y16 : Int) (y17 : Bool) (y18 : Bool) : Env := AV.ptr y0 :: AV.int IntKind.i64 y1 :: AV.int IntKind.i64 y2 :: Env.sp 6 (AV.ptr (some (y3, (0 : Nat))) :: Env.sp 10 (AV.slice y4 y5 y6 (3 : Nat) :: AV.int IntKind.i64 y7 :: AV.int IntKind.i64 y8 :: Env.sp 3 (AV.ptr (some (y9, (0 : Nat))) :: AV.int IntKind.i64 y10 :: AV.int IntKind.i64 y11 :: AV.bool y12 :: AV.bool y13 :: AV.ptr (some (y14, (1 : Nat))) :: AV.int IntKind.i64 y15 :: AV.int IntKind.i64 y16 :: AV.bool y17 :: AV.bool y18 :: Env.sp 13 [])))
def f51e14 (y0 : Option (Nat × Nat)) (y1 : Int) (y2 : Int) (y3 : Nat) (y4 : Option (Nat × Nat)) (y5 : Nat) (y6 : Option Nat) (y7 : Int) (y8 : Int) (y9 : Nat) (y10 : Int) (y11 : Int) (y12 : Bool) (y13 : Bool) (y14 : Bool) : Env := AV.ptr y0 :: AV.int IntKind.i64 y1 :: AV.int IntKind.i64 y2 :: Env.sp 6 (AV.ptr (some (y3, (0 : Nat))) :: Env.sp 10 (AV.slice y4 y5 y6 (3 : Nat) :: AV.int IntKind.i64 y7 :: AV.int IntKind.i64 y8 :: Env.sp 3 (AV.ptr (some (y9, (0 : Nat))) :: AV.int IntKind.i64 y10 :: AV.int IntKind.i64 y11 :: AV.bool y12 :: AV.bool y13 :: AV.tuple [] :: AV.tuple [] :: AV.tuple [] :: AV.tuple [] :: AV.bool y14 :: Env.sp 13 [])))
def f51e15 (y0 : Option (Nat × Nat)) (y1 : Int) (y2 : Int) (y3 : Option (Nat × Nat)) (y4 : Nat) (y5 : Option Nat) (y6 : Int) (y7 : Int) (y8 : Bool) : Env := AV.ptr y0 :: AV.int IntKind.i64 y1 :: AV.int IntKind.i64 y2 :: Env.sp 17 (AV.slice y3 y4 y5 (3 : Nat) :: AV.int IntKind.i64 y6 :: AV.int IntKind.i64 y7 :: Env.sp 12 (AV.bool y8 :: Env.sp 13 []))
def f51e16 (y0 : Option (Nat × Nat)) (y1 : Int) (y2 : Int) (y3 : Int) (y4 : Option (Nat × Nat)) (y5 : Nat) (y6 : Option Nat) (y7 : Int) (y8 : Int) (y9 : Bool) : Env := AV.ptr y0 :: AV.int IntKind.i64 y1 :: AV.int IntKind.i64 y2 :: Env.sp 3 (AV.int IntKind.i64 y3 :: Env.sp 13 (AV.slice y4 y5 y6 (3 : Nat) :: AV.int IntKind.i64 y7 :: AV.int IntKind.i64 y8 :: Env.sp 12 (AV.bool y9 :: Env.sp 13 [])))
def f51e17 (y0 : Option (Nat × Nat)) (y1 : Int) (y2 : Int) (y3 : Option (Nat × Nat)) (y4 : Nat) (y5 : Option Nat) (y6 : Int) (y7 : Int) (y8 : Int) : Env := AV.ptr y0 :: AV.int IntKind.i64 y1 :: AV.int IntKind.i64 y2 :: Env.sp 17 (AV.slice y3 y4 y5 (3 : Nat) :: AV.int IntKind.i64 y6 :: AV.int IntKind.i64 y7 :: Env.sp 13 (AV.int IntKind.i64 y8 :: Env.sp 12 []))
def f51e18 (y0 : Option (Nat × Nat)) (y1 : Int) (y2 : Int) (y3 : Option (Nat × Nat)) (y4 : Option (Nat × Nat)) (y5 : Option (Nat × Nat)) (y6 : Option (Nat × Nat)) (y7 : Option (Nat × Nat)) (y8 : Nat) (y9 : Option Nat) (y10 : Int) (y11 : Int) (y12 : Int) (y13 : Int) (y14 : ByteArray) (y15 : Option (Nat × Nat)) (y16 : Nat) (y17 : Option Nat) (y18 : Option (Nat × Nat)) (y19 : Nat) (y20 : Option Nat) (y21 : Option (Nat × Nat)) (y22 : Option (Nat × Nat)) : Env := AV.ptr y0 :: AV.int IntKind.i64 y1 :: AV.int IntKind.i64 y2 :: Env.sp 34 (AV.ptr y3 :: AV.ptr y4 :: AV.ptr y5 :: AV.ptr y6 :: AV.slice y7 y8 y9 (3 : Nat) :: AV.int IntKind.i64 y10 :: AV.int IntKind.i64 y11 :: AV.agg [AV.int IntKind.i64 y12, AV.int IntKind.i64 y13, AV.str y14] :: AV.slice y15 y16 y17 (3 : Nat) :: AV.slice y18 y19 y20 (3 : Nat) :: AV.ptr y21 :: AV.ptr y22 :: [])
def f51e19 : Env := Env.sp 49 []

/- function 51 -/
theorem f51_eq {R : Type} (call : Bool → CallF R) (dem : Bool) (N : Nat) (y0 : Option (Nat × Nat)) (y1 : Int) (y2 : Int) (σ : St) (K : AV → St → Option R) :
    bodyK Try.prog call dem N ann 51 [AV.ptr y0, AV.int IntKind.i64 y1, AV.int IntKind.i64 y2] σ K = runK Try.prog call dem N f51c0 f51a0 (bodyC Try.prog f51rs K) (f51e0 y0 y1 y2) σ := bodyK_of (fn := ((Try.prog.funcs[51]?).get rfl)) (by kernel_rfl) (by kernel_rfl) (by kernel_rfl) (by kernel_rfl) (by kernel_rfl) (by kernel_rfl)
theorem f51n0 {R : Type} (call : Bool → CallF R) (dem : Bool) (N : Nat) (J : KF R) (e : Env) (σ : St) : runK Try.prog call dem N f51c0 f51a0 J e σ = runK Try.prog call dem N f51c1 f51a1 (seqC (fun K e σ => runK Try.prog call dem N f51c2 f51a2 K e σ) f51a0 J) e σ := runK_seq' (by kernel_rfl) (by kernel_rfl) (by kernel_rfl)
theorem f51r1_f51e0 {R : Type} (call : Bool → CallF R) (dem : Bool) (N : Nat) (y0 : Option (Nat × Nat)) (y1 : Int) (y2 : Int) (J : KF R) (σ : St) :
    runK Try.prog call dem N f51c1 f51a1 J (f51e0 y0 y1 y2) σ =
J Ex.normal (f51e1 y0 y1 y2 (0 : Int)) σ := hide (by kernel_rfl)
theorem f51z0_f51e1 (y0 : Option (Nat × Nat)) (y1 : Int) (y2 : Int) (y3 : Int) : Ann.clr f51a0 (f51e1 y0 y1 y2 y3) = f51e0 y0 y1 y2 := hide (by kernel_rfl)
theorem f51n2 {R : Type} (call : Bool → CallF R) (dem : Bool) (N : Nat) (J : KF R) (e : Env) (σ : St) : runK Try.prog call dem N f51c2 f51a2 J e σ = runK Try.prog call dem N f51c3 f51a3 (seqC (fun K e σ => runK Try.prog call dem N f51c4 f51a4 K e σ) f51a2 J) e σ := runK_seq' (by kernel_rfl) (by kernel_rfl) (by kernel_rfl)
theorem f51r3_f51e0 {R : Type} (call : Bool → CallF R) (dem : Bool) (N : Nat) (y0 : Option (Nat × Nat)) (y1 : Int) (y2 : Int) (J : KF R) (σ : St) :
    runK Try.prog call dem N f51c3 f51a3 J (f51e0 y0 y1 y2) σ =
call dem (56 : Nat) [AV.ptr y0, AV.int IntKind.i64 y1, AV.int IntKind.i64 y2] σ fun v0 v1 =>
  Option.bind (AV.toInt IntKind.i64 v0) fun v2 => J Ex.normal (f51e2 y0 y1 y2 v2 y0 y1 y2 v2) v1 := hide (by kernel_rfl)
theorem f51z2_f51e2 (y0 : Option (Nat × Nat)) (y1 : Int) (y2 : Int) (y3 : Int) (y4 : Option (Nat × Nat)) (y5 : Int) (y6 : Int) (y7 : Int) : Ann.clr f51a2 (f51e2 y0 y1 y2 y3 y4 y5 y6 y7) = f51e3 y0 y1 y2 y3 := hide (by kernel_rfl)
theorem f51n4 {R : Type} (call : Bool → CallF R) (dem : Bool) (N : Nat) (J : KF R) (e : Env) (σ : St) : runK Try.prog call dem N f51c4 f51a4 J e σ = runK Try.prog call dem N f51c5 f51a5 (seqC (fun K e σ => runK Try.prog call dem N f51c6 f51a6 K e σ) f51a4 J) e σ := runK_seq' (by kernel_rfl) (by kernel_rfl) (by kernel_rfl)
theorem f51n5 {R : Type} (call : Bool → CallF R) (dem : Bool) (N : Nat) (J : KF R) (e : Env) (σ : St) : runK Try.prog call dem N f51c5 f51a5 J e σ = runK Try.prog call dem N f51c7 f51a7 (seqC (fun K e σ => runK Try.prog call dem N f51c8 f51a8 K e σ) f51a5 J) e σ := runK_seq' (by kernel_rfl) (by kernel_rfl) (by kernel_rfl)
theorem f51r7_f51e3 {R : Type} (call : Bool → CallF R) (dem : Bool) (N : Nat) (y0 : Option (Nat × Nat)) (y1 : Int) (y2 : Int) (y3 : Int) (J : KF R) (σ : St) :
    runK Try.prog call dem N f51c7 f51a7 J (f51e3 y0 y1 y2 y3) σ =
J Ex.normal (f51e4 y0 y1 y2 y3 y3 (y3 != (0 : Int))) σ := hide (by kernel_rfl)
theorem f51z5_f51e4 (y0 : Option (Nat × Nat)) (y1 : Int) (y2 : Int) (y3 : Int) (y4 : Int) (y5 : Bool) : Ann.clr f51a5 (f51e4 y0 y1 y2 y3 y4 y5) = f51e5 y0 y1 y2 y3 y5 := hide (by kernel_rfl)
theorem f51x8_f51e5 {R : Type} (call : Bool → CallF R) (dem : Bool) (N : Nat) (y0 : Option (Nat × Nat)) (y1 : Int) (y2 : Int) (y3 : Int) (y4 : Bool) (J : KF R) (σ : St) : runK Try.prog call dem N f51c8 f51a8 J (f51e5 y0 y1 y2 y3 y4) σ = if y4 = true then runK Try.prog call dem N f51c9 f51a9 (condC f51a8 J) (f51e5 y0 y1 y2 y3 y4) σ else runK Try.prog call dem N f51c10 f51a10 (condC f51a8 J) (f51e5 y0 y1 y2 y3 y4) σ := runK_cond' (o := Operand.tmp (15 : Nat)) (by kernel_rfl) (by kernel_rfl) (by kernel_rfl) (by kernel_rfl)
theorem f51n9 {R : Type} (call : Bool → CallF R) (dem : Bool) (N : Nat) (J : KF R) (e : Env) (σ : St) : runK Try.prog call dem N f51c9 f51a9 J e σ = runK Try.prog call dem N f51c11 f51a11 (seqC (fun K e σ => runK Try.prog call dem N f51c12 f51a12 K e σ) f51a9 J) e σ := runK_seq' (by kernel_rfl) (by kernel_rfl) (by kernel_rfl)
theorem f51r11_f51e5 {R : Type} (call : Bool → CallF R) (dem : Bool) (N : Nat) (y0 : Option (Nat × Nat)) (y1 : Int) (y2 : Int) (y3 : Int) (y4 : Bool) (J : KF R) (σ : St) :
    runK Try.prog call dem N f51c11 f51a11 J (f51e5 y0 y1 y2 y3 y4) σ =
J Ex.normal (f51e6 y0 y1 y2 y3 y3 y4 y3) σ := hide (by kernel_rfl)
theorem f51z9_f51e6 (y0 : Option (Nat × Nat)) (y1 : Int) (y2 : Int) (y3 : Int) (y4 : Int) (y5 : Bool) (y6 : Int) : Ann.clr f51a9 (f51e6 y0 y1 y2 y3 y4 y5 y6) = f51e7 y3 := hide (by kernel_rfl)
theorem f51y12_f51e7 {R : Type} (call : Bool → CallF R) (dem : Bool) (N : Nat) (y0 : Int) (J : KF R) (σ : St) : runK Try.prog call dem N f51c12 f51a12 J (f51e7 y0) σ = J .ret (f51e7 y0) σ := runK_ret' (by kernel_rfl) (by kernel_rfl)
theorem f51n10 {R : Type} (call : Bool → CallF R) (dem : Bool) (N : Nat) (J : KF R) (e : Env) (σ : St) : runK Try.prog call dem N f51c10 f51a10 J e σ = J .normal e σ := runK_skip' (by kernel_rfl)
theorem f51z8_f51e5 (y0 : Option (Nat × Nat)) (y1 : Int) (y2 : Int) (y3 : Int) (y4 : Bool) : Ann.clr f51a8 (f51e5 y0 y1 y2 y3 y4) = f51e0 y0 y1 y2 := hide (by kernel_rfl)
theorem f51z4_f51e0 (y0 : Option (Nat × Nat)) (y1 : Int) (y2 : Int) : Ann.clr f51a4 (f51e0 y0 y1 y2) = f51e0 y0 y1 y2 := hide (by kernel_rfl)
theorem f51n6 {R : Type} (call : Bool → CallF R) (dem : Bool) (N : Nat) (J : KF R) (e : Env) (σ : St) : runK Try.prog call dem N f51c6 f51a6 J e σ = runK Try.prog call dem N f51c13 f51a13 (seqC (fun K e σ => runK Try.prog call dem N f51c14 f51a14 K e σ) f51a6 J) e σ := runK_seq' (by kernel_rfl) (by kernel_rfl) (by kernel_rfl)
theorem f51n13 {R : Type} (call : Bool → CallF R) (dem : Bool) (N : Nat) (J : KF R) (e : Env) (σ : St) : runK Try.prog call dem N f51c13 f51a13 J e σ = runK Try.prog call dem N f51c15 f51a15 (seqC (fun K e σ => runK Try.prog call dem N f51c16 f51a16 K e σ) f51a13 J) e σ := runK_seq' (by kernel_rfl) (by kernel_rfl) (by kernel_rfl)
theorem f51r15_f51e0 {R : Type} (call : Bool → CallF R) (dem : Bool) (N : Nat) (y0 : Option (Nat × Nat)) (y1 : Int) (y2 : Int) (J : KF R) (σ : St) :
    runK Try.prog call dem N f51c15 f51a15 J (f51e0 y0 y1 y2) σ =
Option.bind y0 fun v0 =>
  Option.bind (St.ld σ (Prod.fst v0) (Prod.snd v0 + (1 : Nat))) fun v1 =>
    Option.bind (AV.toSl (3 : Nat) v1) fun v2 =>
      J Ex.normal
        (f51e8 y0 y1 y2 y0 (some v0) (some (Prod.fst v0, Prod.snd v0 + (1 : Nat))) (Sl.o v2) (Sl.len v2) (Sl.cap v2) (↑(Sl.len v2) : Int) (0 : Int)) σ := hide (by kernel_rfl)
theorem f51z13_f51e8 (y0 : Option (Nat × Nat)) (y1 : Int) (y2 : Int) (y3 : Option (Nat × Nat)) (y4 : Option (Nat × Nat)) (y5 : Option (Nat × Nat)) (y6 : Option (Nat × Nat)) (y7 : Nat) (y8 : Option Nat) (y9 : Int) (y10 : Int) : Ann.clr f51a13 (f51e8 y0 y1 y2 y3 y4 y5 y6 y7 y8 y9 y10) = f51e9 y0 y1 y2 y6 y7 y8 y9 y10 := hide (by kernel_rfl)
theorem f51n16 {R : Type} (call : Bool → CallF R) (dem : Bool) (N : Nat) (J : KF R) (e : Env) (σ : St) : runK Try.prog call dem N f51c16 f51a16 J e σ = runK Try.prog call dem N f51c17 f51a17 (blockC 0 f51a16 J) e σ := runK_block' (by kernel_rfl) (by kernel_rfl)
theorem f51L17_eq {R : Type} (call : Bool → CallF R) (dem : Bool) (N : Nat) (J : KF R) (e : Env) (σ : St) : f51L17 call dem N J e σ = runK Try.prog call dem N f51c18 f51a18 J e σ := hide rfl
theorem f51z17_f51e9 (y0 : Option (Nat × Nat)) (y1 : Int) (y2 : Int) (y3 : Option (Nat × Nat)) (y4 : Nat) (y5 : Option Nat) (y6 : Int) (y7 : Int) : Ann.clr f51a17 (f51e9 y0 y1 y2 y3 y4 y5 y6 y7) = f51e9 y0 y1 y2 y3 y4 y5 y6 y7 := hide (by kernel_rfl)
theorem f51l17_f51e9 {R : Type} (call : Bool → CallF R) (dem : Bool) (N : Nat) (y0 : Option (Nat × Nat)) (y1 : Int) (y2 : Int) (y3 : Option (Nat × Nat)) (y4 : Nat) (y5 : Option Nat) (y6 : Int) (y7 : Int) (J : KF R) (σ : St) : runK Try.prog call dem N f51c17 f51a17 J (f51e9 y0 y1 y2 y3 y4 y5 y6 y7) σ = loopK (f51L17 call dem N) f51a17 N J (f51e9 y0 y1 y2 y3 y4 y5 y6 y7) σ := runK_loop' (by kernel_rfl) (by kernel_rfl) (by kernel_rfl)
theorem f51n18 {R : Type} (call : Bool → CallF R) (dem : Bool) (N : Nat) (J : KF R) (e : Env) (σ : St) : runK Try.prog call dem N f51c18 f51a18 J e σ = runK Try.prog call dem N f51c19 f51a19 (seqC (fun K e σ => runK Try.prog call dem N f51c20 f51a20 K e σ) f51a18 J) e σ := runK_seq' (by kernel_rfl) (by kernel_rfl) (by kernel_rfl)
theorem f51r19_f51e9 {R : Type} (call : Bool → CallF R) (dem : Bool) (N : Nat) (y0 : Option (Nat × Nat)) (y1 : Int) (y2 : Int) (y3 : Option (Nat × Nat)) (y4 : Nat) (y5 : Option Nat) (y6 : Int) (y7 : Int) (J : KF R) (σ : St) :
    runK Try.prog call dem N f51c19 f51a19 J (f51e9 y0 y1 y2 y3 y4 y5 y6 y7) σ =
J Ex.normal (f51e10 y0 y1 y2 y3 y4 y5 y6 y7 (decide (y7 < y6))) σ := hide (by kernel_rfl)
theorem f51z18_f51e10 (y0 : Option (Nat × Nat)) (y1 : Int) (y2 : Int) (y3 : Option (Nat × Nat)) (y4 : Nat) (y5 : Option Nat) (y6 : Int) (y7 : Int) (y8 : Bool) : Ann.clr f51a18 (f51e10 y0 y1 y2 y3 y4 y5 y6 y7 y8) = f51e10 y0 y1 y2 y3 y4 y5 y6 y7 y8 := hide (by kernel_rfl)
theorem f51n20 {R : Type} (call : Bool → CallF R) (dem : Bool) (N : Nat) (J : KF R) (e : Env) (σ : St) : runK Try.prog call dem N f51c20 f51a20 J e σ = runK Try.prog call dem N f51c21 f51a21 (seqC (fun K e σ => runK Try.prog call dem N f51c22 f51a22 K e σ) f51a20 J) e σ := runK_seq' (by kernel_rfl) (by kernel_rfl) (by kernel_rfl)
theorem f51x21_f51e10 {R : Type} (call : Bool → CallF R) (dem : Bool) (N : Nat) (y0 : Option (Nat × Nat)) (y1 : Int) (y2 : Int) (y3 : Option (Nat × Nat)) (y4 : Nat) (y5 : Option Nat) (y6 : Int) (y7 : Int) (y8 : Bool) (J : KF R) (σ : St) : runK Try.prog call dem N f51c21 f51a21 J (f51e10 y0 y1 y2 y3 y4 y5 y6 y7 y8) σ = if y8 = true then runK Try.prog call dem N f51c23 f51a23 (condC f51a21 J) (f51e10 y0 y1 y2 y3 y4 y5 y6 y7 y8) σ else runK Try.prog call dem N f51c24 f51a24 (condC f51a21 J) (f51e10 y0 y1 y2 y3 y4 y5 y6 y7 y8) σ := runK_cond' (o := Operand.tmp (23 : Nat)) (by kernel_rfl) (by kernel_rfl) (by kernel_rfl) (by kernel_rfl)
theorem f51n23 {R : Type} (call : Bool → CallF R) (dem : Bool) (N : Nat) (J : KF R) (e : Env) (σ : St) : runK Try.prog call dem N f51c23 f51a23 J e σ = J .normal e σ := runK_skip' (by kernel_rfl)
theorem f51z21_f51e10 (y0 : Option (Nat × Nat)) (y1 : Int) (y2 : Int) (y3 : Option (Nat × Nat)) (y4 : Nat) (y5 : Option Nat) (y6 : Int) (y7 : Int) (y8 : Bool) : Ann.clr f51a21 (f51e10 y0 y1 y2 y3 y4 y5 y6 y7 y8) = f51e9 y0 y1 y2 y3 y4 y5 y6 y7 := hide (by kernel_rfl)
theorem f51y24_f51e10 {R : Type} (call : Bool → CallF R) (dem : Bool) (N : Nat) (y0 : Option (Nat × Nat)) (y1 : Int) (y2 : Int) (y3 : Option (Nat × Nat)) (y4 : Nat) (y5 : Option Nat) (y6 : Int) (y7 : Int) (y8 : Bool) (J : KF R) (σ : St) : runK Try.prog call dem N f51c24 f51a24 J (f51e10 y0 y1 y2 y3 y4 y5 y6 y7 y8) σ = J (.exit 0) (f51e0 y0 y1 y2) σ := runK_exit' (by kernel_rfl) (by kernel_rfl)
theorem f51z20_f51e9 (y0 : Option (Nat × Nat)) (y1 : Int) (y2 : Int) (y3 : Option (Nat × Nat)) (y4 : Nat) (y5 : Option Nat) (y6 : Int) (y7 : Int) : Ann.clr f51a20 (f51e9 y0 y1 y2 y3 y4 y5 y6 y7) = f51e9 y0 y1 y2 y3 y4 y5 y6 y7 := hide (by kernel_rfl)
theorem f51n22 {R : Type} (call : Bool → CallF R) (dem : Bool) (N : Nat) (J : KF R) (e : Env) (σ : St) : runK Try.prog call dem N f51c22 f51a22 J e σ = runK Try.prog call dem N f51c25 f51a25 (seqC (fun K e σ => runK Try.prog call dem N f51c26 f51a26 K e σ) f51a22 J) e σ := runK_seq' (by kernel_rfl) (by kernel_rfl) (by kernel_rfl)
theorem f51n25 {R : Type} (call : Bool → CallF R) (dem : Bool) (N : Nat) (J : KF R) (e : Env) (σ : St) : runK Try.prog call dem N f51c25 f51a25 J e σ = runK Try.prog call dem N f51c27 f51a27 (blockC 1 f51a25 J) e σ := runK_block' (by kernel_rfl) (by kernel_rfl)
theorem f51n27 {R : Type} (call : Bool → CallF R) (dem : Bool) (N : Nat) (J : KF R) (e : Env) (σ : St) : runK Try.prog call dem N f51c27 f51a27 J e σ = runK Try.prog call dem N f51c28 f51a28 (seqC (fun K e σ => runK Try.prog call dem N f51c29 f51a29 K e σ) f51a27 J) e σ := runK_seq' (by kernel_rfl) (by kernel_rfl) (by kernel_rfl)
theorem f51r28_f51e9 {R : Type} (call : Bool → CallF R) (dem : Bool) (N : Nat) (y0 : Option (Nat × Nat)) (y1 : Int) (y2 : Int) (y3 : Option (Nat × Nat)) (y4 : Nat) (y5 : Option Nat) (y6 : Int) (y7 : Int) (J : KF R) (σ : St) :
    runK Try.prog call dem N f51c28 f51a28 J (f51e9 y0 y1 y2 y3 y4 y5 y6 y7) σ =
if (0 : Int) ≤ y7 ∧ y7 < (↑y4 : Int) then
  Option.bind y3 fun v0 =>
    Option.bind (St.ld σ (Prod.fst v0) (Prod.snd v0 + Int.toNat y7 * (3 : Nat))) fun v1 =>
      Option.bind (AV.toInt IntKind.i64 v1) fun v2 =>
        Option.bind (St.ld σ (Prod.fst v0) (Prod.snd v0 + Int.toNat y7 * (3 : Nat) + (1 : Nat))) fun v3 =>
          Option.bind (AV.toInt IntKind.i64 v3) fun v4 =>
            Option.bind (St.ld σ (Prod.fst v0) (Prod.snd v0 + Int.toNat y7 * (3 : Nat) + (2 : Nat))) fun v5 =>
              Option.bind (AV.toStr v5) fun v6 =>
                Option.bind
                  (St.st (St.new σ (Blk.cells [AV.int IntKind.i64 (0 : Int), AV.int IntKind.i64 (0 : Int), AV.str (ByteArray.mk #[])] true))
                    (St.next σ) (0 : Nat) [AV.int IntKind.i64 v2, AV.int IntKind.i64 v4, AV.str v6])
                  fun v7 =>
                  J Ex.normal (f51e11 y0 y1 y2 (St.next σ) y3 y4 y5 y6 y7 (some (Prod.fst v0, Prod.snd v0 + Int.toNat y7 * (3 : Nat))) v2 v4 v6) v7
else none := hide (by kernel_rfl)
theorem f51z27_f51e11 (y0 : Option (Nat × Nat)) (y1 : Int) (y2 : Int) (y3 : Nat) (y4 : Option (Nat × Nat)) (y5 : Nat) (y6 : Option Nat) (y7 : Int) (y8 : Int) (y9 : Option (Nat × Nat)) (y10 : Int) (y11 : Int) (y12 : ByteArray) : Ann.clr f51a27 (f51e11 y0 y1 y2 y3 y4 y5 y6 y7 y8 y9 y10 y11 y12) = f51e12 y0 y1 y2 y3 y4 y5 y6 y7 y8 := hide (by kernel_rfl)
theorem f51n29 {R : Type} (call : Bool → CallF R) (dem : Bool) (N : Nat) (J : KF R) (e : Env) (σ : St) : runK Try.prog call dem N f51c29 f51a29 J e σ = runK Try.prog call dem N f51c30 f51a30 (seqC (fun K e σ => runK Try.prog call dem N f51c31 f51a31 K e σ) f51a29 J) e σ := runK_seq' (by kernel_rfl) (by kernel_rfl) (by kernel_rfl)
theorem f51r30_f51e12 {R : Type} (call : Bool → CallF R) (dem : Bool) (N : Nat) (y0 : Option (Nat × Nat)) (y1 : Int) (y2 : Int) (y3 : Nat) (y4 : Option (Nat × Nat)) (y5 : Nat) (y6 : Option Nat) (y7 : Int) (y8 : Int) (J : KF R) (σ : St) :
    runK Try.prog call dem N f51c30 f51a30 J (f51e12 y0 y1 y2 y3 y4 y5 y6 y7 y8) σ =
Option.bind (St.ld σ y3 (0 : Nat)) fun v0 =>
  Option.bind (AV.toInt IntKind.i64 v0) fun v1 =>
    if (v1 == y1) = true then
      Option.bind (St.ld σ y3 (1 : Nat)) fun v2 =>
        Option.bind (AV.toInt IntKind.i64 v2) fun v3 =>
          J Ex.normal (f51e13 y0 y1 y2 y3 y4 y5 y6 y7 y8 y3 v1 y1 (v1 == y1) true y3 v3 y2 (v3 == y2) (v3 == y2)) σ
    else J Ex.normal (f51e14 y0 y1 y2 y3 y4 y5 y6 y7 y8 y3 v1 y1 (v1 == y1) false false) σ := hide (by kernel_rfl)
theorem f51z29_f51e13 (y0 : Option (Nat × Nat)) (y1 : Int) (y2 : Int) (y3 : Nat) (y4 : Option (Nat × Nat)) (y5 : Nat) (y6 : Option Nat) (y7 : Int) (y8 : Int) (y9 : Nat) (y10 : Int) (y11 : Int) (y12 : Bool) (y13 : Bool) (y14 : Nat) (y15 : Int) (y16 : Int) (y17 : Bool) (y18 : Bool) : Ann.clr f51a29 (f51e13 y0 y1 y2 y3 y4 y5 y6 y7 y8 y9 y10 y11 y12 y13 y14 y15 y16 y17 y18) = f51e15 y0 y1 y2 y4 y5 y6 y7 y8 y18 := hide (by kernel_rfl)
theorem f51x31_f51e15 {R : Type} (call : Bool → CallF R) (dem : Bool) (N : Nat) (y0 : Option (Nat × Nat)) (y1 : Int) (y2 : Int) (y3 : Option (Nat × Nat)) (y4 : Nat) (y5 : Option Nat) (y6 : Int) (y7 : Int) (y8 : Bool) (J : KF R) (σ : St) : runK Try.prog call dem N f51c31 f51a31 J (f51e15 y0 y1 y2 y3 y4 y5 y6 y7 y8) σ = if y8 = true then runK Try.prog call dem N f51c32 f51a32 (condC f51a31 J) (f51e15 y0 y1 y2 y3 y4 y5 y6 y7 y8) σ else runK Try.prog call dem N f51c33 f51a33 (condC f51a31 J) (f51e15 y0 y1 y2 y3 y4 y5 y6 y7 y8) σ := runK_cond' (o := Operand.tmp (35 : Nat)) (by kernel_rfl) (by kernel_rfl) (by kernel_rfl) (by kernel_rfl)
theorem f51n32 {R : Type} (call : Bool → CallF R) (dem : Bool) (N : Nat) (J : KF R) (e : Env) (σ : St) : runK Try.prog call dem N f51c32 f51a32 J e σ = runK Try.prog call dem N f51c34 f51a34 (seqC (fun K e σ => runK Try.prog call dem N f51c35 f51a35 K e σ) f51a32 J) e σ := runK_seq' (by kernel_rfl) (by kernel_rfl) (by kernel_rfl)
theorem f51r34_f51e15 {R : Type} (call : Bool → CallF R) (dem : Bool) (N : Nat) (y0 : Option (Nat × Nat)) (y1 : Int) (y2 : Int) (y3 : Option (Nat × Nat)) (y4 : Nat) (y5 : Option Nat) (y6 : Int) (y7 : Int) (y8 : Bool) (J : KF R) (σ : St) :
    runK Try.prog call dem N f51c34 f51a34 J (f51e15 y0 y1 y2 y3 y4 y5 y6 y7 y8) σ =
J Ex.normal (f51e16 y0 y1 y2 (0 : Int) y3 y4 y5 y6 y7 y8) σ := hide (by kernel_rfl)
theorem f51z32_f51e16 (y0 : Option (Nat × Nat)) (y1 : Int) (y2 : Int) (y3 : Int) (y4 : Option (Nat × Nat)) (y5 : Nat) (y6 : Option Nat) (y7 : Int) (y8 : Int) (y9 : Bool) : Ann.clr f51a32 (f51e16 y0 y1 y2 y3 y4 y5 y6 y7 y8 y9) = f51e7 y3 := hide (by kernel_rfl)
theorem f51y35_f51e7 {R : Type} (call : Bool → CallF R) (dem : Bool) (N : Nat) (y0 : Int) (J : KF R) (σ : St) : runK Try.prog call dem N f51c35 f51a35 J (f51e7 y0) σ = J .ret (f51e7 y0) σ := runK_ret' (by kernel_rfl) (by kernel_rfl)
theorem f51n33 {R : Type} (call : Bool → CallF R) (dem : Bool) (N : Nat) (J : KF R) (e : Env) (σ : St) : runK Try.prog call dem N f51c33 f51a33 J e σ = J .normal e σ := runK_skip' (by kernel_rfl)
theorem f51z31_f51e15 (y0 : Option (Nat × Nat)) (y1 : Int) (y2 : Int) (y3 : Option (Nat × Nat)) (y4 : Nat) (y5 : Option Nat) (y6 : Int) (y7 : Int) (y8 : Bool) : Ann.clr f51a31 (f51e15 y0 y1 y2 y3 y4 y5 y6 y7 y8) = f51e9 y0 y1 y2 y3 y4 y5 y6 y7 := hide (by kernel_rfl)
theorem f51z29_f51e14 (y0 : Option (Nat × Nat)) (y1 : Int) (y2 : Int) (y3 : Nat) (y4 : Option (Nat × Nat)) (y5 : Nat) (y6 : Option Nat) (y7 : Int) (y8 : Int) (y9 : Nat) (y10 : Int) (y11 : Int) (y12 : Bool) (y13 : Bool) (y14 : Bool) : Ann.clr f51a29 (f51e14 y0 y1 y2 y3 y4 y5 y6 y7 y8 y9 y10 y11 y12 y13 y14) = f51e15 y0 y1 y2 y4 y5 y6 y7 y8 y14 := hide (by kernel_rfl)
theorem f51z25_f51e9 (y0 : Option (Nat × Nat)) (y1 : Int) (y2 : Int) (y3 : Option (Nat × Nat)) (y4 : Nat) (y5 : Option Nat) (y6 : Int) (y7 : Int) : Ann.clr f51a25 (f51e9 y0 y1 y2 y3 y4 y5 y6 y7) = f51e9 y0 y1 y2 y3 y4 y5 y6 y7 := hide (by kernel_rfl)
theorem f51z22_f51e9 (y0 : Option (Nat × Nat)) (y1 : Int) (y2 : Int) (y3 : Option (Nat × Nat)) (y4 : Nat) (y5 : Option Nat) (y6 : Int) (y7 : Int) : Ann.clr f51a22 (f51e9 y0 y1 y2 y3 y4 y5 y6 y7) = f51e9 y0 y1 y2 y3 y4 y5 y6 y7 := hide (by kernel_rfl)
theorem f51r26_f51e9 {R : Type} (call : Bool → CallF R) (dem : Bool) (N : Nat) (y0 : Option (Nat × Nat)) (y1 : Int) (y2 : Int) (y3 : Option (Nat × Nat)) (y4 : Nat) (y5 : Option Nat) (y6 : Int) (y7 : Int) (J : KF R) (σ : St) :
    runK Try.prog call dem N f51c26 f51a26 J (f51e9 y0 y1 y2 y3 y4 y5 y6 y7) σ =
J Ex.normal (f51e17 y0 y1 y2 y3 y4 y5 y6 (IntKind.wrap IntKind.i64 (y7 + (1 : Int))) (IntKind.wrap IntKind.i64 (y7 + (1 : Int)))) σ := hide (by kernel_rfl)
theorem f51z17_f51e17 (y0 : Option (Nat × Nat)) (y1 : Int) (y2 : Int) (y3 : Option (Nat × Nat)) (y4 : Nat) (y5 : Option Nat) (y6 : Int) (y7 : Int) (y8 : Int) : Ann.clr f51a17 (f51e17 y0 y1 y2 y3 y4 y5 y6 y7 y8) = f51e9 y0 y1 y2 y3 y4 y5 y6 y7 := hide (by kernel_rfl)
theorem f51z16_f51e0 (y0 : Option (Nat × Nat)) (y1 : Int) (y2 : Int) : Ann.clr f51a16 (f51e0 y0 y1 y2) = f51e0 y0 y1 y2 := hide (by kernel_rfl)
theorem f51z6_f51e0 (y0 : Option (Nat × Nat)) (y1 : Int) (y2 : Int) : Ann.clr f51a6 (f51e0 y0 y1 y2) = f51e0 y0 y1 y2 := hide (by kernel_rfl)
theorem f51n14 {R : Type} (call : Bool → CallF R) (dem : Bool) (N : Nat) (J : KF R) (e : Env) (σ : St) : runK Try.prog call dem N f51c14 f51a14 J e σ = runK Try.prog call dem N f51c36 f51a36 (seqC (fun K e σ => runK Try.prog call dem N f51c37 f51a37 K e σ) f51a14 J) e σ := runK_seq' (by kernel_rfl) (by kernel_rfl) (by kernel_rfl)
theorem f51r36_f51e0 {R : Type} (call : Bool → CallF R) (dem : Bool) (N : Nat) (y0 : Option (Nat × Nat)) (y1 : Int) (y2 : Int) (J : KF R) (σ : St) :
    runK Try.prog call dem N f51c36 f51a36 J (f51e0 y0 y1 y2) σ =
Option.bind y0 fun v0 =>
  Option.bind (St.ld σ (Prod.fst v0) (Prod.snd v0 + (1 : Nat))) fun v1 =>
    Option.bind (AV.toSl (3 : Nat) v1) fun v2 =>
      Option.bind
        (St.elems (St.new σ (Blk.cells [AV.int IntKind.i64 y1, AV.int IntKind.i64 y2, AV.str (ByteArray.mk #[])] true)) (3 : Nat)
          (Sl.mk (some (St.next σ, (0 : Nat))) (1 : Nat) (some (1 : Nat))) (1 : Nat))
        fun v3 =>
        Option.bind
          (St.app (St.new σ (Blk.cells [AV.int IntKind.i64 y1, AV.int IntKind.i64 y2, AV.str (ByteArray.mk #[])] true)) (3 : Nat) (32 : Nat)
            (Sl.mk (Sl.o v2) (Sl.len v2) (Sl.cap v2)) (1 : Nat) v3)
          fun v4 =>
          Option.bind y0 fun v5 =>
            Option.bind
              (St.st (Prod.snd v4) (Prod.fst v5) (Prod.snd v5 + (1 : Nat))
                [AV.slice (Sl.o (Prod.fst v4)) (Sl.len (Prod.fst v4)) (Sl.cap (Prod.fst v4)) (3 : Nat)])
              fun v6 =>
              J Ex.normal
                (f51e18 y0 y1 y2 y0 y0 (some v0) (some (Prod.fst v0, Prod.snd v0 + (1 : Nat))) (Sl.o v2) (Sl.len v2) (Sl.cap v2) y1 y2 y1 y2
                  (ByteArray.mk #[]) (some (St.next σ, (0 : Nat))) (1 : Nat) (some (1 : Nat)) (Sl.o (Prod.fst v4)) (Sl.len (Prod.fst v4))
                  (Sl.cap (Prod.fst v4)) (some v5) (some (Prod.fst v5, Prod.snd v5 + (1 : Nat))))
                v6 := hide (by kernel_rfl)
theorem f51z14_f51e18 (y0 : Option (Nat × Nat)) (y1 : Int) (y2 : Int) (y3 : Option (Nat × Nat)) (y4 : Option (Nat × Nat)) (y5 : Option (Nat × Nat)) (y6 : Option (Nat × Nat)) (y7 : Option (Nat × Nat)) (y8 : Nat) (y9 : Option Nat) (y10 : Int) (y11 : Int) (y12 : Int) (y13 : Int) (y14 : ByteArray) (y15 : Option (Nat × Nat)) (y16 : Nat) (y17 : Option Nat) (y18 : Option (Nat × Nat)) (y19 : Nat) (y20 : Option Nat) (y21 : Option (Nat × Nat)) (y22 : Option (Nat × Nat)) : Ann.clr f51a14 (f51e18 y0 y1 y2 y3 y4 y5 y6 y7 y8 y9 y10 y11 y12 y13 y14 y15 y16 y17 y18 y19 y20 y21 y22) = f51e19 := hide (by kernel_rfl)
theorem f51n37 {R : Type} (call : Bool → CallF R) (dem : Bool) (N : Nat) (J : KF R) (e : Env) (σ : St) : runK Try.prog call dem N f51c37 f51a37 J e σ = runK Try.prog call dem N f51c38 f51a38 (seqC (fun K e σ => runK Try.prog call dem N f51c39 f51a39 K e σ) f51a37 J) e σ := runK_seq' (by kernel_rfl) (by kernel_rfl) (by kernel_rfl)
theorem f51r38_f51e19 {R : Type} (call : Bool → CallF R) (dem : Bool) (N : Nat) (J : KF R) (σ : St) :
    runK Try.prog call dem N f51c38 f51a38 J (f51e19) σ =
J Ex.normal (f51e7 (0 : Int)) σ := hide (by kernel_rfl)
theorem f51z37_f51e7 (y0 : Int) : Ann.clr f51a37 (f51e7 y0) = f51e7 y0 := hide (by kernel_rfl)
theorem f51y39_f51e7 {R : Type} (call : Bool → CallF R) (dem : Bool) (N : Nat) (y0 : Int) (J : KF R) (σ : St) : runK Try.prog call dem N f51c39 f51a39 J (f51e7 y0) σ = J .ret (f51e7 y0) σ := runK_ret' (by kernel_rfl) (by kernel_rfl)
theorem f51b_f51e7_r {R : Type} (y0 : Int) (σ : St) (K : AV → St → Option R) : bodyC Try.prog f51rs K (Ex.ret) (f51e7 y0) σ =
K (AV.int IntKind.i64 y0) σ := hide (by kernel_rfl)
attribute [go_sem] f51_eq f51n0 f51r1_f51e0 f51z0_f51e1 f51n2 f51r3_f51e0 f51z2_f51e2 f51n4 f51n5 f51r7_f51e3 f51z5_f51e4 f51x8_f51e5 f51n9 f51r11_f51e5 f51z9_f51e6 f51y12_f51e7 f51n10 f51z8_f51e5 f51z4_f51e0 f51n6 f51n13 f51r15_f51e0 f51z13_f51e8 f51n16 f51L17_eq f51z17_f51e9 f51l17_f51e9 f51n18 f51r19_f51e9 f51z18_f51e10 f51n20 f51x21_f51e10 f51n23 f51z21_f51e10 f51y24_f51e10 f51z20_f51e9 f51n22 f51n25 f51n27 f51r28_f51e9 f51z27_f51e11 f51n29 f51r30_f51e12 f51z29_f51e13 f51x31_f51e15 f51n32 f51r34_f51e15 f51z32_f51e16 f51y35_f51e7 f51n33 f51z31_f51e15 f51z29_f51e14 f51z25_f51e9 f51z22_f51e9 f51r26_f51e9 f51z17_f51e17 f51z16_f51e0 f51z6_f51e0 f51n14 f51r36_f51e0 f51z14_f51e18 f51n37 f51r38_f51e19 f51z37_f51e7 f51y39_f51e7 f51b_f51e7_r

noncomputable def f52rs : List ResultVar := [ResultVar.tmp (8 : Nat), ResultVar.tmp (9 : Nat)]
noncomputable def f52c0 : Code := subCode [] (bodyOf Try.prog 52)
def f52a0 : Ann := subAnn [] ann52
noncomputable def f52c1 : Code := subCode [0] (bodyOf Try.prog 52)
def f52a1 : Ann := subAnn [0] ann52
noncomputable def f52c2 : Code := subCode [1] (bodyOf Try.prog 52)
def f52a2 : Ann := subAnn [1] ann52
noncomputable def f52c3 : Code := subCode [1, 0] (bodyOf Try.prog 52)
def f52a3 : Ann := subAnn [1, 0] ann52
noncomputable def f52c4 : Code := subCode [1, 1] (bodyOf Try.prog 52)
def f52a4 : Ann := subAnn [1, 1] ann52
noncomputable def f52c5 : Code := subCode [1, 1, 0] (bodyOf Try.prog 52)
def f52a5 : Ann := subAnn [1, 1, 0] ann52
noncomputable def f52c6 : Code := subCode [1, 1, 1] (bodyOf Try.prog 52)
def f52a6 : Ann := subAnn [1, 1, 1] ann52
noncomputable def f52c7 : Code := subCode [1, 1, 0, 0] (bodyOf Try.prog 52)
def f52a7 : Ann := subAnn [1, 1, 0, 0] ann52
noncomputable def f52c8 : Code := subCode [1, 1, 0, 1] (bodyOf Try.prog 52)
def f52a8 : Ann := subAnn [1, 1, 0, 1] ann52
noncomputable def f52c9 : Code := subCode [1, 1, 0, 1, 0] (bodyOf Try.prog 52)
def f52a9 : Ann := subAnn [1, 1, 0, 1, 0] ann52
noncomputable def f52c10 : Code := subCode [1, 1, 0, 1, 1] (bodyOf Try.prog 52)
def f52a10 : Ann := subAnn [1, 1, 0, 1, 1] ann52
noncomputable def f52c11 : Code := subCode [1, 1, 0, 1, 0, 0] (bodyOf Try.prog 52)
def f52a11 : Ann := subAnn [1, 1, 0, 1, 0, 0] ann52
noncomputable def f52c12 : Code := subCode [1, 1, 0, 1, 0, 1] (bodyOf Try.prog 52)
def f52a12 : Ann := subAnn [1, 1, 0, 1, 0, 1] ann52
noncomputable def f52c13 : Code := subCode [1, 1, 1, 0] (bodyOf Try.prog 52)
def f52a13 : Ann := subAnn [1, 1, 1, 0] ann52
noncomputable def f52c14 : Code := subCode [1, 1, 1, 1] (bodyOf Try.prog 52)
def f52a14 : Ann := subAnn [1, 1, 1, 1] ann52
noncomputable def f52c15 : Code := subCode [1, 1, 1, 1, 0] (bodyOf Try.prog 52)
def f52a15 : Ann := subAnn [1, 1, 1, 1, 0] ann52
noncomputable def f52c16 : Code := subCode [1, 1, 1, 1, 1] (bodyOf Try.prog 52)
def f52a16 : Ann := subAnn [1, 1, 1, 1, 1] ann52
noncomputable def f52c17 : Code := subCode [1, 1, 1, 1, 0, 0] (bodyOf Try.prog 52)
def f52a17 : Ann := subAnn [1, 1, 1, 1, 0, 0] ann52
noncomputable def f52c18 : Code := subCode [1, 1, 1, 1, 0, 1] (bodyOf Try.prog 52)
def f52a18 : Ann := subAnn [1, 1, 1, 1, 0, 1] ann52
noncomputable def f52c19 : Code := subCode [1, 1, 1, 1, 0, 1, 0] (bodyOf Try.prog 52)
def f52a19 : Ann := subAnn [1, 1, 1, 1, 0, 1, 0] ann52
noncomputable def f52c20 : Code := subCode [1, 1, 1, 1, 0, 1, 1] (bodyOf Try.prog 52)
def f52a20 : Ann := subAnn [1, 1, 1, 1, 0, 1, 1] ann52
noncomputable def f52c21 : Code := subCode [1, 1, 1, 1, 0, 1, 0, 0] (bodyOf Try.prog 52)
def f52a21 : Ann := subAnn [1, 1, 1, 1, 0, 1, 0, 0] ann52
noncomputable def f52c22 : Code := subCode [1, 1, 1, 1, 0, 1, 0, 1] (bodyOf Try.prog 52)
def f52a22 : Ann := subAnn [1, 1, 1, 1, 0, 1, 0, 1] ann52
noncomputable def f52c23 : Code := subCode [1, 1, 1, 1, 1, 0] (bodyOf Try.prog 52)
def f52a23 : Ann := subAnn [1, 1, 1, 1, 1, 0] ann52
noncomputable def f52c24 : Code := subCode [1, 1, 1, 1, 1, 1] (bodyOf Try.prog 52)
def f52a24 : Ann := subAnn [1, 1, 1, 1, 1, 1] ann52
noncomputable def f52c25 : Code := subCode [1, 1, 1, 1, 1, 1, 0] (bodyOf Try.prog 52)
def f52a25 : Ann := subAnn [1, 1, 1, 1, 1, 1, 0] ann52
noncomputable def f52c26 : Code := subCode [1, 1, 1, 1, 1, 1, 1] (bodyOf Try.prog 52)
def f52a26 : Ann := subAnn [1, 1, 1, 1, 1, 1, 1] ann52
noncomputable def f52c27 : Code := subCode [1, 1, 1, 1, 1, 1, 0, 0] (bodyOf Try.prog 52)
def f52a27 : Ann := subAnn [1, 1, 1, 1, 1, 1, 0, 0] ann52
noncomputable def f52c28 : Code := subCode [1, 1, 1, 1, 1, 1, 0, 1] (bodyOf Try.prog 52)
def f52a28 : Ann := subAnn [1, 1, 1, 1, 1, 1, 0, 1] ann52
noncomputable def f52c29 : Code := subCode [1, 1, 1, 1, 1, 1, 0, 1, 0] (bodyOf Try.prog 52)
def f52a29 : Ann := subAnn [1, 1, 1, 1, 1, 1, 0, 1, 0] ann52
noncomputable def f52c30 : Code := subCode [1, 1, 1, 1, 1, 1, 0, 1, 0, 0] (bodyOf Try.prog 52)
def f52a30 : Ann := subAnn [1, 1, 1, 1, 1, 1, 0, 1, 0, 0] ann52
noncomputable def f52c31 : Code := subCode [1, 1, 1, 1, 1, 1, 0, 1, 0, 0, 0] (bodyOf Try.prog 52)
def f52a31 : Ann := subAnn [1, 1, 1, 1, 1, 1, 0, 1, 0, 0, 0] ann52
noncomputable def f52c32 : Code := subCode [1, 1, 1, 1, 1, 1, 0, 1, 0, 0, 1] (bodyOf Try.prog 52)
def f52a32 : Ann := subAnn [1, 1, 1, 1, 1, 1, 0, 1, 0, 0, 1] ann52
noncomputable def f52c33 : Code := subCode [1, 1, 1, 1, 1, 1, 0, 1, 0, 0, 1, 0] (bodyOf Try.prog 52)
def f52a33 : Ann := subAnn [1, 1, 1, 1, 1, 1, 0, 1, 0, 0, 1, 0] ann52
noncomputable def f52c34 : Code := subCode [1, 1, 1, 1, 1, 1, 0, 1, 0, 0, 1, 1] (bodyOf Try.prog 52)
def f52a34 : Ann := subAnn [1, 1, 1, 1, 1, 1, 0, 1, 0, 0, 1, 1] ann52
noncomputable def f52c35 : Code := subCode [1, 1, 1, 1, 1, 1, 0, 1, 0, 0, 1, 0, 0] (bodyOf Try.prog 52)
def f52a35 : Ann := subAnn [1, 1, 1, 1, 1, 1, 0, 1, 0, 0, 1, 0, 0] ann52
noncomputable def f52c36 : Code := subCode [1, 1, 1, 1, 1, 1, 0, 1, 0, 0, 1, 0, 1] (bodyOf Try.prog 52)
def f52a36 : Ann := subAnn [1, 1, 1, 1, 1, 1, 0, 1, 0, 0, 1, 0, 1] ann52
noncomputable def f52c37 : Code := subCode [1, 1, 1, 1, 1, 1, 0, 1, 0, 0, 1, 1, 0] (bodyOf Try.prog 52)
def f52a37 : Ann := subAnn [1, 1, 1, 1, 1, 1, 0, 1, 0, 0, 1, 1, 0] ann52
noncomputable def f52c38 : Code := subCode [1, 1, 1, 1, 1, 1, 0, 1, 0, 0, 1, 1, 1] (bodyOf Try.prog 52)
def f52a38 : Ann := subAnn [1, 1, 1, 1, 1, 1, 0, 1, 0, 0, 1, 1, 1] ann52
noncomputable def f52c39 : Code := subCode [1, 1, 1, 1, 1, 1, 0, 1, 0, 0, 1, 1, 0, 0] (bodyOf Try.prog 52)
def f52a39 : Ann := subAnn [1, 1, 1, 1, 1, 1, 0, 1, 0, 0, 1, 1, 0, 0] ann52
noncomputable def f52c40 : Code := subCode [1, 1, 1, 1, 1, 1, 0, 1, 0, 0, 1, 1, 0, 0, 0] (bodyOf Try.prog 52)
def f52a40 : Ann := subAnn [1, 1, 1, 1, 1, 1, 0, 1, 0, 0, 1, 1, 0, 0, 0] ann52
noncomputable def f52c41 : Code := subCode [1, 1, 1, 1, 1, 1, 0, 1, 0, 0, 1, 1, 0, 0, 1] (bodyOf Try.prog 52)
def f52a41 : Ann := subAnn [1, 1, 1, 1, 1, 1, 0, 1, 0, 0, 1, 1, 0, 0, 1] ann52
noncomputable def f52c42 : Code := subCode [1, 1, 1, 1, 1, 1, 0, 1, 0, 0, 1, 1, 0, 0, 1, 0] (bodyOf Try.prog 52)
def f52a42 : Ann := subAnn [1, 1, 1, 1, 1, 1, 0, 1, 0, 0, 1, 1, 0, 0, 1, 0] ann52
noncomputable def f52c43 : Code := subCode [1, 1, 1, 1, 1, 1, 0, 1, 0, 0, 1, 1, 0, 0, 1, 1] (bodyOf Try.prog 52)
def f52a43 : Ann := subAnn [1, 1, 1, 1, 1, 1, 0, 1, 0, 0, 1, 1, 0, 0, 1, 1] ann52
noncomputable def f52c44 : Code := subCode [1, 1, 1, 1, 1, 1, 0, 1, 0, 0, 1, 1, 0, 0, 1, 1, 0] (bodyOf Try.prog 52)
def f52a44 : Ann := subAnn [1, 1, 1, 1, 1, 1, 0, 1, 0, 0, 1, 1, 0, 0, 1, 1, 0] ann52
noncomputable def f52c45 : Code := subCode [1, 1, 1, 1, 1, 1, 0, 1, 0, 0, 1, 1, 0, 0, 1, 1, 1] (bodyOf Try.prog 52)
def f52a45 : Ann := subAnn [1, 1, 1, 1, 1, 1, 0, 1, 0, 0, 1, 1, 0, 0, 1, 1, 1] ann52
noncomputable def f52c46 : Code := subCode [1, 1, 1, 1, 1, 1, 1, 0] (bodyOf Try.prog 52)
def f52a46 : Ann := subAnn [1, 1, 1, 1, 1, 1, 1, 0] ann52
noncomputable def f52c47 : Code := subCode [1, 1, 1, 1, 1, 1, 1, 1] (bodyOf Try.prog 52)
def f52a47 : Ann := subAnn [1, 1, 1, 1, 1, 1, 1, 1] ann52
noncomputable def f52c48 : Code := subCode [1, 1, 1, 1, 1, 1, 1, 1, 0] (bodyOf Try.prog 52)
def f52a48 : Ann := subAnn [1, 1, 1, 1, 1, 1, 1, 1, 0] ann52
noncomputable def f52c49 : Code := subCode [1, 1, 1, 1, 1, 1, 1, 1, 1] (bodyOf Try.prog 52)
def f52a49 : Ann := subAnn [1, 1, 1, 1, 1, 1, 1, 1, 1] ann52
noncomputable def f52c50 : Code := subCode [1, 1, 1, 1, 1, 1, 1, 1, 1, 0] (bodyOf Try.prog 52)
def f52a50 : Ann := subAnn [1, 1, 1, 1, 1, 1, 1, 1, 1, 0] ann52
noncomputable def f52c51 : Code := subCode [1, 1, 1, 1, 1, 1, 1, 1, 1, 1] (bodyOf Try.prog 52)
def f52a51 : Ann := subAnn [1, 1, 1, 1, 1, 1, 1, 1, 1, 1] ann52
noncomputable def f52L29 {R : Type} (call : Bool → CallF R) (dem : Bool) (N : Nat) : KF R → Env → St → Option R := fun K e σ => runK Try.prog call dem N f52c30 f52a30 K e σ
def f52e0 (y0 : Option (Nat × Nat)) (y1 : Int) (y2 : Int) (y3 : ByteArray) : Env := AV.ptr y0 :: AV.int IntKind.i64 y1 :: AV.int IntKind.i64 y2 :: AV.str y3 :: Env.sp 61 []
def f52e1 (y0 : Option (Nat × Nat)) (y1 : Int) (y2 : Int) (y3 : ByteArray) (y4 : Bool) (y5 : Int) : Env := AV.ptr y0 :: AV.int IntKind.i64 y1 :: AV.int IntKind.i64 y2 :: AV.str y3 :: Env.sp 4 (AV.bool y4 :: AV.int IntKind.i64 y5 :: Env.sp 55 [])
def f52e2 (y0 : Option (Nat × Nat)) (y1 : Int) (y2 : Int) (y3 : ByteArray) (y4 : Int) (y5 : Option (Nat × Nat)) (y6 : Int) (y7 : Int) (y8 : Int) : Env := AV.ptr y0 :: AV.int IntKind.i64 y1 :: AV.int IntKind.i64 y2 :: AV.str y3 :: Env.sp 6 (AV.int IntKind.i64 y4 :: Env.sp 5 (AV.ptr y5 :: AV.int IntKind.i64 y6 :: AV.int IntKind.i64 y7 :: AV.int IntKind.i64 y8 :: Env.sp 45 []))
def f52e3 (y0 : Option (Nat × Nat)) (y1 : Int) (y2 : Int) (y3 : ByteArray) (y4 : Int) : Env := AV.ptr y0 :: AV.int IntKind.i64 y1 :: AV.int IntKind.i64 y2 :: AV.str y3 :: Env.sp 6 (AV.int IntKind.i64 y4 :: Env.sp 54 [])
def f52e4 (y0 : Option (Nat × Nat)) (y1 : Int) (y2 : Int) (y3 : ByteArray) (y4 : Int) (y5 : Int) (y6 : Bool) : Env := AV.ptr y0 :: AV.int IntKind.i64 y1 :: AV.int IntKind.i64 y2 :: AV.str y3 :: Env.sp 6 (AV.int IntKind.i64 y4 :: Env.sp 9 (AV.int IntKind.i64 y5 :: AV.bool y6 :: Env.sp 43 []))
def f52e5 (y0 : Option (Nat × Nat)) (y1 : Int) (y2 : Int) (y3 : ByteArray) (y4 : Int) (y5 : Bool) : Env := AV.ptr y0 :: AV.int IntKind.i64 y1 :: AV.int IntKind.i64 y2 :: AV.str y3 :: Env.sp 6 (AV.int IntKind.i64 y4 :: Env.sp 10 (AV.bool y5 :: Env.sp 43 []))
def f52e6 (y0 : Option (Nat × Nat)) (y1 : Int) (y2 : Int) (y3 : ByteArray) (y4 : Bool) (y5 : Int) (y6 : Int) (y7 : Bool) (y8 : Int) : Env := AV.ptr y0 :: AV.int IntKind.i64 y1 :: AV.int IntKind.i64 y2 :: AV.str y3 :: Env.sp 4 (AV.bool y4 :: AV.int IntKind.i64 y5 :: AV.int IntKind.i64 y6 :: Env.sp 10 (AV.bool y7 :: AV.int IntKind.i64 y8 :: Env.sp 42 []))
def f52e7 (y0 : Bool) (y1 : Int) : Env := Env.sp 8 (AV.bool y0 :: AV.int IntKind.i64 y1 :: Env.sp 55 [])
def f52e8 (y0 : Option (Nat × Nat)) (y1 : Int) (y2 : Int) (y3 : ByteArray) (y4 : Nat) (y5 : Bool) (y6 : Int) (y7 : Int) (y8 : ByteArray) (y9 : Bool) (y10 : Option (Nat × Nat)) (y11 : Int) (y12 : Int) (y13 : Int) (y14 : ByteArray) (y15 : Bool) (y16 : Int) (y17 : Int) (y18 : ByteArray) (y19 : Bool) : Env := AV.ptr y0 :: AV.int IntKind.i64 y1 :: AV.int IntKind.i64 y2 :: AV.str y3 :: Env.sp 7 (AV.ptr (some (y4, (0 : Nat))) :: AV.bool y5 :: Env.sp 10 (AV.tuple [AV.agg [AV.int IntKind.i64 y6, AV.int IntKind.i64 y7, AV.str y8], AV.bool y9] :: AV.ptr y10 :: AV.int IntKind.i64 y11 :: AV.tuple [AV.agg [AV.int IntKind.i64 y12, AV.int IntKind.i64 y13, AV.str y14], AV.bool y15] :: AV.agg [AV.int IntKind.i64 y16, AV.int IntKind.i64 y17, AV.str y18] :: AV.bool y19 :: Env.sp 36 []))
def f52e9 (y0 : Option (Nat × Nat)) (y1 : Int) (y2 : Int) (y3 : ByteArray) (y4 : Nat) (y5 : Bool) : Env := AV.ptr y0 :: AV.int IntKind.i64 y1 :: AV.int IntKind.i64 y2 :: AV.str y3 :: Env.sp 7 (AV.ptr (some (y4, (0 : Nat))) :: AV.bool y5 :: Env.sp 52 [])
def f52e10 (y0 : Option (Nat × Nat)) (y1 : Int) (y2 : Int) (y3 : ByteArray) (y4 : Nat) (y5 : Bool) (y6 : Bool) (y7 : Bool) (y8 : Nat) (y9 : Int) (y10 : Int) (y11 : Bool) (y12 : Bool) : Env := AV.ptr y0 :: AV.int IntKind.i64 y1 :: AV.int IntKind.i64 y2 :: AV.str y3 :: Env.sp 7 (AV.ptr (some (y4, (0 : Nat))) :: AV.bool y5 :: Env.sp 16 (AV.bool y6 :: AV.bool y7 :: AV.ptr (some (y8, (0 : Nat))) :: AV.int IntKind.i64 y9 :: AV.int IntKind.i64 y10 :: AV.bool y11 :: AV.bool y12 :: Env.sp 29 []))
def f52e11 (y0 : Option (Nat × Nat)) (y1 : Int) (y2 : Int) (y3 : ByteArray) (y4 : Nat) (y5 : Bool) (y6 : Bool) (y7 : Bool) (y8 : Bool) : Env := AV.ptr y0 :: AV.int IntKind.i64 y1 :: AV.int IntKind.i64 y2 :: AV.str y3 :: Env.sp 7 (AV.ptr (some (y4, (0 : Nat))) :: AV.bool y5 :: Env.sp 16 (AV.bool y6 :: AV.bool y7 :: AV.tuple [] :: AV.tuple [] :: AV.tuple [] :: AV.tuple [] :: AV.bool y8 :: Env.sp 29 []))
def f52e12 (y0 : Option (Nat × Nat)) (y1 : Int) (y2 : Int) (y3 : ByteArray) (y4 : Bool) : Env := AV.ptr y0 :: AV.int IntKind.i64 y1 :: AV.int IntKind.i64 y2 :: AV.str y3 :: Env.sp 31 (AV.bool y4 :: Env.sp 29 [])
def f52e13 (y0 : Option (Nat × Nat)) (y1 : Int) (y2 : Int) (y3 : ByteArray) (y4 : Bool) (y5 : Int) (y6 : Bool) : Env := AV.ptr y0 :: AV.int IntKind.i64 y1 :: AV.int IntKind.i64 y2 :: AV.str y3 :: Env.sp 4 (AV.bool y4 :: AV.int IntKind.i64 y5 :: Env.sp 25 (AV.bool y6 :: Env.sp 29 []))
def f52e14 (y0 : Option (Nat × Nat)) (y1 : Int) (y2 : Int) (y3 : ByteArray) (y4 : Option (Nat × Nat)) (y5 : Nat) (y6 : Option Nat) : Env := AV.ptr y0 :: AV.int IntKind.i64 y1 :: AV.int IntKind.i64 y2 :: AV.str y3 :: Env.sp 9 (AV.slice y4 y5 y6 (3 : Nat) :: Env.sp 51 [])
def f52e15 (y0 : Option (Nat × Nat)) (y1 : Int) (y2 : Int) (y3 : ByteArray) (y4 : Option (Nat × Nat)) (y5 : Nat) (y6 : Option Nat) (y7 : Option (Nat × Nat)) (y8 : Option (Nat × Nat)) (y9 : Option (Nat × Nat)) (y10 : Option (Nat × Nat)) (y11 : Nat) (y12 : Option Nat) (y13 : Int) (y14 : Int) : Env := AV.ptr y0 :: AV.int IntKind.i64 y1 :: AV.int IntKind.i64 y2 :: AV.str y3 :: Env.sp 9 (AV.slice y4 y5 y6 (3 : Nat) :: Env.sp 22 (AV.ptr y7 :: AV.ptr y8 :: AV.ptr y9 :: AV.slice y10 y11 y12 (3 : Nat) :: AV.int IntKind.i64 y13 :: AV.int IntKind.i64 y14 :: Env.sp 23 []))
def f52e16 (y0 : Option (Nat × Nat)) (y1 : Int) (y2 : Int) (y3 : ByteArray) (y4 : Option (Nat × Nat)) (y5 : Nat) (y6 : Option Nat) (y7 : Option (Nat × Nat)) (y8 : Nat) (y9 : Option Nat) (y10 : Int) (y11 : Int) : Env := AV.ptr y0 :: AV.int IntKind.i64 y1 :: AV.int IntKind.i64 y2 :: AV.str y3 :: Env.sp 9 (AV.slice y4 y5 y6 (3 : Nat) :: Env.sp 25 (AV.slice y7 y8 y9 (3 : Nat) :: AV.int IntKind.i64 y10 :: AV.int IntKind.i64 y11 :: Env.sp 23 []))
def f52e17 (y0 : Option (Nat × Nat)) (y1 : Int) (y2 : Int) (y3 : ByteArray) (y4 : Option (Nat × Nat)) (y5 : Nat) (y6 : Option Nat) (y7 : Option (Nat × Nat)) (y8 : Nat) (y9 : Option Nat) (y10 : Int) (y11 : Int) (y12 : Bool) : Env := AV.ptr y0 :: AV.int IntKind.i64 y1 :: AV.int IntKind.i64 y2 :: AV.str y3 :: Env.sp 9 (AV.slice y4 y5 y6 (3 : Nat) :: Env.sp 25 (AV.slice y7 y8 y9 (3 : Nat) :: AV.int IntKind.i64 y10 :: AV.int IntKind.i64 y11 :: AV.bool y12 :: Env.sp 22 []))
def f52e18 (y0 : Option (Nat × Nat)) (y1 : Int) (y2 : Int) (y3 : ByteArray) (y4 : Option (Nat × Nat)) (y5 : Nat) (y6 : Option Nat) (y7 : Nat) (y8 : Option (Nat × Nat)) (y9 : Nat) (y10 : Option Nat) (y11 : Int) (y12 : Int) (y13 : Option (Nat × Nat)) (y14 : Int) (y15 : Int) (y16 : ByteArray) : Env := AV.ptr y0 :: AV.int IntKind.i64 y1 :: AV.int IntKind.i64 y2 :: AV.str y3 :: Env.sp 9 (AV.slice y4 y5 y6 (3 : Nat) :: Env.sp 1 (AV.ptr (some (y7, (0 : Nat))) :: Env.sp 23 (AV.slice y8 y9 y10 (3 : Nat) :: AV.int IntKind.i64 y11 :: AV.int IntKind.i64 y12 :: Env.sp 1 (AV.ptr y13 :: AV.agg [AV.int IntKind.i64 y14, AV.int IntKind.i64 y15, AV.str y16] :: Env.sp 20 []))))
def f52e19 (y0 : Option (Nat × Nat)) (y1 : Int) (y2 : Int) (y3 : ByteArray) (y4 : Option (Nat × Nat)) (y5 : Nat) (y6 : Option Nat) (y7 : Nat) (y8 : Option (Nat × Nat)) (y9 : Nat) (y10 : Option Nat) (y11 : Int) (y12 : Int) : Env := AV.ptr y0 :: AV.int IntKind.i64 y1 :: AV.int IntKind.i64 y2 :: AV.str y3 :: Env.sp 9 (AV.slice y4 y5 y6 (3 : Nat) :: Env.sp 1 (AV.ptr (some (y7, (0 : Nat))) :: Env.sp 23 (AV.slice y8 y9 y10 (3 : Nat) :: AV.int IntKind.i64 y11 :: AV.int IntKind.i64 y12 :: Env.sp 23 [])))
def f52e20 (y0 : Option (Nat × Nat)) (y1 : Int) (y2 : Int) (y3 : ByteArray) (y4 : Option (Nat × Nat)) (y5 : Nat) (y6 : Option Nat) (y7 : Nat) (y8 : Option (Nat × Nat)) (y9 : Nat) (y10 : Option Nat) (y11 : Int) (y12 : Int) (y13 : Nat) (y14 : Int) (y15 : Int) (y16 : Bool) : Env := AV.ptr y0 :: AV.int IntKind.i64 y1 :: AV.int IntKind.i64 y2 :: AV.str y3 :: Env.sp 9 (AV.slice y4 y5 y6 (3 : Nat) :: Env.sp 1 (AV.ptr (some (y7, (0 : Nat))) :: Env.sp 23 (AV.slice y8 y9 y10 (3 : Nat) :: AV.int IntKind.i64 y11 :: AV.int IntKind.i64 y12 :: Env.sp 3 (AV.ptr (some (y13, (1 : Nat))) :: AV.int IntKind.i64 y14 :: AV.int IntKind.i64 y15 :: AV.bool y16 :: Env.sp 16 []))))
def f52e21 (y0 : Option (Nat × Nat)) (y1 : Int) (y2 : Int) (y3 : ByteArray) (y4 : Option (Nat × Nat)) (y5 : Nat) (y6 : Option Nat) (y7 : Nat) (y8 : Option (Nat × Nat)) (y9 : Nat) (y10 : Option Nat) (y11 : Int) (y12 : Int) (y13 : Bool) : Env := AV.ptr y0 :: AV.int IntKind.i64 y1 :: AV.int IntKind.i64 y2 :: AV.str y3 :: Env.sp 9 (AV.slice y4 y5 y6 (3 : Nat) :: Env.sp 1 (AV.ptr (some (y7, (0 : Nat))) :: Env.sp 23 (AV.slice y8 y9 y10 (3 : Nat) :: AV.int IntKind.i64 y11 :: AV.int IntKind.i64 y12 :: Env.sp 6 (AV.bool y13 :: Env.sp 16 []))))
def f52e22 (y0 : Option (Nat × Nat)) (y1 : Int) (y2 : Int) (y3 : ByteArray) (y4 : Option (Nat × Nat)) (y5 : Nat) (y6 : Option Nat) (y7 : Nat) (y8 : Option (Nat × Nat)) (y9 : Nat) (y10 : Option Nat) (y11 : Int) (y12 : Int) (y13 : Bool) (y14 : Option (Nat × Nat)) (y15 : Nat) (y16 : Option Nat) (y17 : Int) (y18 : Int) (y19 : ByteArray) (y20 : Option (Nat × Nat)) (y21 : Nat) (y22 : Option Nat) (y23 : Option (Nat × Nat)) (y24 : Nat) (y25 : Option Nat) : Env := AV.ptr y0 :: AV.int IntKind.i64 y1 :: AV.int IntKind.i64 y2 :: AV.str y3 :: Env.sp 9 (AV.slice y4 y5 y6 (3 : Nat) :: Env.sp 1 (AV.ptr (some (y7, (0 : Nat))) :: Env.sp 23 (AV.slice y8 y9 y10 (3 : Nat) :: AV.int IntKind.i64 y11 :: AV.int IntKind.i64 y12 :: Env.sp 6 (AV.bool y13 :: AV.slice y14 y15 y16 (3 : Nat) :: AV.agg [AV.int IntKind.i64 y17, AV.int IntKind.i64 y18, AV.str y19] :: AV.slice y20 y21 y22 (3 : Nat) :: AV.slice y23 y24 y25 (3 : Nat) :: Env.sp 12 []))))
def f52e23 (y0 : Option (Nat × Nat)) (y1 : Int) (y2 : Int) (y3 : ByteArray) (y4 : Option (Nat × Nat)) (y5 : Nat) (y6 : Option Nat) (y7 : Option (Nat × Nat)) (y8 : Nat) (y9 : Option Nat) (y10 : Int) (y11 : Int) (y12 : Int) : Env := AV.ptr y0 :: AV.int IntKind.i64 y1 :: AV.int IntKind.i64 y2 :: AV.str y3 :: Env.sp 9 (AV.slice y4 y5 y6 (3 : Nat) :: Env.sp 25 (AV.slice y7 y8 y9 (3 : Nat) :: AV.int IntKind.i64 y10 :: AV.int IntKind.i64 y11 :: Env.sp 11 (AV.int IntKind.i64 y12 :: Env.sp 11 [])))
def f52e24 (y0 : Option (Nat × Nat)) (y1 : Int) (y2 : Int) (y3 : ByteArray) (y4 : Option (Nat × Nat)) (y5 : Nat) (y6 : Option Nat) (y7 : Option (Nat × Nat)) (y8 : Nat) (y9 : Option Nat) (y10 : Int) (y11 : Int) (y12 : ByteArray) (y13 : Int) (y14 : Int) (y15 : ByteArray) (y16 : Option (Nat × Nat)) (y17 : Nat) (y18 : Option Nat) (y19 : Option (Nat × Nat)) (y20 : Nat) (y21 : Option Nat) : Env := AV.ptr y0 :: AV.int IntKind.i64 y1 :: AV.int IntKind.i64 y2 :: AV.str y3 :: Env.sp 9 (AV.slice y4 y5 y6 (3 : Nat) :: Env.sp 40 (AV.slice y7 y8 y9 (3 : Nat) :: AV.int IntKind.i64 y10 :: AV.int IntKind.i64 y11 :: AV.str y12 :: AV.agg [AV.int IntKind.i64 y13, AV.int IntKind.i64 y14, AV.str y15] :: AV.slice y16 y17 y18 (3 : Nat) :: AV.slice y19 y20 y21 (3 : Nat) :: Env.sp 4 []))
def f52e25 (y0 : Option (Nat × Nat)) (y1 : Option (Nat × Nat)) (y2 : Nat) (y3 : Option Nat) : Env := AV.ptr y0 :: Env.sp 12 (AV.slice y1 y2 y3 (3 : Nat) :: Env.sp 51 [])
def f52e26 (y0 : Option (Nat × Nat)) (y1 : Option (Nat × Nat)) (y2 : Nat) (y3 : Option Nat) (y4 : Option (Nat × Nat)) (y5 : Option (Nat × Nat)) (y6 : Nat) (y7 : Option Nat) (y8 : Option (Nat × Nat)) (y9 : Option (Nat × Nat)) : Env := AV.ptr y0 :: Env.sp 12 (AV.slice y1 y2 y3 (3 : Nat) :: Env.sp 47 (AV.ptr y4 :: AV.slice y5 y6 y7 (3 : Nat) :: AV.ptr y8 :: AV.ptr y9 :: []))
def f52e27 : Env := Env.sp 65 []

/- function 52 -/
theorem f52_eq {R : Type} (call : Bool → CallF R) (dem : Bool) (N : Nat) (y0 : Option (Nat × Nat)) (y1 : Int) (y2 : Int) (y3 : ByteArray) (σ : St) (K : AV → St → Option R) :
    bodyK Try.prog call dem N ann 52 [AV.ptr y0, AV.int IntKind.i64 y1, AV.int IntKind.i64 y2, AV.str y3] σ K = runK Try.prog call dem N f52c0 f52a0 (bodyC Try.prog f52rs K) (f52e0 y0 y1 y2 y3) σ := bodyK_of (fn := ((Try.prog.funcs[52]?).get rfl)) (by kernel_rfl) (by kernel_rfl) (by kernel_rfl) (by kernel_rfl) (by kernel_rfl) (by kernel_rfl)
theorem f52n0 {R : Type} (call : Bool → CallF R) (dem : Bool) (N : Nat) (J : KF R) (e : Env) (σ : St) : runK Try.prog call dem N f52c0 f52a0 J e σ = runK Try.prog call dem N f52c1 f52a1 (seqC (fun K e σ => runK Try.prog call dem N f52c2 f52a2 K e σ) f52a0 J) e σ := runK_seq' (by kernel_rfl) (by kernel_rfl) (by kernel_rfl)
theorem f52r1_f52e0 {R : Type} (call : Bool → CallF R) (dem : Bool) (N : Nat) (y0 : Option (Nat × Nat)) (y1 : Int) (y2 : Int) (y3 : ByteArray) (J : KF R) (σ : St) :
    runK Try.prog call dem N f52c1 f52a1 J (f52e0 y0 y1 y2 y3) σ =
J Ex.normal (f52e1 y0 y1 y2 y3 false (0 : Int)) σ := hide (by kernel_rfl)
theorem f52z0_f52e1 (y0 : Option (Nat × Nat)) (y1 : Int) (y2 : Int) (y3 : ByteArray) (y4 : Bool) (y5 : Int) : Ann.clr f52a0 (f52e1 y0 y1 y2 y3 y4 y5) = f52e0 y0 y1 y2 y3 := hide (by kernel_rfl)
theorem f52n2 {R : Type} (call : Bool → CallF R) (dem : Bool) (N : Nat) (J : KF R) (e : Env) (σ : St) : runK Try.prog call dem N f52c2 f52a2 J e σ = runK Try.prog call dem N f52c3 f52a3 (seqC (fun K e σ => runK Try.prog call dem N f52c4 f52a4 K e σ) f52a2 J) e σ := runK_seq' (by kernel_rfl) (by kernel_rfl) (by kernel_rfl)
theorem f52r3_f52e0 {R : Type} (call : Bool → CallF R) (dem : Bool) (N : Nat) (y0 : Option (Nat × Nat)) (y1 : Int) (y2 : Int) (y3 : ByteArray) (J : KF R) (σ : St) :
    runK Try.prog call dem N f52c3 f52a3 J (f52e0 y0 y1 y2 y3) σ =
call dem (56 : Nat) [AV.ptr y0, AV.int IntKind.i64 y1, AV.int IntKind.i64 y2] σ fun v0 v1 =>
  Option.bind (AV.toInt IntKind.i64 v0) fun v2 => J Ex.normal (f52e2 y0 y1 y2 y3 v2 y0 y1 y2 v2) v1 := hide (by kernel_rfl)
theorem f52z2_f52e2 (y0 : Option (Nat × Nat)) (y1 : Int) (y2 : Int) (y3 : ByteArray) (y4 : Int) (y5 : Option (Nat × Nat)) (y6 : Int) (y7 : Int) (y8 : Int) : Ann.clr f52a2 (f52e2 y0 y1 y2 y3 y4 y5 y6 y7 y8) = f52e3 y0 y1 y2 y3 y4 := hide (by kernel_rfl)
theorem f52n4 {R : Type} (call : Bool → CallF R) (dem : Bool) (N : Nat) (J : KF R) (e : Env) (σ : St) : runK Try.prog call dem N f52c4 f52a4 J e σ = runK Try.prog call dem N f52c5 f52a5 (seqC (fun K e σ => runK Try.prog call dem N f52c6 f52a6 K e σ) f52a4 J) e σ := runK_seq' (by kernel_rfl) (by kernel_rfl) (by kernel_rfl)
theorem f52n5 {R : Type} (call : Bool → CallF R) (dem : Bool) (N : Nat) (J : KF R) (e : Env) (σ : St) : runK Try.prog call dem N f52c5 f52a5 J e σ = runK Try.prog call dem N f52c7 f52a7 (seqC (fun K e σ => runK Try.prog call dem N f52c8 f52a8 K e σ) f52a5 J) e σ := runK_seq' (by kernel_rfl) (by kernel_rfl) (by kernel_rfl)
theorem f52r7_f52e3 {R : Type} (call : Bool → CallF R) (dem : Bool) (N : Nat) (y0 : Option (Nat × Nat)) (y1 : Int) (y2 : Int) (y3 : ByteArray) (y4 : Int) (J : KF R) (σ : St) :
    runK Try.prog call dem N f52c7 f52a7 J (f52e3 y0 y1 y2 y3 y4) σ =
J Ex.normal (f52e4 y0 y1 y2 y3 y4 y4 (y4 != (0 : Int))) σ := hide (by kernel_rfl)
theorem f52z5_f52e4 (y0 : Option (Nat × Nat)) (y1 : Int) (y2 : Int) (y3 : ByteArray) (y4 : Int) (y5 : Int) (y6 : Bool) : Ann.clr f52a5 (f52e4 y0 y1 y2 y3 y4 y5 y6) = f52e5 y0 y1 y2 y3 y4 y6 := hide (by kernel_rfl)
theorem f52x8_f52e5 {R : Type} (call : Bool → CallF R) (dem : Bool) (N : Nat) (y0 : Option (Nat × Nat)) (y1 : Int) (y2 : Int) (y3 : ByteArray) (y4 : Int) (y5 : Bool) (J : KF R) (σ : St) : runK Try.prog call dem N f52c8 f52a8 J (f52e5 y0 y1 y2 y3 y4 y5) σ = if y5 = true then runK Try.prog call dem N f52c9 f52a9 (condC f52a8 J) (f52e5 y0 y1 y2 y3 y4 y5) σ else runK Try.prog call dem N f52c10 f52a10 (condC f52a8 J) (f52e5 y0 y1 y2 y3 y4 y5) σ := runK_cond' (o := Operand.tmp (21 : Nat)) (by kernel_rfl) (by kernel_rfl) (by kernel_rfl) (by kernel_rfl)
theorem f52n9 {R : Type} (call : Bool → CallF R) (dem : Bool) (N : Nat) (J : KF R) (e : Env) (σ : St) : runK Try.prog call dem N f52c9 f52a9 J e σ = runK Try.prog call dem N f52c11 f52a11 (seqC (fun K e σ => runK Try.prog call dem N f52c12 f52a12 K e σ) f52a9 J) e σ := runK_seq' (by kernel_rfl) (by kernel_rfl) (by kernel_rfl)
theorem f52r11_f52e5 {R : Type} (call : Bool → CallF R) (dem : Bool) (N : Nat) (y0 : Option (Nat × Nat)) (y1 : Int) (y2 : Int) (y3 : ByteArray) (y4 : Int) (y5 : Bool) (J : KF R) (σ : St) :
    runK Try.prog call dem N f52c11 f52a11 J (f52e5 y0 y1 y2 y3 y4 y5) σ =
J Ex.normal (f52e6 y0 y1 y2 y3 false y4 y4 y5 y4) σ := hide (by kernel_rfl)
theorem f52z9_f52e6 (y0 : Option (Nat × Nat)) (y1 : Int) (y2 : Int) (y3 : ByteArray) (y4 : Bool) (y5 : Int) (y6 : Int) (y7 : Bool) (y8 : Int) : Ann.clr f52a9 (f52e6 y0 y1 y2 y3 y4 y5 y6 y7 y8) = f52e7 y4 y5 := hide (by kernel_rfl)
theorem f52y12_f52e7 {R : Type} (call : Bool → CallF R) (dem : Bool) (N : Nat) (y0 : Bool) (y1 : Int) (J : KF R) (σ : St) : runK Try.prog call dem N f52c12 f52a12 J (f52e7 y0 y1) σ = J .ret (f52e7 y0 y1) σ := runK_ret' (by kernel_rfl) (by kernel_rfl)
theorem f52n10 {R : Type} (call : Bool → CallF R) (dem : Bool) (N : Nat) (J : KF R) (e : Env) (σ : St) : runK Try.prog call dem N f52c10 f52a10 J e σ = J .normal e σ := runK_skip' (by kernel_rfl)
theorem f52z8_f52e5 (y0 : Option (Nat × Nat)) (y1 : Int) (y2 : Int) (y3 : ByteArray) (y4 : Int) (y5 : Bool) : Ann.clr f52a8 (f52e5 y0 y1 y2 y3 y4 y5) = f52e0 y0 y1 y2 y3 := hide (by kernel_rfl)
theorem f52z4_f52e0 (y0 : Option (Nat × Nat)) (y1 : Int) (y2 : Int) (y3 : ByteArray) : Ann.clr f52a4 (f52e0 y0 y1 y2 y3) = f52e0 y0 y1 y2 y3 := hide (by kernel_rfl)
theorem f52n6 {R : Type} (call : Bool → CallF R) (dem : Bool) (N : Nat) (J : KF R) (e : Env) (σ : St) : runK Try.prog call dem N f52c6 f52a6 J e σ = runK Try.prog call dem N f52c13 f52a13 (seqC (fun K e σ => runK Try.prog call dem N f52c14 f52a14 K e σ) f52a6 J) e σ := runK_seq' (by kernel_rfl) (by kernel_rfl) (by kernel_rfl)
theorem f52r13_f52e0 {R : Type} (call : Bool → CallF R) (dem : Bool) (N : Nat) (y0 : Option (Nat × Nat)) (y1 : Int) (y2 : Int) (y3 : ByteArray) (J : KF R) (σ : St) :
    runK Try.prog call dem N f52c13 f52a13 J (f52e0 y0 y1 y2 y3) σ =
call dem (37 : Nat) [AV.ptr y0, AV.int IntKind.i64 y2] σ fun v0 v1 =>
  Option.bind (AV.toTuple v0) fun v2 =>
    if List.length v2 = (2 : Nat) then
      Option.bind (List.head? v2) fun v3 =>
        Option.bind (AV.toAgg v3) fun v4 =>
          if List.length v4 = (3 : Nat) then
            Option.bind (List.head? v4) fun v5 =>
              Option.bind (AV.toInt IntKind.i64 v5) fun v6 =>
                Option.bind (List.head? (List.tail v4)) fun v7 =>
                  Option.bind (AV.toInt IntKind.i64 v7) fun v8 =>
                    Option.bind (List.head? (List.tail (List.tail v4))) fun v9 =>
                      Option.bind (AV.toStr v9) fun v10 =>
                        Option.bind (List.head? (List.tail v2)) fun v11 =>
                          Option.bind (AV.toBool v11) fun v12 =>
                            Option.bind
                              (St.st
                                (St.new v1 (Blk.cells [AV.int IntKind.i64 (0 : Int), AV.int IntKind.i64 (0 : Int), AV.str (ByteArray.mk #[])] true))
                                (St.next v1) (0 : Nat) [AV.int IntKind.i64 v6, AV.int IntKind.i64 v8, AV.str v10])
                              fun v13 => J Ex.normal (f52e8 y0 y1 y2 y3 (St.next v1) v12 v6 v8 v10 v12 y0 y2 v6 v8 v10 v12 v6 v8 v10 v12) v13
          else none
    else none := hide (by kernel_rfl)
theorem f52z6_f52e8 (y0 : Option (Nat × Nat)) (y1 : Int) (y2 : Int) (y3 : ByteArray) (y4 : Nat) (y5 : Bool) (y6 : Int) (y7 : Int) (y8 : ByteArray) (y9 : Bool) (y10 : Option (Nat × Nat)) (y11 : Int) (y12 : Int) (y13 : Int) (y14 : ByteArray) (y15 : Bool) (y16 : Int) (y17 : Int) (y18 : ByteArray) (y19 : Bool) : Ann.clr f52a6 (f52e8 y0 y1 y2 y3 y4 y5 y6 y7 y8 y9 y10 y11 y12 y13 y14 y15 y16 y17 y18 y19) = f52e9 y0 y1 y2 y3 y4 y5 := hide (by kernel_rfl)
theorem f52n14 {R : Type} (call : Bool → CallF R) (dem : Bool) (N : Nat) (J : KF R) (e : Env) (σ : St) : runK Try.prog call dem N f52c14 f52a14 J e σ = runK Try.prog call dem N f52c15 f52a15 (seqC (fun K e σ => runK Try.prog call dem N f52c16 f52a16 K e σ) f52a14 J) e σ := runK_seq' (by kernel_rfl) (by kernel_rfl) (by kernel_rfl)
theorem f52n15 {R : Type} (call : Bool → CallF R) (dem : Bool) (N : Nat) (J : KF R) (e : Env) (σ : St) : runK Try.prog call dem N f52c15 f52a15 J e σ = runK Try.prog call dem N f52c17 f52a17 (seqC (fun K e σ => runK Try.prog call dem N f52c18 f52a18 K e σ) f52a15 J) e σ := runK_seq' (by kernel_rfl) (by kernel_rfl) (by kernel_rfl)
theorem f52r17_f52e9 {R : Type} (call : Bool → CallF R) (dem : Bool) (N : Nat) (y0 : Option (Nat × Nat)) (y1 : Int) (y2 : Int) (y3 : ByteArray) (y4 : Nat) (y5 : Bool) (J : KF R) (σ : St) :
    runK Try.prog call dem N f52c17 f52a17 J (f52e9 y0 y1 y2 y3 y4 y5) σ =
if y5 = true then
  Option.bind (St.ld σ y4 (0 : Nat)) fun v0 =>
    Option.bind (AV.toInt IntKind.i64 v0) fun v1 => J Ex.normal (f52e10 y0 y1 y2 y3 y4 y5 y5 true y4 v1 y1 (decide (v1 ≥ y1)) (decide (v1 ≥ y1))) σ
else J Ex.normal (f52e11 y0 y1 y2 y3 y4 y5 y5 false false) σ := hide (by kernel_rfl)
theorem f52z15_f52e10 (y0 : Option (Nat × Nat)) (y1 : Int) (y2 : Int) (y3 : ByteArray) (y4 : Nat) (y5 : Bool) (y6 : Bool) (y7 : Bool) (y8 : Nat) (y9 : Int) (y10 : Int) (y11 : Bool) (y12 : Bool) : Ann.clr f52a15 (f52e10 y0 y1 y2 y3 y4 y5 y6 y7 y8 y9 y10 y11 y12) = f52e12 y0 y1 y2 y3 y12 := hide (by kernel_rfl)
theorem f52x18_f52e12 {R : Type} (call : Bool → CallF R) (dem : Bool) (N : Nat) (y0 : Option (Nat × Nat)) (y1 : Int) (y2 : Int) (y3 : ByteArray) (y4 : Bool) (J : KF R) (σ : St) : runK Try.prog call dem N f52c18 f52a18 J (f52e12 y0 y1 y2 y3 y4) σ = if y4 = true then runK Try.prog call dem N f52c19 f52a19 (condC f52a18 J) (f52e12 y0 y1 y2 y3 y4) σ else runK Try.prog call dem N f52c20 f52a20 (condC f52a18 J) (f52e12 y0 y1 y2 y3 y4) σ := runK_cond' (o := Operand.tmp (35 : Nat)) (by kernel_rfl) (by kernel_rfl) (by kernel_rfl) (by kernel_rfl)
theorem f52n19 {R : Type} (call : Bool → CallF R) (dem : Bool) (N : Nat) (J : KF R) (e : Env) (σ : St) : runK Try.prog call dem N f52c19 f52a19 J e σ = runK Try.prog call dem N f52c21 f52a21 (seqC (fun K e σ => runK Try.prog call dem N f52c22 f52a22 K e σ) f52a19 J) e σ := runK_seq' (by kernel_rfl) (by kernel_rfl) (by kernel_rfl)
theorem f52r21_f52e12 {R : Type} (call : Bool → CallF R) (dem : Bool) (N : Nat) (y0 : Option (Nat × Nat)) (y1 : Int) (y2 : Int) (y3 : ByteArray) (y4 : Bool) (J : KF R) (σ : St) :
    runK Try.prog call dem N f52c21 f52a21 J (f52e12 y0 y1 y2 y3 y4) σ =
J Ex.normal (f52e13 y0 y1 y2 y3 false (0 : Int) y4) σ := hide (by kernel_rfl)
theorem f52z19_f52e13 (y0 : Option (Nat × Nat)) (y1 : Int) (y2 : Int) (y3 : ByteArray) (y4 : Bool) (y5 : Int) (y6 : Bool) : Ann.clr f52a19 (f52e13 y0 y1 y2 y3 y4 y5 y6) = f52e7 y4 y5 := hide (by kernel_rfl)
theorem f52y22_f52e7 {R : Type} (call : Bool → CallF R) (dem : Bool) (N : Nat) (y0 : Bool) (y1 : Int) (J : KF R) (σ : St) : runK Try.prog call dem N f52c22 f52a22 J (f52e7 y0 y1) σ = J .ret (f52e7 y0 y1) σ := runK_ret' (by kernel_rfl) (by kernel_rfl)
theorem f52n20 {R : Type} (call : Bool → CallF R) (dem : Bool) (N : Nat) (J : KF R) (e : Env) (σ : St) : runK Try.prog call dem N f52c20 f52a20 J e σ = J .normal e σ := runK_skip' (by kernel_rfl)
theorem f52z18_f52e12 (y0 : Option (Nat × Nat)) (y1 : Int) (y2 : Int) (y3 : ByteArray) (y4 : Bool) : Ann.clr f52a18 (f52e12 y0 y1 y2 y3 y4) = f52e0 y0 y1 y2 y3 := hide (by kernel_rfl)
theorem f52z15_f52e11 (y0 : Option (Nat × Nat)) (y1 : Int) (y2 : Int) (y3 : ByteArray) (y4 : Nat) (y5 : Bool) (y6 : Bool) (y7 : Bool) (y8 : Bool) : Ann.clr f52a15 (f52e11 y0 y1 y2 y3 y4 y5 y6 y7 y8) = f52e12 y0 y1 y2 y3 y8 := hide (by kernel_rfl)
theorem f52z14_f52e0 (y0 : Option (Nat × Nat)) (y1 : Int) (y2 : Int) (y3 : ByteArray) : Ann.clr f52a14 (f52e0 y0 y1 y2 y3) = f52e0 y0 y1 y2 y3 := hide (by kernel_rfl)
theorem f52n16 {R : Type} (call : Bool → CallF R) (dem : Bool) (N : Nat) (J : KF R) (e : Env) (σ : St) : runK Try.prog call dem N f52c16 f52a16 J e σ = runK Try.prog call dem N f52c23 f52a23 (seqC (fun K e σ => runK Try.prog call dem N f52c24 f52a24 K e σ) f52a16 J) e σ := runK_seq' (by kernel_rfl) (by kernel_rfl) (by kernel_rfl)
theorem f52r23_f52e0 {R : Type} (call : Bool → CallF R) (dem : Bool) (N : Nat) (y0 : Option (Nat × Nat)) (y1 : Int) (y2 : Int) (y3 : ByteArray) (J : KF R) (σ : St) :
    runK Try.prog call dem N f52c23 f52a23 J (f52e0 y0 y1 y2 y3) σ =
J Ex.normal (f52e14 y0 y1 y2 y3 none (0 : Nat) (some (0 : Nat))) σ := hide (by kernel_rfl)
theorem f52z16_f52e14 (y0 : Option (Nat × Nat)) (y1 : Int) (y2 : Int) (y3 : ByteArray) (y4 : Option (Nat × Nat)) (y5 : Nat) (y6 : Option Nat) : Ann.clr f52a16 (f52e14 y0 y1 y2 y3 y4 y5 y6) = f52e14 y0 y1 y2 y3 y4 y5 y6 := hide (by kernel_rfl)
theorem f52n24 {R : Type} (call : Bool → CallF R) (dem : Bool) (N : Nat) (J : KF R) (e : Env) (σ : St) : runK Try.prog call dem N f52c24 f52a24 J e σ = runK Try.prog call dem N f52c25 f52a25 (seqC (fun K e σ => runK Try.prog call dem N f52c26 f52a26 K e σ) f52a24 J) e σ := runK_seq' (by kernel_rfl) (by kernel_rfl) (by kernel_rfl)
theorem f52n25 {R : Type} (call : Bool → CallF R) (dem : Bool) (N : Nat) (J : KF R) (e : Env) (σ : St) : runK Try.prog call dem N f52c25 f52a25 J e σ = runK Try.prog call dem N f52c27 f52a27 (seqC (fun K e σ => runK Try.prog call dem N f52c28 f52a28 K e σ) f52a25 J) e σ := runK_seq' (by kernel_rfl) (by kernel_rfl) (by kernel_rfl)
theorem f52r27_f52e14 {R : Type} (call : Bool → CallF R) (dem : Bool) (N : Nat) (y0 : Option (Nat × Nat)) (y1 : Int) (y2 : Int) (y3 : ByteArray) (y4 : Option (Nat × Nat)) (y5 : Nat) (y6 : Option Nat) (J : KF R) (σ : St) :
    runK Try.prog call dem N f52c27 f52a27 J (f52e14 y0 y1 y2 y3 y4 y5 y6) σ =
Option.bind y0 fun v0 =>
  Option.bind (St.ld σ (Prod.fst v0) (Prod.snd v0 + (2 : Nat))) fun v1 =>
    Option.bind (AV.toSl (3 : Nat) v1) fun v2 =>
      J Ex.normal
        (f52e15 y0 y1 y2 y3 y4 y5 y6 y0 (some v0) (some (Prod.fst v0, Prod.snd v0 + (2 : Nat))) (Sl.o v2) (Sl.len v2) (Sl.cap v2) (↑(Sl.len v2) : Int)
          (0 : Int))
        σ := hide (by kernel_rfl)
theorem f52z25_f52e15 (y0 : Option (Nat × Nat)) (y1 : Int) (y2 : Int) (y3 : ByteArray) (y4 : Option (Nat × Nat)) (y5 : Nat) (y6 : Option Nat) (y7 : Option (Nat × Nat)) (y8 : Option (Nat × Nat)) (y9 : Option (Nat × Nat)) (y10 : Option (Nat × Nat)) (y11 : Nat) (y12 : Option Nat) (y13 : Int) (y14 : Int) : Ann.clr f52a25 (f52e15 y0 y1 y2 y3 y4 y5 y6 y7 y8 y9 y10 y11 y12 y13 y14) = f52e16 y0 y1 y2 y3 y4 y5 y6 y10 y11 y12 y13 y14 := hide (by kernel_rfl)
theorem f52n28 {R : Type} (call : Bool → CallF R) (dem : Bool) (N : Nat) (J : KF R) (e : Env) (σ : St) : runK Try.prog call dem N f52c28 f52a28 J e σ = runK Try.prog call dem N f52c29 f52a29 (blockC 0 f52a28 J) e σ := runK_block' (by kernel_rfl) (by kernel_rfl)
theorem f52L29_eq {R : Type} (call : Bool → CallF R) (dem : Bool) (N : Nat) (J : KF R) (e : Env) (σ : St) : f52L29 call dem N J e σ = runK Try.prog call dem N f52c30 f52a30 J e σ := hide rfl
theorem f52z29_f52e16 (y0 : Option (Nat × Nat)) (y1 : Int) (y2 : Int) (y3 : ByteArray) (y4 : Option (Nat × Nat)) (y5 : Nat) (y6 : Option Nat) (y7 : Option (Nat × Nat)) (y8 : Nat) (y9 : Option Nat) (y10 : Int) (y11 : Int) : Ann.clr f52a29 (f52e16 y0 y1 y2 y3 y4 y5 y6 y7 y8 y9 y10 y11) = f52e16 y0 y1 y2 y3 y4 y5 y6 y7 y8 y9 y10 y11 := hide (by kernel_rfl)
theorem f52l29_f52e16 {R : Type} (call : Bool → CallF R) (dem : Bool) (N : Nat) (y0 : Option (Nat × Nat)) (y1 : Int) (y2 : Int) (y3 : ByteArray) (y4 : Option (Nat × Nat)) (y5 : Nat) (y6 : Option Nat) (y7 : Option (Nat × Nat)) (y8 : Nat) (y9 : Option Nat) (y10 : Int) (y11 : Int) (J : KF R) (σ : St) : runK Try.prog call dem N f52c29 f52a29 J (f52e16 y0 y1 y2 y3 y4 y5 y6 y7 y8 y9 y10 y11) σ = loopK (f52L29 call dem N) f52a29 N J (f52e16 y0 y1 y2 y3 y4 y5 y6 y7 y8 y9 y10 y11) σ := runK_loop' (by kernel_rfl) (by kernel_rfl) (by kernel_rfl)
theorem f52n30 {R : Type} (call : Bool → CallF R) (dem : Bool) (N : Nat) (J : KF R) (e : Env) (σ : St) : runK Try.prog call dem N f52c30 f52a30 J e σ = runK Try.prog call dem N f52c31 f52a31 (seqC (fun K e σ => runK Try.prog call dem N f52c32 f52a32 K e σ) f52a30 J) e σ := runK_seq' (by kernel_rfl) (by kernel_rfl) (by kernel_rfl)
theorem f52r31_f52e16 {R : Type} (call : Bool → CallF R) (dem : Bool) (N : Nat) (y0 : Option (Nat × Nat)) (y1 : Int) (y2 : Int) (y3 : ByteArray) (y4 : Option (Nat × Nat)) (y5 : Nat) (y6 : Option Nat) (y7 : Option (Nat × Nat)) (y8 : Nat) (y9 : Option Nat) (y10 : Int) (y11 : Int) (J : KF R) (σ : St) :
    runK Try.prog call dem N f52c31 f52a31 J (f52e16 y0 y1 y2 y3 y4 y5 y6 y7 y8 y9 y10 y11) σ =
J Ex.normal (f52e17 y0 y1 y2 y3 y4 y5 y6 y7 y8 y9 y10 y11 (decide (y11 < y10))) σ := hide (by kernel_rfl)
theorem f52z30_f52e17 (y0 : Option (Nat × Nat)) (y1 : Int) (y2 : Int) (y3 : ByteArray) (y4 : Option (Nat × Nat)) (y5 : Nat) (y6 : Option Nat) (y7 : Option (Nat × Nat)) (y8 : Nat) (y9 : Option Nat) (y10 : Int) (y11 : Int) (y12 : Bool) : Ann.clr f52a30 (f52e17 y0 y1 y2 y3 y4 y5 y6 y7 y8 y9 y10 y11 y12) = f52e17 y0 y1 y2 y3 y4 y5 y6 y7 y8 y9 y10 y11 y12 := hide (by kernel_rfl)
theorem f52n32 {R : Type} (call : Bool → CallF R) (dem : Bool) (N : Nat) (J : KF R) (e : Env) (σ : St) : runK Try.prog call dem N f52c32 f52a32 J e σ = runK Try.prog call dem N f52c33 f52a33 (seqC (fun K e σ => runK Try.prog call dem N f52c34 f52a34 K e σ) f52a32 J) e σ := runK_seq' (by kernel_rfl) (by kernel_rfl) (by kernel_rfl)
theorem f52x33_f52e17 {R : Type} (call : Bool → CallF R) (dem : Bool) (N : Nat) (y0 : Option (Nat × Nat)) (y1 : Int) (y2 : Int) (y3 : ByteArray) (y4 : Option (Nat × Nat)) (y5 : Nat) (y6 : Option Nat) (y7 : Option (Nat × Nat)) (y8 : Nat) (y9 : Option Nat) (y10 : Int) (y11 : Int) (y12 : Bool) (J : KF R) (σ : St) : runK Try.prog call dem N f52c33 f52a33 J (f52e17 y0 y1 y2 y3 y4 y5 y6 y7 y8 y9 y10 y11 y12) σ = if y12 = true then runK Try.prog call dem N f52c35 f52a35 (condC f52a33 J) (f52e17 y0 y1 y2 y3 y4 y5 y6 y7 y8 y9 y10 y11 y12) σ else runK Try.prog call dem N f52c36 f52a36 (condC f52a33 J) (f52e17 y0 y1 y2 y3 y4 y5 y6 y7 y8 y9 y10 y11 y12) σ := runK_cond' (o := Operand.tmp (42 : Nat)) (by kernel_rfl) (by kernel_rfl) (by kernel_rfl) (by kernel_rfl)
theorem f52n35 {R : Type} (call : Bool → CallF R) (dem : Bool) (N : Nat) (J : KF R) (e : Env) (σ : St) : runK Try.prog call dem N f52c35 f52a35 J e σ = J .normal e σ := runK_skip' (by kernel_rfl)
theorem f52z33_f52e17 (y0 : Option (Nat × Nat)) (y1 : Int) (y2 : Int) (y3 : ByteArray) (y4 : Option (Nat × Nat)) (y5 : Nat) (y6 : Option Nat) (y7 : Option (Nat × Nat)) (y8 : Nat) (y9 : Option Nat) (y10 : Int) (y11 : Int) (y12 : Bool) : Ann.clr f52a33 (f52e17 y0 y1 y2 y3 y4 y5 y6 y7 y8 y9 y10 y11 y12) = f52e16 y0 y1 y2 y3 y4 y5 y6 y7 y8 y9 y10 y11 := hide (by kernel_rfl)
theorem f52y36_f52e17 {R : Type} (call : Bool → CallF R) (dem : Bool) (N : Nat) (y0 : Option (Nat × Nat)) (y1 : Int) (y2 : Int) (y3 : ByteArray) (y4 : Option (Nat × Nat)) (y5 : Nat) (y6 : Option Nat) (y7 : Option (Nat × Nat)) (y8 : Nat) (y9 : Option Nat) (y10 : Int) (y11 : Int) (y12 : Bool) (J : KF R) (σ : St) : runK Try.prog call dem N f52c36 f52a36 J (f52e17 y0 y1 y2 y3 y4 y5 y6 y7 y8 y9 y10 y11 y12) σ = J (.exit 0) (f52e14 y0 y1 y2 y3 y4 y5 y6) σ := runK_exit' (by kernel_rfl) (by kernel_rfl)
theorem f52z32_f52e16 (y0 : Option (Nat × Nat)) (y1 : Int) (y2 : Int) (y3 : ByteArray) (y4 : Option (Nat × Nat)) (y5 : Nat) (y6 : Option Nat) (y7 : Option (Nat × Nat)) (y8 : Nat) (y9 : Option Nat) (y10 : Int) (y11 : Int) : Ann.clr f52a32 (f52e16 y0 y1 y2 y3 y4 y5 y6 y7 y8 y9 y10 y11) = f52e16 y0 y1 y2 y3 y4 y5 y6 y7 y8 y9 y10 y11 := hide (by kernel_rfl)
theorem f52n34 {R : Type} (call : Bool → CallF R) (dem : Bool) (N : Nat) (J : KF R) (e : Env) (σ : St) : runK Try.prog call dem N f52c34 f52a34 J e σ = runK Try.prog call dem N f52c37 f52a37 (seqC (fun K e σ => runK Try.prog call dem N f52c38 f52a38 K e σ) f52a34 J) e σ := runK_seq' (by kernel_rfl) (by kernel_rfl) (by kernel_rfl)
theorem f52n37 {R : Type} (call : Bool → CallF R) (dem : Bool) (N : Nat) (J : KF R) (e : Env) (σ : St) : runK Try.prog call dem N f52c37 f52a37 J e σ = runK Try.prog call dem N f52c39 f52a39 (blockC 1 f52a37 J) e σ := runK_block' (by kernel_rfl) (by kernel_rfl)
theorem f52n39 {R : Type} (call : Bool → CallF R) (dem : Bool) (N : Nat) (J : KF R) (e : Env) (σ : St) : runK Try.prog call dem N f52c39 f52a39 J e σ = runK Try.prog call dem N f52c40 f52a40 (seqC (fun K e σ => runK Try.prog call dem N f52c41 f52a41 K e σ) f52a39 J) e σ := runK_seq' (by kernel_rfl) (by kernel_rfl) (by kernel_rfl)
theorem f52r40_f52e16 {R : Type} (call : Bool → CallF R) (dem : Bool) (N : Nat) (y0 : Option (Nat × Nat)) (y1 : Int) (y2 : Int) (y3 : ByteArray) (y4 : Option (Nat × Nat)) (y5 : Nat) (y6 : Option Nat) (y7 : Option (Nat × Nat)) (y8 : Nat) (y9 : Option Nat) (y10 : Int) (y11 : Int) (J : KF R) (σ : St) :
    runK Try.prog call dem N f52c40 f52a40 J (f52e16 y0 y1 y2 y3 y4 y5 y6 y7 y8 y9 y10 y11) σ =
if (0 : Int) ≤ y11 ∧ y11 < (↑y8 : Int) then
  Option.bind y7 fun v0 =>
    Option.bind (St.ld σ (Prod.fst v0) (Prod.snd v0 + Int.toNat y11 * (3 : Nat))) fun v1 =>
      Option.bind (AV.toInt IntKind.i64 v1) fun v2 =>
        Option.bind (St.ld σ (Prod.fst v0) (Prod.snd v0 + Int.toNat y11 * (3 : Nat) + (1 : Nat))) fun v3 =>
          Option.bind (AV.toInt IntKind.i64 v3) fun v4 =>
            Option.bind (St.ld σ (Prod.fst v0) (Prod.snd v0 + Int.toNat y11 * (3 : Nat) + (2 : Nat))) fun v5 =>
              Option.bind (AV.toStr v5) fun v6 =>
                Option.bind
                  (St.st (St.new σ (Blk.cells [AV.int IntKind.i64 (0 : Int), AV.int IntKind.i64 (0 : Int), AV.str (ByteArray.mk #[])] true))
                    (St.next σ) (0 : Nat) [AV.int IntKind.i64 v2, AV.int IntKind.i64 v4, AV.str v6])
                  fun v7 =>
                  J Ex.normal
                    (f52e18 y0 y1 y2 y3 y4 y5 y6 (St.next σ) y7 y8 y9 y10 y11 (some (Prod.fst v0, Prod.snd v0 + Int.toNat y11 * (3 : Nat))) v2 v4 v6)
                    v7
else none := hide (by kernel_rfl)
theorem f52z39_f52e18 (y0 : Option (Nat × Nat)) (y1 : Int) (y2 : Int) (y3 : ByteArray) (y4 : Option (Nat × Nat)) (y5 : Nat) (y6 : Option Nat) (y7 : Nat) (y8 : Option (Nat × Nat)) (y9 : Nat) (y10 : Option Nat) (y11 : Int) (y12 : Int) (y13 : Option (Nat × Nat)) (y14 : Int) (y15 : Int) (y16 : ByteArray) : Ann.clr f52a39 (f52e18 y0 y1 y2 y3 y4 y5 y6 y7 y8 y9 y10 y11 y12 y13 y14 y15 y16) = f52e19 y0 y1 y2 y3 y4 y5 y6 y7 y8 y9 y10 y11 y12 := hide (by kernel_rfl)
theorem f52n41 {R : Type} (call : Bool → CallF R) (dem : Bool) (N : Nat) (J : KF R) (e : Env) (σ : St) : runK Try.prog call dem N f52c41 f52a41 J e σ = runK Try.prog call dem N f52c42 f52a42 (seqC (fun K e σ => runK Try.prog call dem N f52c43 f52a43 K e σ) f52a41 J) e σ := runK_seq' (by kernel_rfl) (by kernel_rfl) (by kernel_rfl)
theorem f52r42_f52e19 {R : Type} (call : Bool → CallF R) (dem : Bool) (N : Nat) (y0 : Option (Nat × Nat)) (y1 : Int) (y2 : Int) (y3 : ByteArray) (y4 : Option (Nat × Nat)) (y5 : Nat) (y6 : Option Nat) (y7 : Nat) (y8 : Option (Nat × Nat)) (y9 : Nat) (y10 : Option Nat) (y11 : Int) (y12 : Int) (J : KF R) (σ : St) :
    runK Try.prog call dem N f52c42 f52a42 J (f52e19 y0 y1 y2 y3 y4 y5 y6 y7 y8 y9 y10 y11 y12) σ =
Option.bind (St.ld σ y7 (1 : Nat)) fun v0 =>
  Option.bind (AV.toInt IntKind.i64 v0) fun v1 => J Ex.normal (f52e20 y0 y1 y2 y3 y4 y5 y6 y7 y8 y9 y10 y11 y12 y7 v1 y2 (v1 != y2)) σ := hide (by kernel_rfl)
theorem f52z41_f52e20 (y0 : Option (Nat × Nat)) (y1 : Int) (y2 : Int) (y3 : ByteArray) (y4 : Option (Nat × Nat)) (y5 : Nat) (y6 : Option Nat) (y7 : Nat) (y8 : Option (Nat × Nat)) (y9 : Nat) (y10 : Option Nat) (y11 : Int) (y12 : Int) (y13 : Nat) (y14 : Int) (y15 : Int) (y16 : Bool) : Ann.clr f52a41 (f52e20 y0 y1 y2 y3 y4 y5 y6 y7 y8 y9 y10 y11 y12 y13 y14 y15 y16) = f52e21 y0 y1 y2 y3 y4 y5 y6 y7 y8 y9 y10 y11 y12 y16 := hide (by kernel_rfl)
theorem f52x43_f52e21 {R : Type} (call : Bool → CallF R) (dem : Bool) (N : Nat) (y0 : Option (Nat × Nat)) (y1 : Int) (y2 : Int) (y3 : ByteArray) (y4 : Option (Nat × Nat)) (y5 : Nat) (y6 : Option Nat) (y7 : Nat) (y8 : Option (Nat × Nat)) (y9 : Nat) (y10 : Option Nat) (y11 : Int) (y12 : Int) (y13 : Bool) (J : KF R) (σ : St) : runK Try.prog call dem N f52c43 f52a43 J (f52e21 y0 y1 y2 y3 y4 y5 y6 y7 y8 y9 y10 y11 y12 y13) σ = if y13 = true then runK Try.prog call dem N f52c44 f52a44 (condC f52a43 J) (f52e21 y0 y1 y2 y3 y4 y5 y6 y7 y8 y9 y10 y11 y12 y13) σ else runK Try.prog call dem N f52c45 f52a45 (condC f52a43 J) (f52e21 y0 y1 y2 y3 y4 y5 y6 y7 y8 y9 y10 y11 y12 y13) σ := runK_cond' (o := Operand.tmp (48 : Nat)) (by kernel_rfl) (by kernel_rfl) (by kernel_rfl) (by kernel_rfl)
theorem f52r44_f52e21 {R : Type} (call : Bool → CallF R) (dem : Bool) (N : Nat) (y0 : Option (Nat × Nat)) (y1 : Int) (y2 : Int) (y3 : ByteArray) (y4 : Option (Nat × Nat)) (y5 : Nat) (y6 : Option Nat) (y7 : Nat) (y8 : Option (Nat × Nat)) (y9 : Nat) (y10 : Option Nat) (y11 : Int) (y12 : Int) (y13 : Bool) (J : KF R) (σ : St) :
    runK Try.prog call dem N f52c44 f52a44 J (f52e21 y0 y1 y2 y3 y4 y5 y6 y7 y8 y9 y10 y11 y12 y13) σ =
Option.bind (St.ld σ y7 (0 : Nat)) fun v0 =>
  Option.bind (AV.toInt IntKind.i64 v0) fun v1 =>
    Option.bind (St.ld σ y7 (1 : Nat)) fun v2 =>
      Option.bind (AV.toInt IntKind.i64 v2) fun v3 =>
        Option.bind (St.ld σ y7 (2 : Nat)) fun v4 =>
          Option.bind (AV.toStr v4) fun v5 =>
            Option.bind
              (St.elems (St.new σ (Blk.cells [AV.int IntKind.i64 v1, AV.int IntKind.i64 v3, AV.str v5] true)) (3 : Nat)
                (Sl.mk (some (St.next σ, (0 : Nat))) (1 : Nat) (some (1 : Nat))) (1 : Nat))
              fun v6 =>
              Option.bind
                (St.app (St.new σ (Blk.cells [AV.int IntKind.i64 v1, AV.int IntKind.i64 v3, AV.str v5] true)) (3 : Nat) (32 : Nat) (Sl.mk y4 y5 y6)
                  (1 : Nat) v6)
                fun v7 =>
                J Ex.normal
                  (f52e22 y0 y1 y2 y3 (Sl.o (Prod.fst v7)) (Sl.len (Prod.fst v7)) (Sl.cap (Prod.fst v7)) y7 y8 y9 y10 y11 y12 y13 y4 y5 y6 v1 v3 v5
                    (some (St.next σ, (0 : Nat))) (1 : Nat) (some (1 : Nat)) (Sl.o (Prod.fst v7)) (Sl.len (Prod.fst v7)) (Sl.cap (Prod.fst v7)))
                  (Prod.snd v7) := hide (by kernel_rfl)
theorem f52z43_f52e22 (y0 : Option (Nat × Nat)) (y1 : Int) (y2 : Int) (y3 : ByteArray) (y4 : Option (Nat × Nat)) (y5 : Nat) (y6 : Option Nat) (y7 : Nat) (y8 : Option (Nat × Nat)) (y9 : Nat) (y10 : Option Nat) (y11 : Int) (y12 : Int) (y13 : Bool) (y14 : Option (Nat × Nat)) (y15 : Nat) (y16 : Option Nat) (y17 : Int) (y18 : Int) (y19 : ByteArray) (y20 : Option (Nat × Nat)) (y21 : Nat) (y22 : Option Nat) (y23 : Option (Nat × Nat)) (y24 : Nat) (y25 : Option Nat) : Ann.clr f52a43 (f52e22 y0 y1 y2 y3 y4 y5 y6 y7 y8 y9 y10 y11 y12 y13 y14 y15 y16 y17 y18 y19 y20 y21 y22 y23 y24 y25) = f52e16 y0 y1 y2 y3 y4 y5 y6 y8 y9 y10 y11 y12 := hide (by kernel_rfl)
theorem f52n45 {R : Type} (call : Bool → CallF R) (dem : Bool) (N : Nat) (J : KF R) (e : Env) (σ : St) : runK Try.prog call dem N f52c45 f52a45 J e σ = J .normal e σ := runK_skip' (by kernel_rfl)
theorem f52z43_f52e21 (y0 : Option (Nat × Nat)) (y1 : Int) (y2 : Int) (y3 : ByteArray) (y4 : Option (Nat × Nat)) (y5 : Nat) (y6 : Option Nat) (y7 : Nat) (y8 : Option (Nat × Nat)) (y9 : Nat) (y10 : Option Nat) (y11 : Int) (y12 : Int) (y13 : Bool) : Ann.clr f52a43 (f52e21 y0 y1 y2 y3 y4 y5 y6 y7 y8 y9 y10 y11 y12 y13) = f52e16 y0 y1 y2 y3 y4 y5 y6 y8 y9 y10 y11 y12 := hide (by kernel_rfl)
theorem f52z37_f52e16 (y0 : Option (Nat × Nat)) (y1 : Int) (y2 : Int) (y3 : ByteArray) (y4 : Option (Nat × Nat)) (y5 : Nat) (y6 : Option Nat) (y7 : Option (Nat × Nat)) (y8 : Nat) (y9 : Option Nat) (y10 : Int) (y11 : Int) : Ann.clr f52a37 (f52e16 y0 y1 y2 y3 y4 y5 y6 y7 y8 y9 y10 y11) = f52e16 y0 y1 y2 y3 y4 y5 y6 y7 y8 y9 y10 y11 := hide (by kernel_rfl)
theorem f52z34_f52e16 (y0 : Option (Nat × Nat)) (y1 : Int) (y2 : Int) (y3 : ByteArray) (y4 : Option (Nat × Nat)) (y5 : Nat) (y6 : Option Nat) (y7 : Option (Nat × Nat)) (y8 : Nat) (y9 : Option Nat) (y10 : Int) (y11 : Int) : Ann.clr f52a34 (f52e16 y0 y1 y2 y3 y4 y5 y6 y7 y8 y9 y10 y11) = f52e16 y0 y1 y2 y3 y4 y5 y6 y7 y8 y9 y10 y11 := hide (by kernel_rfl)
theorem f52r38_f52e16 {R : Type} (call : Bool → CallF R) (dem : Bool) (N : Nat) (y0 : Option (Nat × Nat)) (y1 : Int) (y2 : Int) (y3 : ByteArray) (y4 : Option (Nat × Nat)) (y5 : Nat) (y6 : Option Nat) (y7 : Option (Nat × Nat)) (y8 : Nat) (y9 : Option Nat) (y10 : Int) (y11 : Int) (J : KF R) (σ : St) :
    runK Try.prog call dem N f52c38 f52a38 J (f52e16 y0 y1 y2 y3 y4 y5 y6 y7 y8 y9 y10 y11) σ =
J Ex.normal (f52e23 y0 y1 y2 y3 y4 y5 y6 y7 y8 y9 y10 (IntKind.wrap IntKind.i64 (y11 + (1 : Int))) (IntKind.wrap IntKind.i64 (y11 + (1 : Int)))) σ := hide (by kernel_rfl)
theorem f52z29_f52e23 (y0 : Option (Nat × Nat)) (y1 : Int) (y2 : Int) (y3 : ByteArray) (y4 : Option (Nat × Nat)) (y5 : Nat) (y6 : Option Nat) (y7 : Option (Nat × Nat)) (y8 : Nat) (y9 : Option Nat) (y10 : Int) (y11 : Int) (y12 : Int) : Ann.clr f52a29 (f52e23 y0 y1 y2 y3 y4 y5 y6 y7 y8 y9 y10 y11 y12) = f52e16 y0 y1 y2 y3 y4 y5 y6 y7 y8 y9 y10 y11 := hide (by kernel_rfl)
theorem f52z28_f52e14 (y0 : Option (Nat × Nat)) (y1 : Int) (y2 : Int) (y3 : ByteArray) (y4 : Option (Nat × Nat)) (y5 : Nat) (y6 : Option Nat) : Ann.clr f52a28 (f52e14 y0 y1 y2 y3 y4 y5 y6) = f52e14 y0 y1 y2 y3 y4 y5 y6 := hide (by kernel_rfl)
theorem f52z24_f52e14 (y0 : Option (Nat × Nat)) (y1 : Int) (y2 : Int) (y3 : ByteArray) (y4 : Option (Nat × Nat)) (y5 : Nat) (y6 : Option Nat) : Ann.clr f52a24 (f52e14 y0 y1 y2 y3 y4 y5 y6) = f52e14 y0 y1 y2 y3 y4 y5 y6 := hide (by kernel_rfl)
theorem f52n26 {R : Type} (call : Bool → CallF R) (dem : Bool) (N : Nat) (J : KF R) (e : Env) (σ : St) : runK Try.prog call dem N f52c26 f52a26 J e σ = runK Try.prog call dem N f52c46 f52a46 (seqC (fun K e σ => runK Try.prog call dem N f52c47 f52a47 K e σ) f52a26 J) e σ := runK_seq' (by kernel_rfl) (by kernel_rfl) (by kernel_rfl)
theorem f52r46_f52e14 {R : Type} (call : Bool → CallF R) (dem : Bool) (N : Nat) (y0 : Option (Nat × Nat)) (y1 : Int) (y2 : Int) (y3 : ByteArray) (y4 : Option (Nat × Nat)) (y5 : Nat) (y6 : Option Nat) (J : KF R) (σ : St) :
    runK Try.prog call dem N f52c46 f52a46 J (f52e14 y0 y1 y2 y3 y4 y5 y6) σ =
Option.bind
  (St.elems (St.new σ (Blk.cells [AV.int IntKind.i64 y1, AV.int IntKind.i64 y2, AV.str y3] true)) (3 : Nat)
    (Sl.mk (some (St.next σ, (0 : Nat))) (1 : Nat) (some (1 : Nat))) (1 : Nat))
  fun v0 =>
  Option.bind
    (St.app (St.new σ (Blk.cells [AV.int IntKind.i64 y1, AV.int IntKind.i64 y2, AV.str y3] true)) (3 : Nat) (32 : Nat) (Sl.mk y4 y5 y6) (1 : Nat) v0)
    fun v1 =>
    J Ex.normal
      (f52e24 y0 y1 y2 y3 (Sl.o (Prod.fst v1)) (Sl.len (Prod.fst v1)) (Sl.cap (Prod.fst v1)) y4 y5 y6 y1 y2 y3 y1 y2 y3 (some (St.next σ, (0 : Nat)))
        (1 : Nat) (some (1 : Nat)) (Sl.o (Prod.fst v1)) (Sl.len (Prod.fst v1)) (Sl.cap (Prod.fst v1)))
      (Prod.snd v1) := hide (by kernel_rfl)
theorem f52z26_f52e24 (y0 : Option (Nat × Nat)) (y1 : Int) (y2 : Int) (y3 : ByteArray) (y4 : Option (Nat × Nat)) (y5 : Nat) (y6 : Option Nat) (y7 : Option (Nat × Nat)) (y8 : Nat) (y9 : Option Nat) (y10 : Int) (y11 : Int) (y12 : ByteArray) (y13 : Int) (y14 : Int) (y15 : ByteArray) (y16 : Option (Nat × Nat)) (y17 : Nat) (y18 : Option Nat) (y19 : Option (Nat × Nat)) (y20 : Nat) (y21 : Option Nat) : Ann.clr f52a26 (f52e24 y0 y1 y2 y3 y4 y5 y6 y7 y8 y9 y10 y11 y12 y13 y14 y15 y16 y17 y18 y19 y20 y21) = f52e25 y0 y4 y5 y6 := hide (by kernel_rfl)
theorem f52n47 {R : Type} (call : Bool → CallF R) (dem : Bool) (N : Nat) (J : KF R) (e : Env) (σ : St) : runK Try.prog call dem N f52c47 f52a47 J e σ = runK Try.prog call dem N f52c48 f52a48 (seqC (fun K e σ => runK Try.prog call dem N f52c49 f52a49 K e σ) f52a47 J) e σ := runK_seq' (by kernel_rfl) (by kernel_rfl) (by kernel_rfl)
theorem f52r48_f52e25 {R : Type} (call : Bool → CallF R) (dem : Bool) (N : Nat) (y0 : Option (Nat × Nat)) (y1 : Option (Nat × Nat)) (y2 : Nat) (y3 : Option Nat) (J : KF R) (σ : St) :
    runK Try.prog call dem N f52c48 f52a48 J (f52e25 y0 y1 y2 y3) σ =
Option.bind y0 fun v0 =>
  Option.bind (St.st σ (Prod.fst v0) (Prod.snd v0 + (2 : Nat)) [AV.slice y1 y2 y3 (3 : Nat)]) fun v1 =>
    J Ex.normal (f52e26 y0 y1 y2 y3 y0 y1 y2 y3 (some v0) (some (Prod.fst v0, Prod.snd v0 + (2 : Nat)))) v1 := hide (by kernel_rfl)
theorem f52z47_f52e26 (y0 : Option (Nat × Nat)) (y1 : Option (Nat × Nat)) (y2 : Nat) (y3 : Option Nat) (y4 : Option (Nat × Nat)) (y5 : Option (Nat × Nat)) (y6 : Nat) (y7 : Option Nat) (y8 : Option (Nat × Nat)) (y9 : Option (Nat × Nat)) : Ann.clr f52a47 (f52e26 y0 y1 y2 y3 y4 y5 y6 y7 y8 y9) = f52e27 := hide (by kernel_rfl)
theorem f52n49 {R : Type} (call : Bool → CallF R) (dem : Bool) (N : Nat) (J : KF R) (e : Env) (σ : St) : runK Try.prog call dem N f52c49 f52a49 J e σ = runK Try.prog call dem N f52c50 f52a50 (seqC (fun K e σ => runK Try.prog call dem N f52c51 f52a51 K e σ) f52a49 J) e σ := runK_seq' (by kernel_rfl) (by kernel_rfl) (by kernel_rfl)
theorem f52r50_f52e27 {R : Type} (call : Bool → CallF R) (dem : Bool) (N : Nat) (J : KF R) (σ : St) :
    runK Try.prog call dem N f52c50 f52a50 J (f52e27) σ =
J Ex.normal (f52e7 true (0 : Int)) σ := hide (by kernel_rfl)
theorem f52z49_f52e7 (y0 : Bool) (y1 : Int) : Ann.clr f52a49 (f52e7 y0 y1) = f52e7 y0 y1 := hide (by kernel_rfl)
theorem f52y51_f52e7 {R : Type} (call : Bool → CallF R) (dem : Bool) (N : Nat) (y0 : Bool) (y1 : Int) (J : KF R) (σ : St) : runK Try.prog call dem N f52c51 f52a51 J (f52e7 y0 y1) σ = J .ret (f52e7 y0 y1) σ := runK_ret' (by kernel_rfl) (by kernel_rfl)
theorem f52b_f52e7_r {R : Type} (y0 : Bool) (y1 : Int) (σ : St) (K : AV → St → Option R) : bodyC Try.prog f52rs K (Ex.ret) (f52e7 y0 y1) σ =
K (AV.tuple [AV.bool y0, AV.int IntKind.i64 y1]) σ := hide (by kernel_rfl)
attribute [go_sem] f52_eq f52n0 f52r1_f52e0 f52z0_f52e1 f52n2 f52r3_f52e0 f52z2_f52e2 f52n4 f52n5 f52r7_f52e3 f52z5_f52e4 f52x8_f52e5 f52n9 f52r11_f52e5 f52z9_f52e6 f52y12_f52e7 f52n10 f52z8_f52e5 f52z4_f52e0 f52n6 f52r13_f52e0 f52z6_f52e8 f52n14 f52n15 f52r17_f52e9 f52z15_f52e10 f52x18_f52e12 f52n19 f52r21_f52e12 f52z19_f52e13 f52y22_f52e7 f52n20 f52z18_f52e12 f52z15_f52e11 f52z14_f52e0 f52n16 f52r23_f52e0 f52z16_f52e14 f52n24 f52n25 f52r27_f52e14 f52z25_f52e15 f52n28 f52L29_eq f52z29_f52e16 f52l29_f52e16 f52n30 f52r31_f52e16 f52z30_f52e17 f52n32 f52x33_f52e17 f52n35 f52z33_f52e17 f52y36_f52e17 f52z32_f52e16 f52n34 f52n37 f52n39 f52r40_f52e16 f52z39_f52e18 f52n41 f52r42_f52e19 f52z41_f52e20 f52x43_f52e21 f52r44_f52e21 f52z43_f52e22 f52n45 f52z43_f52e21 f52z37_f52e16 f52z34_f52e16 f52r38_f52e16 f52z29_f52e23 f52z28_f52e14 f52z24_f52e14 f52n26 f52r46_f52e14 f52z26_f52e24 f52n47 f52r48_f52e25 f52z47_f52e26 f52n49 f52r50_f52e27 f52z49_f52e7 f52y51_f52e7 f52b_f52e7_r

noncomputable def f53rs : List ResultVar := [ResultVar.tmp (4 : Nat), ResultVar.tmp (5 : Nat)]
noncomputable def f53c0 : Code := subCode [] (bodyOf Try.prog 53)
def f53a0 : Ann := subAnn [] ann53
noncomputable def f53c1 : Code := subCode [0] (bodyOf Try.prog 53)
def f53a1 : Ann := subAnn [0] ann53
noncomputable def f53c2 : Code := subCode [1] (bodyOf Try.prog 53)
def f53a2 : Ann := subAnn [1] ann53
noncomputable def f53c3 : Code := subCode [1, 0] (bodyOf Try.prog 53)
def f53a3 : Ann := subAnn [1, 0] ann53
noncomputable def f53c4 : Code := subCode [1, 1] (bodyOf Try.prog 53)
def f53a4 : Ann := subAnn [1, 1] ann53
noncomputable def f53c5 : Code := subCode [1, 0, 0] (bodyOf Try.prog 53)
def f53a5 : Ann := subAnn [1, 0, 0] ann53
noncomputable def f53c6 : Code := subCode [1, 0, 1] (bodyOf Try.prog 53)
def f53a6 : Ann := subAnn [1, 0, 1] ann53
noncomputable def f53c7 : Code := subCode [1, 0, 1, 0] (bodyOf Try.prog 53)
def f53a7 : Ann := subAnn [1, 0, 1, 0] ann53
noncomputable def f53c8 : Code := subCode [1, 0, 1, 1] (bodyOf Try.prog 53)
def f53a8 : Ann := subAnn [1, 0, 1, 1] ann53
noncomputable def f53c9 : Code := subCode [1, 0, 1, 0, 0] (bodyOf Try.prog 53)
def f53a9 : Ann := subAnn [1, 0, 1, 0, 0] ann53
noncomputable def f53c10 : Code := subCode [1, 0, 1, 0, 1] (bodyOf Try.prog 53)
def f53a10 : Ann := subAnn [1, 0, 1, 0, 1] ann53
noncomputable def f53c11 : Code := subCode [1, 1, 0] (bodyOf Try.prog 53)
def f53a11 : Ann := subAnn [1, 1, 0] ann53
noncomputable def f53c12 : Code := subCode [1, 1, 1] (bodyOf Try.prog 53)
def f53a12 : Ann := subAnn [1, 1, 1] ann53
noncomputable def f53c13 : Code := subCode [1, 1, 0, 0] (bodyOf Try.prog 53)
def f53a13 : Ann := subAnn [1, 1, 0, 0] ann53
noncomputable def f53c14 : Code := subCode [1, 1, 0, 1] (bodyOf Try.prog 53)
def f53a14 : Ann := subAnn [1, 1, 0, 1] ann53
noncomputable def f53c15 : Code := subCode [1, 1, 0, 1, 0] (bodyOf Try.prog 53)
def f53a15 : Ann := subAnn [1, 1, 0, 1, 0] ann53
noncomputable def f53c16 : Code := subCode [1, 1, 0, 1, 1] (bodyOf Try.prog 53)
def f53a16 : Ann := subAnn [1, 1, 0, 1, 1] ann53
noncomputable def f53c17 : Code := subCode [1, 1, 0, 1, 0, 0] (bodyOf Try.prog 53)
def f53a17 : Ann := subAnn [1, 1, 0, 1, 0, 0] ann53
noncomputable def f53c18 : Code := subCode [1, 1, 0, 1, 0, 1] (bodyOf Try.prog 53)
def f53a18 : Ann := subAnn [1, 1, 0, 1, 0, 1] ann53
noncomputable def f53c19 : Code := subCode [1, 1, 1, 0] (bodyOf Try.prog 53)
def f53a19 : Ann := subAnn [1, 1, 1, 0] ann53
noncomputable def f53c20 : Code := subCode [1, 1, 1, 1] (bodyOf Try.prog 53)
def f53a20 : Ann := subAnn [1, 1, 1, 1] ann53
noncomputable def f53c21 : Code := subCode [1, 1, 1, 1, 0] (bodyOf Try.prog 53)
def f53a21 : Ann := subAnn [1, 1, 1, 1, 0] ann53
noncomputable def f53c22 : Code := subCode [1, 1, 1, 1, 1] (bodyOf Try.prog 53)
def f53a22 : Ann := subAnn [1, 1, 1, 1, 1] ann53
noncomputable def f53c23 : Code := subCode [1, 1, 1, 1, 1, 0] (bodyOf Try.prog 53)
def f53a23 : Ann := subAnn [1, 1, 1, 1, 1, 0] ann53
noncomputable def f53c24 : Code := subCode [1, 1, 1, 1, 1, 1] (bodyOf Try.prog 53)
def f53a24 : Ann := subAnn [1, 1, 1, 1, 1, 1] ann53
noncomputable def f53c25 : Code := subCode [1, 1, 1, 1, 1, 1, 0] (bodyOf Try.prog 53)
def f53a25 : Ann := subAnn [1, 1, 1, 1, 1, 1, 0] ann53
noncomputable def f53c26 : Code := subCode [1, 1, 1, 1, 1, 1, 1] (bodyOf Try.prog 53)
def f53a26 : Ann := subAnn [1, 1, 1, 1, 1, 1, 1] ann53
def f53e0 (y0 : Option (Nat × Nat)) (y1 : Int) : Env := AV.ptr y0 :: AV.int IntKind.i64 y1 :: Env.sp 38 []
def f53e1 (y0 : Option (Nat × Nat)) (y1 : Int) (y2 : Bool) (y3 : Int) : Env := AV.ptr y0 :: AV.int IntKind.i64 y1 :: Env.sp 2 (AV.bool y2 :: AV.int IntKind.i64 y3 :: Env.sp 34 [])
def f53e2 (y0 : Option (Nat × Nat)) (y1 : Int) (y2 : Int) (y3 : Bool) (y4 : Bool) (y5 : Bool) : Env := AV.ptr y0 :: AV.int IntKind.i64 y1 :: Env.sp 4 (AV.int IntKind.i64 y2 :: AV.bool y3 :: AV.bool y4 :: AV.tuple [] :: AV.tuple [] :: AV.bool y5 :: Env.sp 28 [])
def f53e3 (y0 : Option (Nat × Nat)) (y1 : Int) (y2 : Int) (y3 : Bool) (y4 : Bool) (y5 : Int) (y6 : Bool) (y7 : Bool) : Env := AV.ptr y0 :: AV.int IntKind.i64 y1 :: Env.sp 4 (AV.int IntKind.i64 y2 :: AV.bool y3 :: AV.bool y4 :: AV.int IntKind.i64 y5 :: AV.bool y6 :: AV.bool y7 :: Env.sp 28 [])
def f53e4 (y0 : Option (Nat × Nat)) (y1 : Int) (y2 : Bool) : Env := AV.ptr y0 :: AV.int IntKind.i64 y1 :: Env.sp 9 (AV.bool y2 :: Env.sp 28 [])
def f53e5 (y0 : Option (Nat × Nat)) (y1 : Int) (y2 : Bool) (y3 : Int) (y4 : Bool) : Env := AV.ptr y0 :: AV.int IntKind.i64 y1 :: Env.sp 2 (AV.bool y2 :: AV.int IntKind.i64 y3 :: Env.sp 5 (AV.bool y4 :: Env.sp 28 []))
def f53e6 (y0 : Bool) (y1 : Int) : Env := Env.sp 4 (AV.bool y0 :: AV.int IntKind.i64 y1 :: Env.sp 34 [])
def f53e7 (y0 : Option (Nat × Nat)) (y1 : Int) (y2 : Int) (y3 : Option (Nat × Nat)) (y4 : Option (Nat × Nat)) (y5 : Option (Nat × Nat)) (y6 : Int) (y7 : Bool) : Env := AV.ptr y0 :: AV.int IntKind.i64 y1 :: Env.sp 10 (AV.int IntKind.i64 y2 :: AV.ptr y3 :: AV.ptr y4 :: AV.ptr y5 :: AV.int IntKind.i64 y6 :: AV.bool y7 :: Env.sp 22 [])
def f53e8 (y0 : Option (Nat × Nat)) (y1 : Int) (y2 : Bool) : Env := AV.ptr y0 :: AV.int IntKind.i64 y1 :: Env.sp 15 (AV.bool y2 :: Env.sp 22 [])
def f53e9 (y0 : Option (Nat × Nat)) (y1 : Int) (y2 : Bool) (y3 : Int) (y4 : Bool) : Env := AV.ptr y0 :: AV.int IntKind.i64 y1 :: Env.sp 2 (AV.bool y2 :: AV.int IntKind.i64 y3 :: Env.sp 11 (AV.bool y4 :: Env.sp 22 []))
def f53e10 (y0 : Option (Nat × Nat)) (y1 : Int) (y2 : Option (Nat × Nat)) (y3 : Int) (y4 : Option (Nat × Nat)) (y5 : Option (Nat × Nat)) : Env := AV.ptr y0 :: AV.int IntKind.i64 y1 :: Env.sp 16 (AV.ptr y2 :: AV.int IntKind.i64 y3 :: AV.ptr y4 :: AV.ptr y5 :: Env.sp 18 [])
def f53e11 (y0 : Option (Nat × Nat)) (y1 : Int) (y2 : Option (Nat × Nat)) (y3 : Option (Nat × Nat)) (y4 : Option (Nat × Nat)) (y5 : Option (Nat × Nat)) (y6 : Option (Nat × Nat)) (y7 : Nat) (y8 : Option Nat) (y9 : Int) (y10 : Option (Nat × Nat)) (y11 : Nat) (y12 : Option Nat) (y13 : Option (Nat × Nat)) (y14 : Option (Nat × Nat)) : Env := AV.ptr y0 :: AV.int IntKind.i64 y1 :: Env.sp 20 (AV.ptr y2 :: AV.ptr y3 :: AV.ptr y4 :: AV.ptr y5 :: AV.slice y6 y7 y8 (3 : Nat) :: AV.int IntKind.i64 y9 :: AV.slice y10 y11 y12 (3 : Nat) :: AV.ptr y13 :: AV.ptr y14 :: Env.sp 9 [])
def f53e12 (y0 : Option (Nat × Nat)) (y1 : Int) (y2 : Option (Nat × Nat)) (y3 : Option (Nat × Nat)) (y4 : Option (Nat × Nat)) (y5 : Option (Nat × Nat)) (y6 : Option (Nat × Nat)) (y7 : Nat) (y8 : Option Nat) (y9 : Int) (y10 : Option (Nat × Nat)) (y11 : Nat) (y12 : Option Nat) (y13 : Option (Nat × Nat)) (y14 : Option (Nat × Nat)) : Env := AV.ptr y0 :: AV.int IntKind.i64 y1 :: Env.sp 29 (AV.ptr y2 :: AV.ptr y3 :: AV.ptr y4 :: AV.ptr y5 :: AV.slice y6 y7 y8 (3 : Nat) :: AV.int IntKind.i64 y9 :: AV.slice y10 y11 y12 (3 : Nat) :: AV.ptr y13 :: AV.ptr y14 :: [])
def f53e13 : Env := Env.sp 40 []

/- function 53 -/
theorem f53_eq {R : Type} (call : Bool → CallF R) (dem : Bool) (N : Nat) (y0 : Option (Nat × Nat)) (y1 : Int) (σ : St) (K : AV → St → Option R) :
    bodyK Try.prog call dem N ann 53 [AV.ptr y0, AV.int IntKind.i64 y1] σ K = runK Try.prog call dem N f53c0 f53a0 (bodyC Try.prog f53rs K) (f53e0 y0 y1) σ := bodyK_of (fn := ((Try.prog.funcs[53]?).get rfl)) (by kernel_rfl) (by kernel_rfl) (by kernel_rfl) (by kernel_rfl) (by kernel_rfl) (by kernel_rfl)
theorem f53n0 {R : Type} (call : Bool → CallF R) (dem : Bool) (N : Nat) (J : KF R) (e : Env) (σ : St) : runK Try.prog call dem N f53c0 f53a0 J e σ = runK Try.prog call dem N f53c1 f53a1 (seqC (fun K e σ => runK Try.prog call dem N f53c2 f53a2 K e σ) f53a0 J) e σ := runK_seq' (by kernel_rfl) (by kernel_rfl) (by kernel_rfl)
theorem f53r1_f53e0 {R : Type} (call : Bool → CallF R) (dem : Bool) (N : Nat) (y0 : Option (Nat × Nat)) (y1 : Int) (J : KF R) (σ : St) :
    runK Try.prog call dem N f53c1 f53a1 J (f53e0 y0 y1) σ =
J Ex.normal (f53e1 y0 y1 false (0 : Int)) σ := hide (by kernel_rfl)
theorem f53z0_f53e1 (y0 : Option (Nat × Nat)) (y1 : Int) (y2 : Bool) (y3 : Int) : Ann.clr f53a0 (f53e1 y0 y1 y2 y3) = f53e0 y0 y1 := hide (by kernel_rfl)
theorem f53n2 {R : Type} (call : Bool → CallF R) (dem : Bool) (N : Nat) (J : KF R) (e : Env) (σ : St) : runK Try.prog call dem N f53c2 f53a2 J e σ = runK Try.prog call dem N f53c3 f53a3 (seqC (fun K e σ => runK Try.prog call dem N f53c4 f53a4 K e σ) f53a2 J) e σ := runK_seq' (by kernel_rfl) (by kernel_rfl) (by kernel_rfl)
theorem f53n3 {R : Type} (call : Bool → CallF R) (dem : Bool) (N : Nat) (J : KF R) (e : Env) (σ : St) : runK Try.prog call dem N f53c3 f53a3 J e σ = runK Try.prog call dem N f53c5 f53a5 (seqC (fun K e σ => runK Try.prog call dem N f53c6 f53a6 K e σ) f53a3 J) e σ := runK_seq' (by kernel_rfl) (by kernel_rfl) (by kernel_rfl)
theorem f53r5_f53e0 {R : Type} (call : Bool → CallF R) (dem : Bool) (N : Nat) (y0 : Option (Nat × Nat)) (y1 : Int) (J : KF R) (σ : St) :
    runK Try.prog call dem N f53c5 f53a5 J (f53e0 y0 y1) σ =
if decide (y1 < (0 : Int)) = true then J Ex.normal (f53e2 y0 y1 y1 (decide (y1 < (0 : Int))) true true) σ
else J Ex.normal (f53e3 y0 y1 y1 (decide (y1 < (0 : Int))) false y1 (decide (y1 > (1099511627768 : Int))) (decide (y1 > (1099511627768 : Int)))) σ := hide (by kernel_rfl)
theorem f53z3_f53e2 (y0 : Option (Nat × Nat)) (y1 : Int) (y2 : Int) (y3 : Bool) (y4 : Bool) (y5 : Bool) : Ann.clr f53a3 (f53e2 y0 y1 y2 y3 y4 y5) = f53e4 y0 y1 y5 := hide (by kernel_rfl)
theorem f53x6_f53e4 {R : Type} (call : Bool → CallF R) (dem : Bool) (N : Nat) (y0 : Option (Nat × Nat)) (y1 : Int) (y2 : Bool) (J : KF R) (σ : St) : runK Try.prog call dem N f53c6 f53a6 J (f53e4 y0 y1 y2) σ = if y2 = true then runK Try.prog call dem N f53c7 f53a7 (condC f53a6 J) (f53e4 y0 y1 y2) σ else runK Try.prog call dem N f53c8 f53a8 (condC f53a6 J) (f53e4 y0 y1 y2) σ := runK_cond' (o := Operand.tmp (11 : Nat)) (by kernel_rfl) (by kernel_rfl) (by kernel_rfl) (by kernel_rfl)
theorem f53n7 {R : Type} (call : Bool → CallF R) (dem : Bool) (N : Nat) (J : KF R) (e : Env) (σ : St) : runK Try.prog call dem N f53c7 f53a7 J e σ = runK Try.prog call dem N f53c9 f53a9 (seqC (fun K e σ => runK Try.prog call dem N f53c10 f53a10 K e σ) f53a7 J) e σ := runK_seq' (by kernel_rfl) (by kernel_rfl) (by kernel_rfl)
theorem f53r9_f53e4 {R : Type} (call : Bool → CallF R) (dem : Bool) (N : Nat) (y0 : Option (Nat × Nat)) (y1 : Int) (y2 : Bool) (J : KF R) (σ : St) :
    runK Try.prog call dem N f53c9 f53a9 J (f53e4 y0 y1 y2) σ =
J Ex.normal (f53e5 y0 y1 false (1 : Int) y2) σ := hide (by kernel_rfl)
theorem f53z7_f53e5 (y0 : Option (Nat × Nat)) (y1 : Int) (y2 : Bool) (y3 : Int) (y4 : Bool) : Ann.clr f53a7 (f53e5 y0 y1 y2 y3 y4) = f53e6 y2 y3 := hide (by kernel_rfl)
theorem f53y10_f53e6 {R : Type} (call : Bool → CallF R) (dem : Bool) (N : Nat) (y0 : Bool) (y1 : Int) (J : KF R) (σ : St) : runK Try.prog call dem N f53c10 f53a10 J (f53e6 y0 y1) σ = J .ret (f53e6 y0 y1) σ := runK_ret' (by kernel_rfl) (by kernel_rfl)
theorem f53n8 {R : Type} (call : Bool → CallF R) (dem : Bool) (N : Nat) (J : KF R) (e : Env) (σ : St) : runK Try.prog call dem N f53c8 f53a8 J e σ = J .normal e σ := runK_skip' (by kernel_rfl)
theorem f53z6_f53e4 (y0 : Option (Nat × Nat)) (y1 : Int) (y2 : Bool) : Ann.clr f53a6 (f53e4 y0 y1 y2) = f53e0 y0 y1 := hide (by kernel_rfl)
theorem f53z3_f53e3 (y0 : Option (Nat × Nat)) (y1 : Int) (y2 : Int) (y3 : Bool) (y4 : Bool) (y5 : Int) (y6 : Bool) (y7 : Bool) : Ann.clr f53a3 (f53e3 y0 y1 y2 y3 y4 y5 y6 y7) = f53e4 y0 y1 y7 := hide (by kernel_rfl)
theorem f53z2_f53e0 (y0 : Option (Nat × Nat)) (y1 : Int) : Ann.clr f53a2 (f53e0 y0 y1) = f53e0 y0 y1 := hide (by kernel_rfl)
theorem f53n4 {R : Type} (call : Bool → CallF R) (dem : Bool) (N : Nat) (J : KF R) (e : Env) (σ : St) : runK Try.prog call dem N f53c4 f53a4 J e σ = runK Try.prog call dem N f53c11 f53a11 (seqC (fun K e σ => runK Try.prog call dem N f53c12 f53a12 K e σ) f53a4 J) e σ := runK_seq' (by kernel_rfl) (by kernel_rfl) (by kernel_rfl)
theorem f53n11 {R : Type} (call : Bool → CallF R) (dem : Bool) (N : Nat) (J : KF R) (e : Env) (σ : St) : runK Try.prog call dem N f53c11 f53a11 J e σ = runK Try.prog call dem N f53c13 f53a13 (seqC (fun K e σ => runK Try.prog call dem N f53c14 f53a14 K e σ) f53a11 J) e σ := runK_seq' (by kernel_rfl) (by kernel_rfl) (by kernel_rfl)
theorem f53r13_f53e0 {R : Type} (call : Bool → CallF R) (dem : Bool) (N : Nat) (y0 : Option (Nat × Nat)) (y1 : Int) (J : KF R) (σ : St) :
    runK Try.prog call dem N f53c13 f53a13 J (f53e0 y0 y1) σ =
Option.bind y0 fun v0 =>
  Option.bind (St.ld σ (Prod.fst v0) (Prod.snd v0)) fun v1 =>
    Option.bind (AV.toInt IntKind.i64 v1) fun v2 =>
      J Ex.normal (f53e7 y0 y1 y1 y0 (some v0) (some (Prod.fst v0, Prod.snd v0)) v2 (decide (y1 ≤ v2))) σ := hide (by kernel_rfl)
theorem f53z11_f53e7 (y0 : Option (Nat × Nat)) (y1 : Int) (y2 : Int) (y3 : Option (Nat × Nat)) (y4 : Option (Nat × Nat)) (y5 : Option (Nat × Nat)) (y6 : Int) (y7 : Bool) : Ann.clr f53a11 (f53e7 y0 y1 y2 y3 y4 y5 y6 y7) = f53e8 y0 y1 y7 := hide (by kernel_rfl)
theorem f53x14_f53e8 {R : Type} (call : Bool → CallF R) (dem : Bool) (N : Nat) (y0 : Option (Nat × Nat)) (y1 : Int) (y2 : Bool) (J : KF R) (σ : St) : runK Try.prog call dem N f53c14 f53a14 J (f53e8 y0 y1 y2) σ = if y2 = true then runK Try.prog call dem N f53c15 f53a15 (condC f53a14 J) (f53e8 y0 y1 y2) σ else runK Try.prog call dem N f53c16 f53a16 (condC f53a14 J) (f53e8 y0 y1 y2) σ := runK_cond' (o := Operand.tmp (17 : Nat)) (by kernel_rfl) (by kernel_rfl) (by kernel_rfl) (by kernel_rfl)
theorem f53n15 {R : Type} (call : Bool → CallF R) (dem : Bool) (N : Nat) (J : KF R) (e : Env) (σ : St) : runK Try.prog call dem N f53c15 f53a15 J e σ = runK Try.prog call dem N f53c17 f53a17 (seqC (fun K e σ => runK Try.prog call dem N f53c18 f53a18 K e σ) f53a15 J) e σ := runK_seq' (by kernel_rfl) (by kernel_rfl) (by kernel_rfl)
theorem f53r17_f53e8 {R : Type} (call : Bool → CallF R) (dem : Bool) (N : Nat) (y0 : Option (Nat × Nat)) (y1 : Int) (y2 : Bool) (J : KF R) (σ : St) :
    runK Try.prog call dem N f53c17 f53a17 J (f53e8 y0 y1 y2) σ =
J Ex.normal (f53e9 y0 y1 false (0 : Int) y2) σ := hide (by kernel_rfl)
theorem f53z15_f53e9 (y0 : Option (Nat × Nat)) (y1 : Int) (y2 : Bool) (y3 : Int) (y4 : Bool) : Ann.clr f53a15 (f53e9 y0 y1 y2 y3 y4) = f53e6 y2 y3 := hide (by kernel_rfl)
theorem f53y18_f53e6 {R : Type} (call : Bool → CallF R) (dem : Bool) (N : Nat) (y0 : Bool) (y1 : Int) (J : KF R) (σ : St) : runK Try.prog call dem N f53c18 f53a18 J (f53e6 y0 y1) σ = J .ret (f53e6 y0 y1) σ := runK_ret' (by kernel_rfl) (by kernel_rfl)
theorem f53n16 {R : Type} (call : Bool → CallF R) (dem : Bool) (N : Nat) (J : KF R) (e : Env) (σ : St) : runK Try.prog call dem N f53c16 f53a16 J e σ = J .normal e σ := runK_skip' (by kernel_rfl)
theorem f53z14_f53e8 (y0 : Option (Nat × Nat)) (y1 : Int) (y2 : Bool) : Ann.clr f53a14 (f53e8 y0 y1 y2) = f53e0 y0 y1 := hide (by kernel_rfl)
theorem f53z4_f53e0 (y0 : Option (Nat × Nat)) (y1 : Int) : Ann.clr f53a4 (f53e0 y0 y1) = f53e0 y0 y1 := hide (by kernel_rfl)
theorem f53n12 {R : Type} (call : Bool → CallF R) (dem : Bool) (N : Nat) (J : KF R) (e : Env) (σ : St) : runK Try.prog call dem N f53c12 f53a12 J e σ = runK Try.prog call dem N f53c19 f53a19 (seqC (fun K e σ => runK Try.prog call dem N f53c20 f53a20 K e σ) f53a12 J) e σ := runK_seq' (by kernel_rfl) (by kernel_rfl) (by kernel_rfl)
theorem f53r19_f53e0 {R : Type} (call : Bool → CallF R) (dem : Bool) (N : Nat) (y0 : Option (Nat × Nat)) (y1 : Int) (J : KF R) (σ : St) :
    runK Try.prog call dem N f53c19 f53a19 J (f53e0 y0 y1) σ =
Option.bind y0 fun v0 =>
  Option.bind (St.st σ (Prod.fst v0) (Prod.snd v0) [AV.int IntKind.i64 y1]) fun v1 =>
    J Ex.normal (f53e10 y0 y1 y0 y1 (some v0) (some (Prod.fst v0, Prod.snd v0))) v1 := hide (by kernel_rfl)
theorem f53z12_f53e10 (y0 : Option (Nat × Nat)) (y1 : Int) (y2 : Option (Nat × Nat)) (y3 : Int) (y4 : Option (Nat × Nat)) (y5 : Option (Nat × Nat)) : Ann.clr f53a12 (f53e10 y0 y1 y2 y3 y4 y5) = f53e0 y0 y1 := hide (by kernel_rfl)
theorem f53n20 {R : Type} (call : Bool → CallF R) (dem : Bool) (N : Nat) (J : KF R) (e : Env) (σ : St) : runK Try.prog call dem N f53c20 f53a20 J e σ = runK Try.prog call dem N f53c21 f53a21 (seqC (fun K e σ => runK Try.prog call dem N f53c22 f53a22 K e σ) f53a20 J) e σ := runK_seq' (by kernel_rfl) (by kernel_rfl) (by kernel_rfl)
theorem f53r21_f53e0 {R : Type} (call : Bool → CallF R) (dem : Bool) (N : Nat) (y0 : Option (Nat × Nat)) (y1 : Int) (J : KF R) (σ : St) :
    runK Try.prog call dem N f53c21 f53a21 J (f53e0 y0 y1) σ =
Option.bind y0 fun v0 =>
  Option.bind (St.ld σ (Prod.fst v0) (Prod.snd v0 + (1 : Nat))) fun v1 =>
    Option.bind (AV.toSl (3 : Nat) v1) fun v2 =>
      call dem (57 : Nat) [AV.slice (Sl.o v2) (Sl.len v2) (Sl.cap v2) (3 : Nat), AV.int IntKind.i64 y1, AV.int IntKind.i64 (0 : Int)] σ fun v3 v4 =>
        Option.bind (AV.toSl (3 : Nat) v3) fun v5 =>
          Option.bind y0 fun v6 =>
            Option.bind (St.st v4 (Prod.fst v6) (Prod.snd v6 + (1 : Nat)) [AV.slice (Sl.o v5) (Sl.len v5) (Sl.cap v5) (3 : Nat)]) fun v7 =>
              J Ex.normal
                (f53e11 y0 y1 y0 y0 (some v0) (some (Prod.fst v0, Prod.snd v0 + (1 : Nat))) (Sl.o v2) (Sl.len v2) (Sl.cap v2) y1 (Sl.o v5) (Sl.len v5)
                  (Sl.cap v5) (some v6) (some (Prod.fst v6, Prod.snd v6 + (1 : Nat))))
                v7 := hide (by kernel_rfl)
theorem f53z20_f53e11 (y0 : Option (Nat × Nat)) (y1 : Int) (y2 : Option (Nat × Nat)) (y3 : Option (Nat × Nat)) (y4 : Option (Nat × Nat)) (y5 : Option (Nat × Nat)) (y6 : Option (Nat × Nat)) (y7 : Nat) (y8 : Option Nat) (y9 : Int) (y10 : Option (Nat × Nat)) (y11 : Nat) (y12 : Option Nat) (y13 : Option (Nat × Nat)) (y14 : Option (Nat × Nat)) : Ann.clr f53a20 (f53e11 y0 y1 y2 y3 y4 y5 y6 y7 y8 y9 y10 y11 y12 y13 y14) = f53e0 y0 y1 := hide (by kernel_rfl)
theorem f53n22 {R : Type} (call : Bool → CallF R) (dem : Bool) (N : Nat) (J : KF R) (e : Env) (σ : St) : runK Try.prog call dem N f53c22 f53a22 J e σ = runK Try.prog call dem N f53c23 f53a23 (seqC (fun K e σ => runK Try.prog call dem N f53c24 f53a24 K e σ) f53a22 J) e σ := runK_seq' (by kernel_rfl) (by kernel_rfl) (by kernel_rfl)
theorem f53r23_f53e0 {R : Type} (call : Bool → CallF R) (dem : Bool) (N : Nat) (y0 : Option (Nat × Nat)) (y1 : Int) (J : KF R) (σ : St) :
    runK Try.prog call dem N f53c23 f53a23 J (f53e0 y0 y1) σ =
Option.bind y0 fun v0 =>
  Option.bind (St.ld σ (Prod.fst v0) (Prod.snd v0 + (2 : Nat))) fun v1 =>
    Option.bind (AV.toSl (3 : Nat) v1) fun v2 =>
      call dem (57 : Nat) [AV.slice (Sl.o v2) (Sl.len v2) (Sl.cap v2) (3 : Nat), AV.int IntKind.i64 y1, AV.int IntKind.i64 (0 : Int)] σ fun v3 v4 =>
        Option.bind (AV.toSl (3 : Nat) v3) fun v5 =>
          Option.bind y0 fun v6 =>
            Option.bind (St.st v4 (Prod.fst v6) (Prod.snd v6 + (2 : Nat)) [AV.slice (Sl.o v5) (Sl.len v5) (Sl.cap v5) (3 : Nat)]) fun v7 =>
              J Ex.normal
                (f53e12 y0 y1 y0 y0 (some v0) (some (Prod.fst v0, Prod.snd v0 + (2 : Nat))) (Sl.o v2) (Sl.len v2) (Sl.cap v2) y1 (Sl.o v5) (Sl.len v5)
                  (Sl.cap v5) (some v6) (some (Prod.fst v6, Prod.snd v6 + (2 : Nat))))
                v7 := hide (by kernel_rfl)
theorem f53z22_f53e12 (y0 : Option (Nat × Nat)) (y1 : Int) (y2 : Option (Nat × Nat)) (y3 : Option (Nat × Nat)) (y4 : Option (Nat × Nat)) (y5 : Option (Nat × Nat)) (y6 : Option (Nat × Nat)) (y7 : Nat) (y8 : Option Nat) (y9 : Int) (y10 : Option (Nat × Nat)) (y11 : Nat) (y12 : Option Nat) (y13 : Option (Nat × Nat)) (y14 : Option (Nat × Nat)) : Ann.clr f53a22 (f53e12 y0 y1 y2 y3 y4 y5 y6 y7 y8 y9 y10 y11 y12 y13 y14) = f53e13 := hide (by kernel_rfl)
theorem f53n24 {R : Type} (call : Bool → CallF R) (dem : Bool) (N : Nat) (J : KF R) (e : Env) (σ : St) : runK Try.prog call dem N f53c24 f53a24 J e σ = runK Try.prog call dem N f53c25 f53a25 (seqC (fun K e σ => runK Try.prog call dem N f53c26 f53a26 K e σ) f53a24 J) e σ := runK_seq' (by kernel_rfl) (by kernel_rfl) (by kernel_rfl)
theorem f53r25_f53e13 {R : Type} (call : Bool → CallF R) (dem : Bool) (N : Nat) (J : KF R) (σ : St) :
    runK Try.prog call dem N f53c25 f53a25 J (f53e13) σ =
J Ex.normal (f53e6 true (0 : Int)) σ := hide (by kernel_rfl)
theorem f53z24_f53e6 (y0 : Bool) (y1 : Int) : Ann.clr f53a24 (f53e6 y0 y1) = f53e6 y0 y1 := hide (by kernel_rfl)
theorem f53y26_f53e6 {R : Type} (call : Bool → CallF R) (dem : Bool) (N : Nat) (y0 : Bool) (y1 : Int) (J : KF R) (σ : St) : runK Try.prog call dem N f53c26 f53a26 J (f53e6 y0 y1) σ = J .ret (f53e6 y0 y1) σ := runK_ret' (by kernel_rfl) (by kernel_rfl)
theorem f53b_f53e6_r {R : Type} (y0 : Bool) (y1 : Int) (σ : St) (K : AV → St → Option R) : bodyC Try.prog f53rs K (Ex.ret) (f53e6 y0 y1) σ =
K (AV.tuple [AV.bool y0, AV.int IntKind.i64 y1]) σ := hide (by kernel_rfl)
attribute [go_sem] f53_eq f53n0 f53r1_f53e0 f53z0_f53e1 f53n2 f53n3 f53r5_f53e0 f53z3_f53e2 f53x6_f53e4 f53n7 f53r9_f53e4 f53z7_f53e5 f53y10_f53e6 f53n8 f53z6_f53e4 f53z3_f53e3 f53z2_f53e0 f53n4 f53n11 f53r13_f53e0 f53z11_f53e7 f53x14_f53e8 f53n15 f53r17_f53e8 f53z15_f53e9 f53y18_f53e6 f53n16 f53z14_f53e8 f53z4_f53e0 f53n12 f53r19_f53e0 f53z12_f53e10 f53n20 f53r21_f53e0 f53z20_f53e11 f53n22 f53r23_f53e0 f53z22_f53e12 f53n24 f53r25_f53e13 f53z24_f53e6 f53y26_f53e6 f53b_f53e6_r

noncomputable def f54rs : List ResultVar := [ResultVar.tmp (4 : Nat)]
noncomputable def f54c0 : Code := subCode [] (bodyOf Try.prog 54)
def f54a0 : Ann := subAnn [] ann54
noncomputable def f54c1 : Code := subCode [0] (bodyOf Try.prog 54)
def f54a1 : Ann := subAnn [0] ann54
noncomputable def f54c2 : Code := subCode [1] (bodyOf Try.prog 54)
def f54a2 : Ann := subAnn [1] ann54
noncomputable def f54c3 : Code := subCode [1, 0] (bodyOf Try.prog 54)
def f54a3 : Ann := subAnn [1, 0] ann54
noncomputable def f54c4 : Code := subCode [1, 1] (bodyOf Try.prog 54)
def f54a4 : Ann := subAnn [1, 1] ann54
noncomputable def f54c5 : Code := subCode [1, 1, 0] (bodyOf Try.prog 54)
def f54a5 : Ann := subAnn [1, 1, 0] ann54
noncomputable def f54c6 : Code := subCode [1, 1, 1] (bodyOf Try.prog 54)
def f54a6 : Ann := subAnn [1, 1, 1] ann54
noncomputable def f54c7 : Code := subCode [1, 1, 1, 0] (bodyOf Try.prog 54)
def f54a7 : Ann := subAnn [1, 1, 1, 0] ann54
noncomputable def f54c8 : Code := subCode [1, 1, 1, 1] (bodyOf Try.prog 54)
def f54a8 : Ann := subAnn [1, 1, 1, 1] ann54
def f54e0 (y0 : Option (Nat × Nat)) (y1 : Int) : Env := AV.ptr y0 :: AV.int IntKind.i64 y1 :: Env.sp 29 []
def f54e1 (y0 : Option (Nat × Nat)) (y1 : Int) (y2 : Int) : Env := AV.ptr y0 :: AV.int IntKind.i64 y1 :: Env.sp 2 (AV.int IntKind.i64 y2 :: Env.sp 26 [])
def f54e2 (y0 : Option (Nat × Nat)) (y1 : Int) (y2 : Int) (y3 : Option (Nat × Nat)) (y4 : Option (Nat × Nat)) (y5 : Option (Nat × Nat)) (y6 : Option (Nat × Nat)) (y7 : Nat) (y8 : Option Nat) (y9 : Int) : Env := AV.ptr y0 :: AV.int IntKind.i64 y1 :: Env.sp 3 (AV.int IntKind.i64 y2 :: AV.ptr y3 :: AV.ptr y4 :: AV.ptr y5 :: AV.slice y6 y7 y8 (3 : Nat) :: AV.int IntKind.i64 y9 :: Env.sp 20 [])
def f54e3 (y0 : Option (Nat × Nat)) (y1 : Int) (y2 : Int) : Env := AV.ptr y0 :: AV.int IntKind.i64 y1 :: Env.sp 3 (AV.int IntKind.i64 y2 :: Env.sp 25 [])
def f54e4 (y0 : Option (Nat × Nat)) (y1 : Int) (y2 : Int) (y3 : Option (Nat × Nat)) (y4 : Option (Nat × Nat)) (y5 : Option (Nat × Nat)) (y6 : Option (Nat × Nat)) (y7 : Option (Nat × Nat)) (y8 : Nat) (y9 : Option Nat) (y10 : Option (Nat × Nat)) (y11 : Option (Nat × Nat)) (y12 : Option (Nat × Nat)) (y13 : Int) (y14 : Int) (y15 : Option (Nat × Nat)) (y16 : Nat) (y17 : Option Nat) (y18 : Option (Nat × Nat)) (y19 : Option (Nat × Nat)) : Env := AV.ptr y0 :: AV.int IntKind.i64 y1 :: Env.sp 3 (AV.int IntKind.i64 y2 :: Env.sp 5 (AV.ptr y3 :: AV.ptr y4 :: AV.ptr y5 :: AV.ptr y6 :: AV.slice y7 y8 y9 (3 : Nat) :: AV.ptr y10 :: AV.ptr y11 :: AV.ptr y12 :: AV.int IntKind.i64 y13 :: AV.int IntKind.i64 y14 :: AV.slice y15 y16 y17 (3 : Nat) :: AV.ptr y18 :: AV.ptr y19 :: Env.sp 7 []))
def f54e5 (y0 : Option (Nat × Nat)) (y1 : Int) : Env := AV.ptr y0 :: Env.sp 4 (AV.int IntKind.i64 y1 :: Env.sp 25 [])
def f54e6 (y0 : Option (Nat × Nat)) (y1 : Int) (y2 : Int) (y3 : Int) (y4 : Option (Nat × Nat)) (y5 : Option (Nat × Nat)) (y6 : Option (Nat × Nat)) (y7 : Option (Nat × Nat)) (y8 : Nat) (y9 : Option Nat) (y10 : Int) (y11 : Int) : Env := AV.ptr y0 :: Env.sp 3 (AV.int IntKind.i64 y1 :: AV.int IntKind.i64 y2 :: Env.sp 18 (AV.int IntKind.i64 y3 :: AV.ptr y4 :: AV.ptr y5 :: AV.ptr y6 :: AV.slice y7 y8 y9 (3 : Nat) :: AV.int IntKind.i64 y10 :: AV.int IntKind.i64 y11 :: []))
def f54e7 (y0 : Int) : Env := Env.sp 4 (AV.int IntKind.i64 y0 :: Env.sp 26 [])

/- function 54 -/
theorem f54_eq {R : Type} (call : Bool → CallF R) (dem : Bool) (N : Nat) (y0 : Option (Nat × Nat)) (y1 : Int) (σ : St) (K : AV → St → Option R) :
    bodyK Try.prog call dem N ann 54 [AV.ptr y0, AV.int IntKind.i64 y1] σ K = runK Try.prog call dem N f54c0 f54a0 (bodyC Try.prog f54rs K) (f54e0 y0 y1) σ := bodyK_of (fn := ((Try.prog.funcs[54]?).get rfl)) (by kernel_rfl) (by kernel_rfl) (by kernel_rfl) (by kernel_rfl) (by kernel_rfl) (by kernel_rfl)
theorem f54n0 {R : Type} (call : Bool → CallF R) (dem : Bool) (N : Nat) (J : KF R) (e : Env) (σ : St) : runK Try.prog call dem N f54c0 f54a0 J e σ = runK Try.prog call dem N f54c1 f54a1 (seqC (fun K e σ => runK Try.prog call dem N f54c2 f54a2 K e σ) f54a0 J) e σ := runK_seq' (by kernel_rfl) (by kernel_rfl) (by kernel_rfl)
theorem f54r1_f54e0 {R : Type} (call : Bool → CallF R) (dem : Bool) (N : Nat) (y0 : Option (Nat × Nat)) (y1 : Int) (J : KF R) (σ : St) :
    runK Try.prog call dem N f54c1 f54a1 J (f54e0 y0 y1) σ =
J Ex.normal (f54e1 y0 y1 (0 : Int)) σ := hide (by kernel_rfl)
theorem f54z0_f54e1 (y0 : Option (Nat × Nat)) (y1 : Int) (y2 : Int) : Ann.clr f54a0 (f54e1 y0 y1 y2) = f54e0 y0 y1 := hide (by kernel_rfl)
theorem f54n2 {R : Type} (call : Bool → CallF R) (dem : Bool) (N : Nat) (J : KF R) (e : Env) (σ : St) : runK Try.prog call dem N f54c2 f54a2 J e σ = runK Try.prog call dem N f54c3 f54a3 (seqC (fun K e σ => runK Try.prog call dem N f54c4 f54a4 K e σ) f54a2 J) e σ := runK_seq' (by kernel_rfl) (by kernel_rfl) (by kernel_rfl)
theorem f54r3_f54e0 {R : Type} (call : Bool → CallF R) (dem : Bool) (N : Nat) (y0 : Option (Nat × Nat)) (y1 : Int) (J : KF R) (σ : St) :
    runK Try.prog call dem N f54c3 f54a3 J (f54e0 y0 y1) σ =
Option.bind y0 fun v0 =>
  Option.bind (St.ld σ (Prod.fst v0) (Prod.snd v0 + (1 : Nat))) fun v1 =>
    Option.bind (AV.toSl (3 : Nat) v1) fun v2 =>
      J Ex.normal
        (f54e2 y0 y1 (↑(Sl.len v2) : Int) y0 (some v0) (some (Prod.fst v0, Prod.snd v0 + (1 : Nat))) (Sl.o v2) (Sl.len v2) (Sl.cap v2)
          (↑(Sl.len v2) : Int))
        σ := hide (by kernel_rfl)
theorem f54z2_f54e2 (y0 : Option (Nat × Nat)) (y1 : Int) (y2 : Int) (y3 : Option (Nat × Nat)) (y4 : Option (Nat × Nat)) (y5 : Option (Nat × Nat)) (y6 : Option (Nat × Nat)) (y7 : Nat) (y8 : Option Nat) (y9 : Int) : Ann.clr f54a2 (f54e2 y0 y1 y2 y3 y4 y5 y6 y7 y8 y9) = f54e3 y0 y1 y2 := hide (by kernel_rfl)
theorem f54n4 {R : Type} (call : Bool → CallF R) (dem : Bool) (N : Nat) (J : KF R) (e : Env) (σ : St) : runK Try.prog call dem N f54c4 f54a4 J e σ = runK Try.prog call dem N f54c5 f54a5 (seqC (fun K e σ => runK Try.prog call dem N f54c6 f54a6 K e σ) f54a4 J) e σ := runK_seq' (by kernel_rfl) (by kernel_rfl) (by kernel_rfl)
theorem f54r5_f54e3 {R : Type} (call : Bool → CallF R) (dem : Bool) (N : Nat) (y0 : Option (Nat × Nat)) (y1 : Int) (y2 : Int) (J : KF R) (σ : St) :
    runK Try.prog call dem N f54c5 f54a5 J (f54e3 y0 y1 y2) σ =
Option.bind y0 fun v0 =>
  Option.bind (St.ld σ (Prod.fst v0) (Prod.snd v0 + (1 : Nat))) fun v1 =>
    Option.bind (AV.toSl (3 : Nat) v1) fun v2 =>
      Option.bind y0 fun v3 =>
        Option.bind (St.ld σ (Prod.fst v3) (Prod.snd v3)) fun v4 =>
          Option.bind (AV.toInt IntKind.i64 v4) fun v5 =>
            call false (57 : Nat) [AV.slice (Sl.o v2) (Sl.len v2) (Sl.cap v2) (3 : Nat), AV.int IntKind.i64 v5, AV.int IntKind.i64 y1] σ fun v6 v7 =>
              Option.bind (AV.toSl (3 : Nat) v6) fun v8 =>
                Option.bind y0 fun v9 =>
                  Option.bind (St.st v7 (Prod.fst v9) (Prod.snd v9 + (1 : Nat)) [AV.slice (Sl.o v8) (Sl.len v8) (Sl.cap v8) (3 : Nat)]) fun v10 =>
                    J Ex.normal
                      (f54e4 y0 y1 y2 y0 y0 (some v0) (some (Prod.fst v0, Prod.snd v0 + (1 : Nat))) (Sl.o v2) (Sl.len v2) (Sl.cap v2) y0 (some v3)
                        (some (Prod.fst v3, Prod.snd v3)) v5 y1 (Sl.o v8) (Sl.len v8) (Sl.cap v8) (some v9)
                        (some (Prod.fst v9, Prod.snd v9 + (1 : Nat))))
                      v10 := hide (by kernel_rfl)
theorem f54z4_f54e4 (y0 : Option (Nat × Nat)) (y1 : Int) (y2 : Int) (y3 : Option (Nat × Nat)) (y4 : Option (Nat × Nat)) (y5 : Option (Nat × Nat)) (y6 : Option (Nat × Nat)) (y7 : Option (Nat × Nat)) (y8 : Nat) (y9 : Option Nat) (y10 : Option (Nat × Nat)) (y11 : Option (Nat × Nat)) (y12 : Option (Nat × Nat)) (y13 : Int) (y14 : Int) (y15 : Option (Nat × Nat)) (y16 : Nat) (y17 : Option Nat) (y18 : Option (Nat × Nat)) (y19 : Option (Nat × Nat)) : Ann.clr f54a4 (f54e4 y0 y1 y2 y3 y4 y5 y6 y7 y8 y9 y10 y11 y12 y13 y14 y15 y16 y17 y18 y19) = f54e5 y0 y2 := hide (by kernel_rfl)
theorem f54n6 {R : Type} (call : Bool → CallF R) (dem : Bool) (N : Nat) (J : KF R) (e : Env) (σ : St) : runK Try.prog call dem N f54c6 f54a6 J e σ = runK Try.prog call dem N f54c7 f54a7 (seqC (fun K e σ => runK Try.prog call dem N f54c8 f54a8 K e σ) f54a6 J) e σ := runK_seq' (by kernel_rfl) (by kernel_rfl) (by kernel_rfl)
theorem f54r7_f54e5 {R : Type} (call : Bool → CallF R) (dem : Bool) (N : Nat) (y0 : Option (Nat × Nat)) (y1 : Int) (J : KF R) (σ : St) :
    runK Try.prog call dem N f54c7 f54a7 J (f54e5 y0 y1) σ =
Option.bind y0 fun v0 =>
  Option.bind (St.ld σ (Prod.fst v0) (Prod.snd v0 + (1 : Nat))) fun v1 =>
    Option.bind (AV.toSl (3 : Nat) v1) fun v2 =>
      J Ex.normal
        (f54e6 y0 (IntKind.wrap IntKind.i64 (y1 - (↑(Sl.len v2) : Int))) y1 y1 y0 (some v0) (some (Prod.fst v0, Prod.snd v0 + (1 : Nat))) (Sl.o v2)
          (Sl.len v2) (Sl.cap v2) (↑(Sl.len v2) : Int) (IntKind.wrap IntKind.i64 (y1 - (↑(Sl.len v2) : Int))))
        σ := hide (by kernel_rfl)
theorem f54z6_f54e6 (y0 : Option (Nat × Nat)) (y1 : Int) (y2 : Int) (y3 : Int) (y4 : Option (Nat × Nat)) (y5 : Option (Nat × Nat)) (y6 : Option (Nat × Nat)) (y7 : Option (Nat × Nat)) (y8 : Nat) (y9 : Option Nat) (y10 : Int) (y11 : Int) : Ann.clr f54a6 (f54e6 y0 y1 y2 y3 y4 y5 y6 y7 y8 y9 y10 y11) = f54e7 y1 := hide (by kernel_rfl)
theorem f54y8_f54e7 {R : Type} (call : Bool → CallF R) (dem : Bool) (N : Nat) (y0 : Int) (J : KF R) (σ : St) : runK Try.prog call dem N f54c8 f54a8 J (f54e7 y0) σ = J .ret (f54e7 y0) σ := runK_ret' (by kernel_rfl) (by kernel_rfl)
theorem f54b_f54e7_r {R : Type} (y0 : Int) (σ : St) (K : AV → St → Option R) : bodyC Try.prog f54rs K (Ex.ret) (f54e7 y0) σ =
K (AV.int IntKind.i64 y0) σ := hide (by kernel_rfl)
attribute [go_sem] f54_eq f54n0 f54r1_f54e0 f54z0_f54e1 f54n2 f54r3_f54e0 f54z2_f54e2 f54n4 f54r5_f54e3 f54z4_f54e4 f54n6 f54r7_f54e5 f54z6_f54e6 f54y8_f54e7 f54b_f54e7_r

noncomputable def f56rs : List ResultVar := [ResultVar.tmp (6 : Nat)]
noncomputable def f56c0 : Code := subCode [] (bodyOf Try.prog 56)
def f56a0 : Ann := subAnn [] ann56
noncomputable def f56c1 : Code := subCode [0] (bodyOf Try.prog 56)
def f56a1 : Ann := subAnn [0] ann56
noncomputable def f56c2 : Code := subCode [1] (bodyOf Try.prog 56)
def f56a2 : Ann := subAnn [1] ann56
noncomputable def f56c3 : Code := subCode [1, 0] (bodyOf Try.prog 56)
def f56a3 : Ann := subAnn [1, 0] ann56
noncomputable def f56c4 : Code := subCode [1, 1] (bodyOf Try.prog 56)
def f56a4 : Ann := subAnn [1, 1] ann56
noncomputable def f56c5 : Code := subCode [1, 0, 0] (bodyOf Try.prog 56)
def f56a5 : Ann := subAnn [1, 0, 0] ann56
noncomputable def f56c6 : Code := subCode [1, 0, 1] (bodyOf Try.prog 56)
def f56a6 : Ann := subAnn [1, 0, 1] ann56
noncomputable def f56c7 : Code := subCode [1, 0, 1, 0] (bodyOf Try.prog 56)
def f56a7 : Ann := subAnn [1, 0, 1, 0] ann56
noncomputable def f56c8 : Code := subCode [1, 0, 1, 1] (bodyOf Try.prog 56)
def f56a8 : Ann := subAnn [1, 0, 1, 1] ann56
noncomputable def f56c9 : Code := subCode [1, 0, 1, 0, 0] (bodyOf Try.prog 56)
def f56a9 : Ann := subAnn [1, 0, 1, 0, 0] ann56
noncomputable def f56c10 : Code := subCode [1, 0, 1, 0, 1] (bodyOf Try.prog 56)
def f56a10 : Ann := subAnn [1, 0, 1, 0, 1] ann56
noncomputable def f56c11 : Code := subCode [1, 1, 0] (bodyOf Try.prog 56)
def f56a11 : Ann := subAnn [1, 1, 0] ann56
noncomputable def f56c12 : Code := subCode [1, 1, 1] (bodyOf Try.prog 56)
def f56a12 : Ann := subAnn [1, 1, 1] ann56
noncomputable def f56c13 : Code := subCode [1, 1, 0, 0] (bodyOf Try.prog 56)
def f56a13 : Ann := subAnn [1, 1, 0, 0] ann56
noncomputable def f56c14 : Code := subCode [1, 1, 0, 1] (bodyOf Try.prog 56)
def f56a14 : Ann := subAnn [1, 1, 0, 1] ann56
noncomputable def f56c15 : Code := subCode [1, 1, 0, 1, 0] (bodyOf Try.prog 56)
def f56a15 : Ann := subAnn [1, 1, 0, 1, 0] ann56
noncomputable def f56c16 : Code := subCode [1, 1, 0, 1, 1] (bodyOf Try.prog 56)
def f56a16 : Ann := subAnn [1, 1, 0, 1, 1] ann56
noncomputable def f56c17 : Code := subCode [1, 1, 0, 1, 0, 0] (bodyOf Try.prog 56)
def f56a17 : Ann := subAnn [1, 1, 0, 1, 0, 0] ann56
noncomputable def f56c18 : Code := subCode [1, 1, 0, 1, 0, 1] (bodyOf Try.prog 56)
def f56a18 : Ann := subAnn [1, 1, 0, 1, 0, 1] ann56
noncomputable def f56c19 : Code := subCode [1, 1, 1, 0] (bodyOf Try.prog 56)
def f56a19 : Ann := subAnn [1, 1, 1, 0] ann56
noncomputable def f56c20 : Code := subCode [1, 1, 1, 1] (bodyOf Try.prog 56)
def f56a20 : Ann := subAnn [1, 1, 1, 1] ann56
def f56e0 (y0 : Option (Nat × Nat)) (y1 : Int) (y2 : Int) : Env := AV.ptr y0 :: AV.int IntKind.i64 y1 :: AV.int IntKind.i64 y2 :: Env.sp 14 []
def f56e1 (y0 : Option (Nat × Nat)) (y1 : Int) (y2 : Int) (y3 : Int) : Env := AV.ptr y0 :: AV.int IntKind.i64 y1 :: AV.int IntKind.i64 y2 :: Env.sp 3 (AV.int IntKind.i64 y3 :: Env.sp 10 [])
def f56e2 (y0 : Option (Nat × Nat)) (y1 : Int) (y2 : Int) (y3 : Int) (y4 : Bool) (y5 : Bool) (y6 : Bool) : Env := AV.ptr y0 :: AV.int IntKind.i64 y1 :: AV.int IntKind.i64 y2 :: Env.sp 4 (AV.int IntKind.i64 y3 :: AV.bool y4 :: AV.bool y5 :: AV.tuple [] :: AV.tuple [] :: AV.bool y6 :: Env.sp 4 [])
def f56e3 (y0 : Option (Nat × Nat)) (y1 : Int) (y2 : Int) (y3 : Int) (y4 : Bool) (y5 : Bool) (y6 : Int) (y7 : Bool) (y8 : Bool) : Env := AV.ptr y0 :: AV.int IntKind.i64 y1 :: AV.int IntKind.i64 y2 :: Env.sp 4 (AV.int IntKind.i64 y3 :: AV.bool y4 :: AV.bool y5 :: AV.int IntKind.i64 y6 :: AV.bool y7 :: AV.bool y8 :: Env.sp 4 [])
def f56e4 (y0 : Option (Nat × Nat)) (y1 : Int) (y2 : Bool) : Env := AV.ptr y0 :: Env.sp 1 (AV.int IntKind.i64 y1 :: Env.sp 9 (AV.bool y2 :: Env.sp 4 []))
def f56e5 (y0 : Option (Nat × Nat)) (y1 : Int) (y2 : Int) (y3 : Bool) : Env := AV.ptr y0 :: Env.sp 1 (AV.int IntKind.i64 y1 :: Env.sp 3 (AV.int IntKind.i64 y2 :: Env.sp 5 (AV.bool y3 :: Env.sp 4 [])))
def f56e6 (y0 : Int) : Env := Env.sp 6 (AV.int IntKind.i64 y0 :: Env.sp 10 [])
def f56e7 (y0 : Option (Nat × Nat)) (y1 : Int) : Env := AV.ptr y0 :: Env.sp 1 (AV.int IntKind.i64 y1 :: Env.sp 14 [])
def f56e8 (y0 : Option (Nat × Nat)) (y1 : Int) (y2 : Option (Nat × Nat)) (y3 : Int) (y4 : Bool) (y5 : Bool) : Env := AV.ptr y0 :: Env.sp 1 (AV.int IntKind.i64 y1 :: Env.sp 10 (AV.ptr y2 :: AV.int IntKind.i64 y3 :: AV.bool y4 :: AV.bool y5 :: []))
def f56e9 (y0 : Bool) : Env := Env.sp 16 (AV.bool y0 :: [])
def f56e10 (y0 : Int) (y1 : Bool) : Env := Env.sp 6 (AV.int IntKind.i64 y0 :: Env.sp 9 (AV.bool y1 :: []))
def f56e11 : Env := Env.sp 17 []

/- function 56 -/
theorem f56_eq {R : Type} (call : Bool → CallF R) (dem : Bool) (N : Nat) (y0 : Option (Nat × Nat)) (y1 : Int) (y2 : Int) (σ : St) (K : AV → St → Option R) :
    bodyK Try.prog call dem N ann 56 [AV.ptr y0, AV.int IntKind.i64 y1, AV.int IntKind.i64 y2] σ K = runK Try.prog call dem N f56c0 f56a0 (bodyC Try.prog f56rs K) (f56e0 y0 y1 y2) σ := bodyK_of (fn := ((Try.prog.funcs[56]?).get rfl)) (by kernel_rfl) (by kernel_rfl) (by kernel_rfl) (by kernel_rfl) (by kernel_rfl) (by kernel_rfl)
theorem f56n0 {R : Type} (call : Bool → CallF R) (dem : Bool) (N : Nat) (J : KF R) (e : Env) (σ : St) : runK Try.prog call dem N f56c0 f56a0 J e σ = runK Try.prog call dem N f56c1 f56a1 (seqC (fun K e σ => runK Try.prog call dem N f56c2 f56a2 K e σ) f56a0 J) e σ := runK_seq' (by kernel_rfl) (by kernel_rfl) (by kernel_rfl)
theorem f56r1_f56e0 {R : Type} (call : Bool → CallF R) (dem : Bool) (N : Nat) (y0 : Option (Nat × Nat)) (y1 : Int) (y2 : Int) (J : KF R) (σ : St) :
    runK Try.prog call dem N f56c1 f56a1 J (f56e0 y0 y1 y2) σ =
J Ex.normal (f56e1 y0 y1 y2 (0 : Int)) σ := hide (by kernel_rfl)
theorem f56z0_f56e1 (y0 : Option (Nat × Nat)) (y1 : Int) (y2 : Int) (y3 : Int) : Ann.clr f56a0 (f56e1 y0 y1 y2 y3) = f56e0 y0 y1 y2 := hide (by kernel_rfl)
theorem f56n2 {R : Type} (call : Bool → CallF R) (dem : Bool) (N : Nat) (J : KF R) (e : Env) (σ : St) : runK Try.prog call dem N f56c2 f56a2 J e σ = runK Try.prog call dem N f56c3 f56a3 (seqC (fun K e σ => runK Try.prog call dem N f56c4 f56a4 K e σ) f56a2 J) e σ := runK_seq' (by kernel_rfl) (by kernel_rfl) (by kernel_rfl)
theorem f56n3 {R : Type} (call : Bool → CallF R) (dem : Bool) (N : Nat) (J : KF R) (e : Env) (σ : St) : runK Try.prog call dem N f56c3 f56a3 J e σ = runK Try.prog call dem N f56c5 f56a5 (seqC (fun K e σ => runK Try.prog call dem N f56c6 f56a6 K e σ) f56a3 J) e σ := runK_seq' (by kernel_rfl) (by kernel_rfl) (by kernel_rfl)
theorem f56r5_f56e0 {R : Type} (call : Bool → CallF R) (dem : Bool) (N : Nat) (y0 : Option (Nat × Nat)) (y1 : Int) (y2 : Int) (J : KF R) (σ : St) :
    runK Try.prog call dem N f56c5 f56a5 J (f56e0 y0 y1 y2) σ =
if decide (y1 < (0 : Int)) = true then J Ex.normal (f56e2 y0 y1 y2 y1 (decide (y1 < (0 : Int))) true true) σ
else J Ex.normal (f56e3 y0 y1 y2 y1 (decide (y1 < (0 : Int))) false y1 (decide (y1 > (1099511627776 : Int))) (decide (y1 > (1099511627776 : Int)))) σ := hide (by kernel_rfl)
theorem f56z3_f56e2 (y0 : Option (Nat × Nat)) (y1 : Int) (y2 : Int) (y3 : Int) (y4 : Bool) (y5 : Bool) (y6 : Bool) : Ann.clr f56a3 (f56e2 y0 y1 y2 y3 y4 y5 y6) = f56e4 y0 y2 y6 := hide (by kernel_rfl)
theorem f56x6_f56e4 {R : Type} (call : Bool → CallF R) (dem : Bool) (N : Nat) (y0 : Option (Nat × Nat)) (y1 : Int) (y2 : Bool) (J : KF R) (σ : St) : runK Try.prog call dem N f56c6 f56a6 J (f56e4 y0 y1 y2) σ = if y2 = true then runK Try.prog call dem N f56c7 f56a7 (condC f56a6 J) (f56e4 y0 y1 y2) σ else runK Try.prog call dem N f56c8 f56a8 (condC f56a6 J) (f56e4 y0 y1 y2) σ := runK_cond' (o := Operand.tmp (12 : Nat)) (by kernel_rfl) (by kernel_rfl) (by kernel_rfl) (by kernel_rfl)
theorem f56n7 {R : Type} (call : Bool → CallF R) (dem : Bool) (N : Nat) (J : KF R) (e : Env) (σ : St) : runK Try.prog call dem N f56c7 f56a7 J e σ = runK Try.prog call dem N f56c9 f56a9 (seqC (fun K e σ => runK Try.prog call dem N f56c10 f56a10 K e σ) f56a7 J) e σ := runK_seq' (by kernel_rfl) (by kernel_rfl) (by kernel_rfl)
theorem f56r9_f56e4 {R : Type} (call : Bool → CallF R) (dem : Bool) (N : Nat) (y0 : Option (Nat × Nat)) (y1 : Int) (y2 : Bool) (J : KF R) (σ : St) :
    runK Try.prog call dem N f56c9 f56a9 J (f56e4 y0 y1 y2) σ =
J Ex.normal (f56e5 y0 y1 (1 : Int) y2) σ := hide (by kernel_rfl)
theorem f56z7_f56e5 (y0 : Option (Nat × Nat)) (y1 : Int) (y2 : Int) (y3 : Bool) : Ann.clr f56a7 (f56e5 y0 y1 y2 y3) = f56e6 y2 := hide (by kernel_rfl)
theorem f56y10_f56e6 {R : Type} (call : Bool → CallF R) (dem : Bool) (N : Nat) (y0 : Int) (J : KF R) (σ : St) : runK Try.prog call dem N f56c10 f56a10 J (f56e6 y0) σ = J .ret (f56e6 y0) σ := runK_ret' (by kernel_rfl) (by kernel_rfl)
theorem f56n8 {R : Type} (call : Bool → CallF R) (dem : Bool) (N : Nat) (J : KF R) (e : Env) (σ : St) : runK Try.prog call dem N f56c8 f56a8 J e σ = J .normal e σ := runK_skip' (by kernel_rfl)
theorem f56z6_f56e4 (y0 : Option (Nat × Nat)) (y1 : Int) (y2 : Bool) : Ann.clr f56a6 (f56e4 y0 y1 y2) = f56e7 y0 y1 := hide (by kernel_rfl)
theorem f56z3_f56e3 (y0 : Option (Nat × Nat)) (y1 : Int) (y2 : Int) (y3 : Int) (y4 : Bool) (y5 : Bool) (y6 : Int) (y7 : Bool) (y8 : Bool) : Ann.clr f56a3 (f56e3 y0 y1 y2 y3 y4 y5 y6 y7 y8) = f56e4 y0 y2 y8 := hide (by kernel_rfl)
theorem f56z2_f56e7 (y0 : Option (Nat × Nat)) (y1 : Int) : Ann.clr f56a2 (f56e7 y0 y1) = f56e7 y0 y1 := hide (by kernel_rfl)
theorem f56n4 {R : Type} (call : Bool → CallF R) (dem : Bool) (N : Nat) (J : KF R) (e : Env) (σ : St) : runK Try.prog call dem N f56c4 f56a4 J e σ = runK Try.prog call dem N f56c11 f56a11 (seqC (fun K e σ => runK Try.prog call dem N f56c12 f56a12 K e σ) f56a4 J) e σ := runK_seq' (by kernel_rfl) (by kernel_rfl) (by kernel_rfl)
theorem f56n11 {R : Type} (call : Bool → CallF R) (dem : Bool) (N : Nat) (J : KF R) (e : Env) (σ : St) : runK Try.prog call dem N f56c11 f56a11 J e σ = runK Try.prog call dem N f56c13 f56a13 (seqC (fun K e σ => runK Try.prog call dem N f56c14 f56a14 K e σ) f56a11 J) e σ := runK_seq' (by kernel_rfl) (by kernel_rfl) (by kernel_rfl)
theorem f56r13_f56e7 {R : Type} (call : Bool → CallF R) (dem : Bool) (N : Nat) (y0 : Option (Nat × Nat)) (y1 : Int) (J : KF R) (σ : St) :
    runK Try.prog call dem N f56c13 f56a13 J (f56e7 y0 y1) σ =
call dem (38 : Nat) [AV.ptr y0, AV.int IntKind.i64 y1] σ fun v0 v1 => Option.bind (AV.toBool v0) fun v2 => J Ex.normal (f56e8 y0 y1 y0 y1 v2 !v2) v1 := hide (by kernel_rfl)
theorem f56z11_f56e8 (y0 : Option (Nat × Nat)) (y1 : Int) (y2 : Option (Nat × Nat)) (y3 : Int) (y4 : Bool) (y5 : Bool) : Ann.clr f56a11 (f56e8 y0 y1 y2 y3 y4 y5) = f56e9 y5 := hide (by kernel_rfl)
theorem f56x14_f56e9 {R : Type} (call : Bool → CallF R) (dem : Bool) (N : Nat) (y0 : Bool) (J : KF R) (σ : St) : runK Try.prog call dem N f56c14 f56a14 J (f56e9 y0) σ = if y0 = true then runK Try.prog call dem N f56c15 f56a15 (condC f56a14 J) (f56e9 y0) σ else runK Try.prog call dem N f56c16 f56a16 (condC f56a14 J) (f56e9 y0) σ := runK_cond' (o := Operand.tmp (16 : Nat)) (by kernel_rfl) (by kernel_rfl) (by kernel_rfl) (by kernel_rfl)
theorem f56n15 {R : Type} (call : Bool → CallF R) (dem : Bool) (N : Nat) (J : KF R) (e : Env) (σ : St) : runK Try.prog call dem N f56c15 f56a15 J e σ = runK Try.prog call dem N f56c17 f56a17 (seqC (fun K e σ => runK Try.prog call dem N f56c18 f56a18 K e σ) f56a15 J) e σ := runK_seq' (by kernel_rfl) (by kernel_rfl) (by kernel_rfl)
theorem f56r17_f56e9 {R : Type} (call : Bool → CallF R) (dem : Bool) (N : Nat) (y0 : Bool) (J : KF R) (σ : St) :
    runK Try.prog call dem N f56c17 f56a17 J (f56e9 y0) σ =
J Ex.normal (f56e10 (6 : Int) y0) σ := hide (by kernel_rfl)
theorem f56z15_f56e10 (y0 : Int) (y1 : Bool) : Ann.clr f56a15 (f56e10 y0 y1) = f56e6 y0 := hide (by kernel_rfl)
theorem f56y18_f56e6 {R : Type} (call : Bool → CallF R) (dem : Bool) (N : Nat) (y0 : Int) (J : KF R) (σ : St) : runK Try.prog call dem N f56c18 f56a18 J (f56e6 y0) σ = J .ret (f56e6 y0) σ := runK_ret' (by kernel_rfl) (by kernel_rfl)
theorem f56n16 {R : Type} (call : Bool → CallF R) (dem : Bool) (N : Nat) (J : KF R) (e : Env) (σ : St) : runK Try.prog call dem N f56c16 f56a16 J e σ = J .normal e σ := runK_skip' (by kernel_rfl)
theorem f56z14_f56e9 (y0 : Bool) : Ann.clr f56a14 (f56e9 y0) = f56e11 := hide (by kernel_rfl)
theorem f56z4_f56e11 : Ann.clr f56a4 (f56e11) = f56e11 := hide (by kernel_rfl)
theorem f56n12 {R : Type} (call : Bool → CallF R) (dem : Bool) (N : Nat) (J : KF R) (e : Env) (σ : St) : runK Try.prog call dem N f56c12 f56a12 J e σ = runK Try.prog call dem N f56c19 f56a19 (seqC (fun K e σ => runK Try.prog call dem N f56c20 f56a20 K e σ) f56a12 J) e σ := runK_seq' (by kernel_rfl) (by kernel_rfl) (by kernel_rfl)
theorem f56r19_f56e11 {R : Type} (call : Bool → CallF R) (dem : Bool) (N : Nat) (J : KF R) (σ : St) :
    runK Try.prog call dem N f56c19 f56a19 J (f56e11) σ =
J Ex.normal (f56e6 (0 : Int)) σ := hide (by kernel_rfl)
theorem f56z12_f56e6 (y0 : Int) : Ann.clr f56a12 (f56e6 y0) = f56e6 y0 := hide (by kernel_rfl)
theorem f56y20_f56e6 {R : Type} (call : Bool → CallF R) (dem : Bool) (N : Nat) (y0 : Int) (J : KF R) (σ : St) : runK Try.prog call dem N f56c20 f56a20 J (f56e6 y0) σ = J .ret (f56e6 y0) σ := runK_ret' (by kernel_rfl) (by kernel_rfl)
theorem f56b_f56e6_r {R : Type} (y0 : Int) (σ : St) (K : AV → St → Option R) : bodyC Try.prog f56rs K (Ex.ret) (f56e6 y0) σ =
K (AV.int IntKind.i64 y0) σ := hide (by kernel_rfl)
attribute [go_sem] f56_eq f56n0 f56r1_f56e0 f56z0_f56e1 f56n2 f56n3 f56r5_f56e0 f56z3_f56e2 f56x6_f56e4 f56n7 f56r9_f56e4 f56z7_f56e5 f56y10_f56e6 f56n8 f56z6_f56e4 f56z3_f56e3 f56z2_f56e7 f56n4 f56n11 f56r13_f56e7 f56z11_f56e8 f56x14_f56e9 f56n15 f56r17_f56e9 f56z15_f56e10 f56y18_f56e6 f56n16 f56z14_f56e9 f56z4_f56e11 f56n12 f56r19_f56e11 f56z12_f56e6 f56y20_f56e6 f56b_f56e6_r

noncomputable def f57rs : List ResultVar := [ResultVar.tmp (6 : Nat)]
noncomputable def f57c0 : Code := subCode [] (bodyOf Try.prog 57)
def f57a0 : Ann := subAnn [] ann57
noncomputable def f57c1 : Code := subCode [0] (bodyOf Try.prog 57)
def f57a1 : Ann := subAnn [0] ann57
noncomputable def f57c2 : Code := subCode [1] (bodyOf Try.prog 57)
def f57a2 : Ann := subAnn [1] ann57
noncomputable def f57c3 : Code := subCode [1, 0] (bodyOf Try.prog 57)
def f57a3 : Ann := subAnn [1, 0] ann57
noncomputable def f57c4 : Code := subCode [1, 1] (bodyOf Try.prog 57)
def f57a4 : Ann := subAnn [1, 1] ann57
noncomputable def f57c5 : Code := subCode [1, 1, 0] (bodyOf Try.prog 57)
def f57a5 : Ann := subAnn [1, 1, 0] ann57
noncomputable def f57c6 : Code := subCode [1, 1, 1] (bodyOf Try.prog 57)
def f57a6 : Ann := subAnn [1, 1, 1] ann57
noncomputable def f57c7 : Code := subCode [1, 1, 0, 0] (bodyOf Try.prog 57)
def f57a7 : Ann := subAnn [1, 1, 0, 0] ann57
noncomputable def f57c8 : Code := subCode [1, 1, 0, 1] (bodyOf Try.prog 57)
def f57a8 : Ann := subAnn [1, 1, 0, 1] ann57
noncomputable def f57c9 : Code := subCode [1, 1, 0, 1, 0] (bodyOf Try.prog 57)
def f57a9 : Ann := subAnn [1, 1, 0, 1, 0] ann57
noncomputable def f57c10 : Code := subCode [1, 1, 0, 1, 0, 0] (bodyOf Try.prog 57)
def f57a10 : Ann := subAnn [1, 1, 0, 1, 0, 0] ann57
noncomputable def f57c11 : Code := subCode [1, 1, 0, 1, 0, 0, 0] (bodyOf Try.prog 57)
def f57a11 : Ann := subAnn [1, 1, 0, 1, 0, 0, 0] ann57
noncomputable def f57c12 : Code := subCode [1, 1, 0, 1, 0, 0, 1] (bodyOf Try.prog 57)
def f57a12 : Ann := subAnn [1, 1, 0, 1, 0, 0, 1] ann57
noncomputable def f57c13 : Code := subCode [1, 1, 0, 1, 0, 0, 1, 0] (bodyOf Try.prog 57)
def f57a13 : Ann := subAnn [1, 1, 0, 1, 0, 0, 1, 0] ann57
noncomputable def f57c14 : Code := subCode [1, 1, 0, 1, 0, 0, 1, 1] (bodyOf Try.prog 57)
def f57a14 : Ann := subAnn [1, 1, 0, 1, 0, 0, 1, 1] ann57
noncomputable def f57c15 : Code := subCode [1, 1, 0, 1, 0, 0, 1, 0, 0] (bodyOf Try.prog 57)
def f57a15 : Ann := subAnn [1, 1, 0, 1, 0, 0, 1, 0, 0] ann57
noncomputable def f57c16 : Code := subCode [1, 1, 0, 1, 0, 0, 1, 0, 1] (bodyOf Try.prog 57)
def f57a16 : Ann := subAnn [1, 1, 0, 1, 0, 0, 1, 0, 1] ann57
noncomputable def f57c17 : Code := subCode [1, 1, 0, 1, 0, 0, 1, 1, 0] (bodyOf Try.prog 57)
def f57a17 : Ann := subAnn [1, 1, 0, 1, 0, 0, 1, 1, 0] ann57
noncomputable def f57c18 : Code := subCode [1, 1, 0, 1, 0, 0, 1, 1, 1] (bodyOf Try.prog 57)
def f57a18 : Ann := subAnn [1, 1, 0, 1, 0, 0, 1, 1, 1] ann57
noncomputable def f57c19 : Code := subCode [1, 1, 0, 1, 0, 0, 1, 1, 0, 0] (bodyOf Try.prog 57)
def f57a19 : Ann := subAnn [1, 1, 0, 1, 0, 0, 1, 1, 0, 0] ann57
noncomputable def f57c20 : Code := subCode [1, 1, 0, 1, 0, 0, 1, 1, 0, 0, 0] (bodyOf Try.prog 57)
def f57a20 : Ann := subAnn [1, 1, 0, 1, 0, 0, 1, 1, 0, 0, 0] ann57
noncomputable def f57c21 : Code := subCode [1, 1, 0, 1, 0, 0, 1, 1, 0, 0, 1] (bodyOf Try.prog 57)
def f57a21 : Ann := subAnn [1, 1, 0, 1, 0, 0, 1, 1, 0, 0, 1] ann57
noncomputable def f57c22 : Code := subCode [1, 1, 0, 1, 0, 0, 1, 1, 0, 0, 1, 0] (bodyOf Try.prog 57)
def f57a22 : Ann := subAnn [1, 1, 0, 1, 0, 0, 1, 1, 0, 0, 1, 0] ann57
noncomputable def f57c23 : Code := subCode [1, 1, 0, 1, 0, 0, 1, 1, 0, 0, 1, 1] (bodyOf Try.prog 57)
def f57a23 : Ann := subAnn [1, 1, 0, 1, 0, 0, 1, 1, 0, 0, 1, 1] ann57
noncomputable def f57c24 : Code := subCode [1, 1, 0, 1, 0, 0, 1, 1, 0, 0, 1, 1, 0] (bodyOf Try.prog 57)
def f57a24 : Ann := subAnn [1, 1, 0, 1, 0, 0, 1, 1, 0, 0, 1, 1, 0] ann57
noncomputable def f57c25 : Code := subCode [1, 1, 0, 1, 0, 0, 1, 1, 0, 0, 1, 1, 1] (bodyOf Try.prog 57)
def f57a25 : Ann := subAnn [1, 1, 0, 1, 0, 0, 1, 1, 0, 0, 1, 1, 1] ann57
noncomputable def f57c26 : Code := subCode [1, 1, 1, 0] (bodyOf Try.prog 57)
def f57a26 : Ann := subAnn [1, 1, 1, 0] ann57
noncomputable def f57c27 : Code := subCode [1, 1, 1, 1] (bodyOf Try.prog 57)
def f57a27 : Ann := subAnn [1, 1, 1, 1] ann57
noncomputable def f57L9 {R : Type} (call : Bool → CallF R) (dem : Bool) (N : Nat) : KF R → Env → St → Option R := fun K e σ => runK Try.prog call dem N f57c10 f57a10 K e σ
def f57e0 (y0 : Option (Nat × Nat)) (y1 : Nat) (y2 : Option Nat) (y3 : Int) (y4 : Int) : Env := AV.slice y0 y1 y2 (3 : Nat) :: AV.int IntKind.i64 y3 :: AV.int IntKind.i64 y4 :: Env.sp 29 []
def f57e1 (y0 : Option (Nat × Nat)) (y1 : Nat) (y2 : Option Nat) (y3 : Int) (y4 : Int) (y5 : Option (Nat × Nat)) (y6 : Nat) (y7 : Option Nat) : Env := AV.slice y0 y1 y2 (3 : Nat) :: AV.int IntKind.i64 y3 :: AV.int IntKind.i64 y4 :: Env.sp 3 (AV.slice y5 y6 y7 (3 : Nat) :: Env.sp 25 [])
def f57e2 (y0 : Option (Nat × Nat)) (y1 : Nat) (y2 : Option Nat) (y3 : Int) (y4 : Int) (y5 : Option (Nat × Nat)) (y6 : Nat) (y7 : Option Nat) : Env := AV.slice y0 y1 y2 (3 : Nat) :: AV.int IntKind.i64 y3 :: AV.int IntKind.i64 y4 :: Env.sp 4 (AV.slice y5 y6 y7 (3 : Nat) :: Env.sp 24 [])
def f57e3 (y0 : Option (Nat × Nat)) (y1 : Nat) (y2 : Option Nat) (y3 : Int) (y4 : Int) (y5 : Option (Nat × Nat)) (y6 : Nat) (y7 : Option Nat) (y8 : Option (Nat × Nat)) (y9 : Nat) (y10 : Option Nat) (y11 : Int) (y12 : Int) : Env := AV.slice y0 y1 y2 (3 : Nat) :: AV.int IntKind.i64 y3 :: AV.int IntKind.i64 y4 :: Env.sp 4 (AV.slice y5 y6 y7 (3 : Nat) :: Env.sp 2 (AV.slice y8 y9 y10 (3 : Nat) :: AV.int IntKind.i64 y11 :: AV.int IntKind.i64 y12 :: Env.sp 19 []))
def f57e4 (y0 : Int) (y1 : Int) (y2 : Option (Nat × Nat)) (y3 : Nat) (y4 : Option Nat) (y5 : Option (Nat × Nat)) (y6 : Nat) (y7 : Option Nat) (y8 : Int) (y9 : Int) : Env := Env.sp 1 (AV.int IntKind.i64 y0 :: AV.int IntKind.i64 y1 :: Env.sp 4 (AV.slice y2 y3 y4 (3 : Nat) :: Env.sp 2 (AV.slice y5 y6 y7 (3 : Nat) :: AV.int IntKind.i64 y8 :: AV.int IntKind.i64 y9 :: Env.sp 19 [])))
def f57e5 (y0 : Int) (y1 : Int) (y2 : Option (Nat × Nat)) (y3 : Nat) (y4 : Option Nat) (y5 : Option (Nat × Nat)) (y6 : Nat) (y7 : Option Nat) (y8 : Int) (y9 : Int) (y10 : Bool) : Env := Env.sp 1 (AV.int IntKind.i64 y0 :: AV.int IntKind.i64 y1 :: Env.sp 4 (AV.slice y2 y3 y4 (3 : Nat) :: Env.sp 2 (AV.slice y5 y6 y7 (3 : Nat) :: AV.int IntKind.i64 y8 :: AV.int IntKind.i64 y9 :: AV.bool y10 :: Env.sp 18 [])))
def f57e6 (y0 : Option (Nat × Nat)) (y1 : Nat) (y2 : Option Nat) : Env := Env.sp 7 (AV.slice y0 y1 y2 (3 : Nat) :: Env.sp 24 [])
def f57e7 (y0 : Int) (y1 : Int) (y2 : Option (Nat × Nat)) (y3 : Nat) (y4 : Option Nat) (y5 : Nat) (y6 : Option (Nat × Nat)) (y7 : Nat) (y8 : Option Nat) (y9 : Int) (y10 : Int) (y11 : Option (Nat × Nat)) (y12 : Int) (y13 : Int) (y14 : ByteArray) : Env := Env.sp 1 (AV.int IntKind.i64 y0 :: AV.int IntKind.i64 y1 :: Env.sp 4 (AV.slice y2 y3 y4 (3 : Nat) :: Env.sp 1 (AV.ptr (some (y5, (0 : Nat))) :: AV.slice y6 y7 y8 (3 : Nat) :: AV.int IntKind.i64 y9 :: AV.int IntKind.i64 y10 :: Env.sp 1 (AV.ptr y11 :: AV.agg [AV.int IntKind.i64 y12, AV.int IntKind.i64 y13, AV.str y14] :: Env.sp 16 []))))
def f57e8 (y0 : Int) (y1 : Int) (y2 : Option (Nat × Nat)) (y3 : Nat) (y4 : Option Nat) (y5 : Nat) (y6 : Option (Nat × Nat)) (y7 : Nat) (y8 : Option Nat) (y9 : Int) (y10 : Int) : Env := Env.sp 1 (AV.int IntKind.i64 y0 :: AV.int IntKind.i64 y1 :: Env.sp 4 (AV.slice y2 y3 y4 (3 : Nat) :: Env.sp 1 (AV.ptr (some (y5, (0 : Nat))) :: AV.slice y6 y7 y8 (3 : Nat) :: AV.int IntKind.i64 y9 :: AV.int IntKind.i64 y10 :: Env.sp 19 [])))
def f57e9 (y0 : Int) (y1 : Int) (y2 : Option (Nat × Nat)) (y3 : Nat) (y4 : Option Nat) (y5 : Nat) (y6 : Option (Nat × Nat)) (y7 : Nat) (y8 : Option Nat) (y9 : Int) (y10 : Int) (y11 : Nat) (y12 : Int) (y13 : Int) (y14 : Bool) (y15 : Bool) (y16 : Nat) (y17 : Int) (y18 : Int) (y19 : Bool) (y20 : Bool) : Env := Env.sp 1 (AV.int IntKind.i64 y0 :: AV.int IntKind.i64 y1 :: Env.sp 4 (AV.slice y2 y3 y4 (3 : Nat) :: Env.sp 1 (AV.ptr (some (y5, (0 : Nat))) :: AV.slice y6 y7 y8 (3 : Nat) :: AV.int IntKind.i64 y9 :: AV.int IntKind.i64 y10 :: Env.sp 3 (AV.ptr (some (y11, (1 : Nat))) :: AV.int IntKind.i64 y12 :: AV.int IntKind.i64 y13 :: AV.bool y14 :: AV.bool y15 :: AV.ptr (some (y16, (0 : Nat))) :: AV.int IntKind.i64 y17 :: AV.int IntKind.i64 y18 :: AV.bool y19 :: AV.bool y20 :: Env.sp 6 []))))
def f57e10 (y0 : Int) (y1 : Int) (y2 : Option (Nat × Nat)) (y3 : Nat) (y4 : Option Nat) (y5 : Nat) (y6 : Option (Nat × Nat)) (y7 : Nat) (y8 : Option Nat) (y9 : Int) (y10 : Int) (y11 : Nat) (y12 : Int) (y13 : Int) (y14 : Bool) (y15 : Bool) (y16 : Bool) : Env := Env.sp 1 (AV.int IntKind.i64 y0 :: AV.int IntKind.i64 y1 :: Env.sp 4 (AV.slice y2 y3 y4 (3 : Nat) :: Env.sp 1 (AV.ptr (some (y5, (0 : Nat))) :: AV.slice y6 y7 y8 (3 : Nat) :: AV.int IntKind.i64 y9 :: AV.int IntKind.i64 y10 :: Env.sp 3 (AV.ptr (some (y11, (1 : Nat))) :: AV.int IntKind.i64 y12 :: AV.int IntKind.i64 y13 :: AV.bool y14 :: AV.bool y15 :: AV.tuple [] :: AV.tuple [] :: AV.tuple [] :: AV.tuple [] :: AV.bool y16 :: Env.sp 6 []))))
def f57e11 (y0 : Int) (y1 : Int) (y2 : Option (Nat × Nat)) (y3 : Nat) (y4 : Option Nat) (y5 : Nat) (y6 : Option (Nat × Nat)) (y7 : Nat) (y8 : Option Nat) (y9 : Int) (y10 : Int) (y11 : Bool) : Env := Env.sp 1 (AV.int IntKind.i64 y0 :: AV.int IntKind.i64 y1 :: Env.sp 4 (AV.slice y2 y3 y4 (3 : Nat) :: Env.sp 1 (AV.ptr (some (y5, (0 : Nat))) :: AV.slice y6 y7 y8 (3 : Nat) :: AV.int IntKind.i64 y9 :: AV.int IntKind.i64 y10 :: Env.sp 12 (AV.bool y11 :: Env.sp 6 []))))
def f57e12 (y0 : Int) (y1 : Int) (y2 : Option (Nat × Nat)) (y3 : Nat) (y4 : Option Nat) (y5 : Nat) (y6 : Option (Nat × Nat)) (y7 : Nat) (y8 : Option Nat) (y9 : Int) (y10 : Int) (y11 : Bool) (y12 : Option (Nat × Nat)) (y13 : Nat) (y14 : Option Nat) (y15 : Int) (y16 : Int) (y17 : ByteArray) (y18 : Option (Nat × Nat)) (y19 : Nat) (y20 : Option Nat) (y21 : Option (Nat × Nat)) (y22 : Nat) (y23 : Option Nat) : Env := Env.sp 1 (AV.int IntKind.i64 y0 :: AV.int IntKind.i64 y1 :: Env.sp 4 (AV.slice y2 y3 y4 (3 : Nat) :: Env.sp 1 (AV.ptr (some (y5, (0 : Nat))) :: AV.slice y6 y7 y8 (3 : Nat) :: AV.int IntKind.i64 y9 :: AV.int IntKind.i64 y10 :: Env.sp 12 (AV.bool y11 :: AV.slice y12 y13 y14 (3 : Nat) :: AV.agg [AV.int IntKind.i64 y15, AV.int IntKind.i64 y16, AV.str y17] :: AV.slice y18 y19 y20 (3 : Nat) :: AV.slice y21 y22 y23 (3 : Nat) :: Env.sp 2 []))))
def f57e13 (y0 : Int) (y1 : Int) (y2 : Option (Nat × Nat)) (y3 : Nat) (y4 : Option Nat) (y5 : Option (Nat × Nat)) (y6 : Nat) (y7 : Option Nat) (y8 : Int) (y9 : Int) (y10 : Int) : Env := Env.sp 1 (AV.int IntKind.i64 y0 :: AV.int IntKind.i64 y1 :: Env.sp 4 (AV.slice y2 y3 y4 (3 : Nat) :: Env.sp 2 (AV.slice y5 y6 y7 (3 : Nat) :: AV.int IntKind.i64 y8 :: AV.int IntKind.i64 y9 :: Env.sp 17 (AV.int IntKind.i64 y10 :: Env.sp 1 []))))
def f57e14 (y0 : Option (Nat × Nat)) (y1 : Nat) (y2 : Option Nat) (y3 : Option (Nat × Nat)) (y4 : Nat) (y5 : Option Nat) (y6 : Option (Nat × Nat)) (y7 : Nat) (y8 : Option Nat) : Env := Env.sp 6 (AV.slice y0 y1 y2 (3 : Nat) :: AV.slice y3 y4 y5 (3 : Nat) :: Env.sp 23 (AV.slice y6 y7 y8 (3 : Nat) :: []))
def f57e15 (y0 : Option (Nat × Nat)) (y1 : Nat) (y2 : Option Nat) : Env := Env.sp 6 (AV.slice y0 y1 y2 (3 : Nat) :: Env.sp 25 [])

/- function 57 -/
theorem f57_eq {R : Type} (call : Bool → CallF R) (dem : Bool) (N : Nat) (y0 : Option (Nat × Nat)) (y1 : Nat) (y2 : Option Nat) (y3 : Int) (y4 : Int) (σ : St) (K : AV → St → Option R) :
    bodyK Try.prog call dem N ann 57 [AV.slice y0 y1 y2 (3 : Nat), AV.int IntKind.i64 y3, AV.int IntKind.i64 y4] σ K = runK Try.prog call dem N f57c0 f57a0 (bodyC Try.prog f57rs K) (f57e0 y0 y1 y2 y3 y4) σ := bodyK_of (fn := ((Try.prog.funcs[57]?).get rfl)) (by kernel_rfl) (by kernel_rfl) (by kernel_rfl) (by kernel_rfl) (by kernel_rfl) (by kernel_rfl)
theorem f57n0 {R : Type} (call : Bool → CallF R) (dem : Bool) (N : Nat) (J : KF R) (e : Env) (σ : St) : runK Try.prog call dem N f57c0 f57a0 J e σ = runK Try.prog call dem N f57c1 f57a1 (seqC (fun K e σ => runK Try.prog call dem N f57c2 f57a2 K e σ) f57a0 J) e σ := runK_seq' (by kernel_rfl) (by kernel_rfl) (by kernel_rfl)
theorem f57r1_f57e0 {R : Type} (call : Bool → CallF R) (dem : Bool) (N : Nat) (y0 : Option (Nat × Nat)) (y1 : Nat) (y2 : Option Nat) (y3 : Int) (y4 : Int) (J : KF R) (σ : St) :
    runK Try.prog call dem N f57c1 f57a1 J (f57e0 y0 y1 y2 y3 y4) σ =
J Ex.normal (f57e1 y0 y1 y2 y3 y4 none (0 : Nat) (some (0 : Nat))) σ := hide (by kernel_rfl)
theorem f57z0_f57e1 (y0 : Option (Nat × Nat)) (y1 : Nat) (y2 : Option Nat) (y3 : Int) (y4 : Int) (y5 : Option (Nat × Nat)) (y6 : Nat) (y7 : Option Nat) : Ann.clr f57a0 (f57e1 y0 y1 y2 y3 y4 y5 y6 y7) = f57e0 y0 y1 y2 y3 y4 := hide (by kernel_rfl)
theorem f57n2 {R : Type} (call : Bool → CallF R) (dem : Bool) (N : Nat) (J : KF R) (e : Env) (σ : St) : runK Try.prog call dem N f57c2 f57a2 J e σ = runK Try.prog call dem N f57c3 f57a3 (seqC (fun K e σ => runK Try.prog call dem N f57c4 f57a4 K e σ) f57a2 J) e σ := runK_seq' (by kernel_rfl) (by kernel_rfl) (by kernel_rfl)
theorem f57r3_f57e0 {R : Type} (call : Bool → CallF R) (dem : Bool) (N : Nat) (y0 : Option (Nat × Nat)) (y1 : Nat) (y2 : Option Nat) (y3 : Int) (y4 : Int) (J : KF R) (σ : St) :
    runK Try.prog call dem N f57c3 f57a3 J (f57e0 y0 y1 y2 y3 y4) σ =
J Ex.normal (f57e2 y0 y1 y2 y3 y4 none (0 : Nat) (some (0 : Nat))) σ := hide (by kernel_rfl)
theorem f57z2_f57e2 (y0 : Option (Nat × Nat)) (y1 : Nat) (y2 : Option Nat) (y3 : Int) (y4 : Int) (y5 : Option (Nat × Nat)) (y6 : Nat) (y7 : Option Nat) : Ann.clr f57a2 (f57e2 y0 y1 y2 y3 y4 y5 y6 y7) = f57e2 y0 y1 y2 y3 y4 y5 y6 y7 := hide (by kernel_rfl)
theorem f57n4 {R : Type} (call : Bool → CallF R) (dem : Bool) (N : Nat) (J : KF R) (e : Env) (σ : St) : runK Try.prog call dem N f57c4 f57a4 J e σ = runK Try.prog call dem N f57c5 f57a5 (seqC (fun K e σ => runK Try.prog call dem N f57c6 f57a6 K e σ) f57a4 J) e σ := runK_seq' (by kernel_rfl) (by kernel_rfl) (by kernel_rfl)
theorem f57n5 {R : Type} (call : Bool → CallF R) (dem : Bool) (N : Nat) (J : KF R) (e : Env) (σ : St) : runK Try.prog call dem N f57c5 f57a5 J e σ = runK Try.prog call dem N f57c7 f57a7 (seqC (fun K e σ => runK Try.prog call dem N f57c8 f57a8 K e σ) f57a5 J) e σ := runK_seq' (by kernel_rfl) (by kernel_rfl) (by kernel_rfl)
theorem f57r7_f57e2 {R : Type} (call : Bool → CallF R) (dem : Bool) (N : Nat) (y0 : Option (Nat × Nat)) (y1 : Nat) (y2 : Option Nat) (y3 : Int) (y4 : Int) (y5 : Option (Nat × Nat)) (y6 : Nat) (y7 : Option Nat) (J : KF R) (σ : St) :
    runK Try.prog call dem N f57c7 f57a7 J (f57e2 y0 y1 y2 y3 y4 y5 y6 y7) σ =
J Ex.normal (f57e3 y0 y1 y2 y3 y4 y5 y6 y7 y0 y1 y2 (↑y1 : Int) (0 : Int)) σ := hide (by kernel_rfl)
theorem f57z5_f57e3 (y0 : Option (Nat × Nat)) (y1 : Nat) (y2 : Option Nat) (y3 : Int) (y4 : Int) (y5 : Option (Nat × Nat)) (y6 : Nat) (y7 : Option Nat) (y8 : Option (Nat × Nat)) (y9 : Nat) (y10 : Option Nat) (y11 : Int) (y12 : Int) : Ann.clr f57a5 (f57e3 y0 y1 y2 y3 y4 y5 y6 y7 y8 y9 y10 y11 y12) = f57e4 y3 y4 y5 y6 y7 y8 y9 y10 y11 y12 := hide (by kernel_rfl)
theorem f57n8 {R : Type} (call : Bool → CallF R) (dem : Bool) (N : Nat) (J : KF R) (e : Env) (σ : St) : runK Try.prog call dem N f57c8 f57a8 J e σ = runK Try.prog call dem N f57c9 f57a9 (blockC 0 f57a8 J) e σ := runK_block' (by kernel_rfl) (by kernel_rfl)
theorem f57L9_eq {R : Type} (call : Bool → CallF R) (dem : Bool) (N : Nat) (J : KF R) (e : Env) (σ : St) : f57L9 call dem N J e σ = runK Try.prog call dem N f57c10 f57a10 J e σ := hide rfl
theorem f57z9_f57e4 (y0 : Int) (y1 : Int) (y2 : Option (Nat × Nat)) (y3 : Nat) (y4 : Option Nat) (y5 : Option (Nat × Nat)) (y6 : Nat) (y7 : Option Nat) (y8 : Int) (y9 : Int) : Ann.clr f57a9 (f57e4 y0 y1 y2 y3 y4 y5 y6 y7 y8 y9) = f57e4 y0 y1 y2 y3 y4 y5 y6 y7 y8 y9 := hide (by kernel_rfl)
theorem f57l9_f57e4 {R : Type} (call : Bool → CallF R) (dem : Bool) (N : Nat) (y0 : Int) (y1 : Int) (y2 : Option (Nat × Nat)) (y3 : Nat) (y4 : Option Nat) (y5 : Option (Nat × Nat)) (y6 : Nat) (y7 : Option Nat) (y8 : Int) (y9 : Int) (J : KF R) (σ : St) : runK Try.prog call dem N f57c9 f57a9 J (f57e4 y0 y1 y2 y3 y4 y5 y6 y7 y8 y9) σ = loopK (f57L9 call dem N) f57a9 N J (f57e4 y0 y1 y2 y3 y4 y5 y6 y7 y8 y9) σ := runK_loop' (by kernel_rfl) (by kernel_rfl) (by kernel_rfl)
theorem f57n10 {R : Type} (call : Bool → CallF R) (dem : Bool) (N : Nat) (J : KF R) (e : Env) (σ : St) : runK Try.prog call dem N f57c10 f57a10 J e σ = runK Try.prog call dem N f57c11 f57a11 (seqC (fun K e σ => runK Try.prog call dem N f57c12 f57a12 K e σ) f57a10 J) e σ := runK_seq' (by kernel_rfl) (by kernel_rfl) (by kernel_rfl)
theorem f57r11_f57e4 {R : Type} (call : Bool → CallF R) (dem : Bool) (N : Nat) (y0 : Int) (y1 : Int) (y2 : Option (Nat × Nat)) (y3 : Nat) (y4 : Option Nat) (y5 : Option (Nat × Nat)) (y6 : Nat) (y7 : Option Nat) (y8 : Int) (y9 : Int) (J : KF R) (σ : St) :
    runK Try.prog call dem N f57c11 f57a11 J (f57e4 y0 y1 y2 y3 y4 y5 y6 y7 y8 y9) σ =
J Ex.normal (f57e5 y0 y1 y2 y3 y4 y5 y6 y7 y8 y9 (decide (y9 < y8))) σ := hide (by kernel_rfl)
theorem f57z10_f57e5 (y0 : Int) (y1 : Int) (y2 : Option (Nat × Nat)) (y3 : Nat) (y4 : Option Nat) (y5 : Option (Nat × Nat)) (y6 : Nat) (y7 : Option Nat) (y8 : Int) (y9 : Int) (y10 : Bool) : Ann.clr f57a10 (f57e5 y0 y1 y2 y3 y4 y5 y6 y7 y8 y9 y10) = f57e5 y0 y1 y2 y3 y4 y5 y6 y7 y8 y9 y10 := hide (by kernel_rfl)
theorem f57n12 {R : Type} (call : Bool → CallF R) (dem : Bool) (N : Nat) (J : KF R) (e : Env) (σ : St) : runK Try.prog call dem N f57c12 f57a12 J e σ = runK Try.prog call dem N f57c13 f57a13 (seqC (fun K e σ => runK Try.prog call dem N f57c14 f57a14 K e σ) f57a12 J) e σ := runK_seq' (by kernel_rfl) (by kernel_rfl) (by kernel_rfl)
theorem f57x13_f57e5 {R : Type} (call : Bool → CallF R) (dem : Bool) (N : Nat) (y0 : Int) (y1 : Int) (y2 : Option (Nat × Nat)) (y3 : Nat) (y4 : Option Nat) (y5 : Option (Nat × Nat)) (y6 : Nat) (y7 : Option Nat) (y8 : Int) (y9 : Int) (y10 : Bool) (J : KF R) (σ : St) : runK Try.prog call dem N f57c13 f57a13 J (f57e5 y0 y1 y2 y3 y4 y5 y6 y7 y8 y9 y10) σ = if y10 = true then runK Try.prog call dem N f57c15 f57a15 (condC f57a13 J) (f57e5 y0 y1 y2 y3 y4 y5 y6 y7 y8 y9 y10) σ else runK Try.prog call dem N f57c16 f57a16 (condC f57a13 J) (f57e5 y0 y1 y2 y3 y4 y5 y6 y7 y8 y9 y10) σ := runK_cond' (o := Operand.tmp (13 : Nat)) (by kernel_rfl) (by kernel_rfl) (by kernel_rfl) (by kernel_rfl)
theorem f57n15 {R : Type} (call : Bool → CallF R) (dem : Bool) (N : Nat) (J : KF R) (e : Env) (σ : St) : runK Try.prog call dem N f57c15 f57a15 J e σ = J .normal e σ := runK_skip' (by kernel_rfl)
theorem f57z13_f57e5 (y0 : Int) (y1 : Int) (y2 : Option (Nat × Nat)) (y3 : Nat) (y4 : Option Nat) (y5 : Option (Nat × Nat)) (y6 : Nat) (y7 : Option Nat) (y8 : Int) (y9 : Int) (y10 : Bool) : Ann.clr f57a13 (f57e5 y0 y1 y2 y3 y4 y5 y6 y7 y8 y9 y10) = f57e4 y0 y1 y2 y3 y4 y5 y6 y7 y8 y9 := hide (by kernel_rfl)
theorem f57y16_f57e5 {R : Type} (call : Bool → CallF R) (dem : Bool) (N : Nat) (y0 : Int) (y1 : Int) (y2 : Option (Nat × Nat)) (y3 : Nat) (y4 : Option Nat) (y5 : Option (Nat × Nat)) (y6 : Nat) (y7 : Option Nat) (y8 : Int) (y9 : Int) (y10 : Bool) (J : KF R) (σ : St) : runK Try.prog call dem N f57c16 f57a16 J (f57e5 y0 y1 y2 y3 y4 y5 y6 y7 y8 y9 y10) σ = J (.exit 0) (f57e6 y2 y3 y4) σ := runK_exit' (by kernel_rfl) (by kernel_rfl)
theorem f57z12_f57e4 (y0 : Int) (y1 : Int) (y2 : Option (Nat × Nat)) (y3 : Nat) (y4 : Option Nat) (y5 : Option (Nat × Nat)) (y6 : Nat) (y7 : Option Nat) (y8 : Int) (y9 : Int) : Ann.clr f57a12 (f57e4 y0 y1 y2 y3 y4 y5 y6 y7 y8 y9) = f57e4 y0 y1 y2 y3 y4 y5 y6 y7 y8 y9 := hide (by kernel_rfl)
theorem f57n14 {R : Type} (call : Bool → CallF R) (dem : Bool) (N : Nat) (J : KF R) (e : Env) (σ : St) : runK Try.prog call dem N f57c14 f57a14 J e σ = runK Try.prog call dem N f57c17 f57a17 (seqC (fun K e σ => runK Try.prog call dem N f57c18 f57a18 K e σ) f57a14 J) e σ := runK_seq' (by kernel_rfl) (by kernel_rfl) (by kernel_rfl)
theorem f57n17 {R : Type} (call : Bool → CallF R) (dem : Bool) (N : Nat) (J : KF R) (e : Env) (σ : St) : runK Try.prog call dem N f57c17 f57a17 J e σ = runK Try.prog call dem N f57c19 f57a19 (blockC 1 f57a17 J) e σ := runK_block' (by kernel_rfl) (by kernel_rfl)
theorem f57n19 {R : Type} (call : Bool → CallF R) (dem : Bool) (N : Nat) (J : KF R) (e : Env) (σ : St) : runK Try.prog call dem N f57c19 f57a19 J e σ = runK Try.prog call dem N f57c20 f57a20 (seqC (fun K e σ => runK Try.prog call dem N f57c21 f57a21 K e σ) f57a19 J) e σ := runK_seq' (by kernel_rfl) (by kernel_rfl) (by kernel_rfl)
theorem f57r20_f57e4 {R : Type} (call : Bool → CallF R) (dem : Bool) (N : Nat) (y0 : Int) (y1 : Int) (y2 : Option (Nat × Nat)) (y3 : Nat) (y4 : Option Nat) (y5 : Option (Nat × Nat)) (y6 : Nat) (y7 : Option Nat) (y8 : Int) (y9 : Int) (J : KF R) (σ : St) :
    runK Try.prog call dem N f57c20 f57a20 J (f57e4 y0 y1 y2 y3 y4 y5 y6 y7 y8 y9) σ =
if (0 : Int) ≤ y9 ∧ y9 < (↑y6 : Int) then
  Option.bind y5 fun v0 =>
    Option.bind (St.ld σ (Prod.fst v0) (Prod.snd v0 + Int.toNat y9 * (3 : Nat))) fun v1 =>
      Option.bind (AV.toInt IntKind.i64 v1) fun v2 =>
        Option.bind (St.ld σ (Prod.fst v0) (Prod.snd v0 + Int.toNat y9 * (3 : Nat) + (1 : Nat))) fun v3 =>
          Option.bind (AV.toInt IntKind.i64 v3) fun v4 =>
            Option.bind (St.ld σ (Prod.fst v0) (Prod.snd v0 + Int.toNat y9 * (3 : Nat) + (2 : Nat))) fun v5 =>
              Option.bind (AV.toStr v5) fun v6 =>
                Option.bind
                  (St.st (St.new σ (Blk.cells [AV.int IntKind.i64 (0 : Int), AV.int IntKind.i64 (0 : Int), AV.str (ByteArray.mk #[])] true))
                    (St.next σ) (0 : Nat) [AV.int IntKind.i64 v2, AV.int IntKind.i64 v4, AV.str v6])
                  fun v7 =>
                  J Ex.normal (f57e7 y0 y1 y2 y3 y4 (St.next σ) y5 y6 y7 y8 y9 (some (Prod.fst v0, Prod.snd v0 + Int.toNat y9 * (3 : Nat))) v2 v4 v6)
                    v7
else none := hide (by kernel_rfl)
theorem f57z19_f57e7 (y0 : Int) (y1 : Int) (y2 : Option (Nat × Nat)) (y3 : Nat) (y4 : Option Nat) (y5 : Nat) (y6 : Option (Nat × Nat)) (y7 : Nat) (y8 : Option Nat) (y9 : Int) (y10 : Int) (y11 : Option (Nat × Nat)) (y12 : Int) (y13 : Int) (y14 : ByteArray) : Ann.clr f57a19 (f57e7 y0 y1 y2 y3 y4 y5 y6 y7 y8 y9 y10 y11 y12 y13 y14) = f57e8 y0 y1 y2 y3 y4 y5 y6 y7 y8 y9 y10 := hide (by kernel_rfl)
theorem f57n21 {R : Type} (call : Bool → CallF R) (dem : Bool) (N : Nat) (J : KF R) (e : Env) (σ : St) : runK Try.prog call dem N f57c21 f57a21 J e σ = runK Try.prog call dem N f57c22 f57a22 (seqC (fun K e σ => runK Try.prog call dem N f57c23 f57a23 K e σ) f57a21 J) e σ := runK_seq' (by kernel_rfl) (by kernel_rfl) (by kernel_rfl)
theorem f57r22_f57e8 {R : Type} (call : Bool → CallF R) (dem : Bool) (N : Nat) (y0 : Int) (y1 : Int) (y2 : Option (Nat × Nat)) (y3 : Nat) (y4 : Option Nat) (y5 : Nat) (y6 : Option (Nat × Nat)) (y7 : Nat) (y8 : Option Nat) (y9 : Int) (y10 : Int) (J : KF R) (σ : St) :
    runK Try.prog call dem N f57c22 f57a22 J (f57e8 y0 y1 y2 y3 y4 y5 y6 y7 y8 y9 y10) σ =
Option.bind (St.ld σ y5 (1 : Nat)) fun v0 =>
  Option.bind (AV.toInt IntKind.i64 v0) fun v1 =>
    if decide (v1 > y0) = true then
      Option.bind (St.ld σ y5 (0 : Nat)) fun v2 =>
        Option.bind (AV.toInt IntKind.i64 v2) fun v3 =>
          J Ex.normal (f57e9 y0 y1 y2 y3 y4 y5 y6 y7 y8 y9 y10 y5 v1 y0 (decide (v1 > y0)) true y5 v3 y1 (decide (v3 ≥ y1)) (decide (v3 ≥ y1))) σ
    else J Ex.normal (f57e10 y0 y1 y2 y3 y4 y5 y6 y7 y8 y9 y10 y5 v1 y0 (decide (v1 > y0)) false false) σ := hide (by kernel_rfl)
theorem f57z21_f57e9 (y0 : Int) (y1 : Int) (y2 : Option (Nat × Nat)) (y3 : Nat) (y4 : Option Nat) (y5 : Nat) (y6 : Option (Nat × Nat)) (y7 : Nat) (y8 : Option Nat) (y9 : Int) (y10 : Int) (y11 : Nat) (y12 : Int) (y13 : Int) (y14 : Bool) (y15 : Bool) (y16 : Nat) (y17 : Int) (y18 : Int) (y19 : Bool) (y20 : Bool) : Ann.clr f57a21 (f57e9 y0 y1 y2 y3 y4 y5 y6 y7 y8 y9 y10 y11 y12 y13 y14 y15 y16 y17 y18 y19 y20) = f57e11 y0 y1 y2 y3 y4 y5 y6 y7 y8 y9 y10 y20 := hide (by kernel_rfl)
theorem f57x23_f57e11 {R : Type} (call : Bool → CallF R) (dem : Bool) (N : Nat) (y0 : Int) (y1 : Int) (y2 : Option (Nat × Nat)) (y3 : Nat) (y4 : Option Nat) (y5 : Nat) (y6 : Option (Nat × Nat)) (y7 : Nat) (y8 : Option Nat) (y9 : Int) (y10 : Int) (y11 : Bool) (J : KF R) (σ : St) : runK Try.prog call dem N f57c23 f57a23 J (f57e11 y0 y1 y2 y3 y4 y5 y6 y7 y8 y9 y10 y11) σ = if y11 = true then runK Try.prog call dem N f57c24 f57a24 (condC f57a23 J) (f57e11 y0 y1 y2 y3 y4 y5 y6 y7 y8 y9 y10 y11) σ else runK Try.prog call dem N f57c25 f57a25 (condC f57a23 J) (f57e11 y0 y1 y2 y3 y4 y5 y6 y7 y8 y9 y10 y11) σ := runK_cond' (o := Operand.tmp (25 : Nat)) (by kernel_rfl) (by kernel_rfl) (by kernel_rfl) (by kernel_rfl)
theorem f57r24_f57e11 {R : Type} (call : Bool → CallF R) (dem : Bool) (N : Nat) (y0 : Int) (y1 : Int) (y2 : Option (Nat × Nat)) (y3 : Nat) (y4 : Option Nat) (y5 : Nat) (y6 : Option (Nat × Nat)) (y7 : Nat) (y8 : Option Nat) (y9 : Int) (y10 : Int) (y11 : Bool) (J : KF R) (σ : St) :
    runK Try.prog call dem N f57c24 f57a24 J (f57e11 y0 y1 y2 y3 y4 y5 y6 y7 y8 y9 y10 y11) σ =
Option.bind (St.ld σ y5 (0 : Nat)) fun v0 =>
  Option.bind (AV.toInt IntKind.i64 v0) fun v1 =>
    Option.bind (St.ld σ y5 (1 : Nat)) fun v2 =>
      Option.bind (AV.toInt IntKind.i64 v2) fun v3 =>
        Option.bind (St.ld σ y5 (2 : Nat)) fun v4 =>
          Option.bind (AV.toStr v4) fun v5 =>
            Option.bind
              (St.elems (St.new σ (Blk.cells [AV.int IntKind.i64 v1, AV.int IntKind.i64 v3, AV.str v5] true)) (3 : Nat)
                (Sl.mk (some (St.next σ, (0 : Nat))) (1 : Nat) (some (1 : Nat))) (1 : Nat))
              fun v6 =>
              Option.bind
                (St.app (St.new σ (Blk.cells [AV.int IntKind.i64 v1, AV.int IntKind.i64 v3, AV.str v5] true)) (3 : Nat) (32 : Nat) (Sl.mk y2 y3 y4)
                  (1 : Nat) v6)
                fun v7 =>
                J Ex.normal
                  (f57e12 y0 y1 (Sl.o (Prod.fst v7)) (Sl.len (Prod.fst v7)) (Sl.cap (Prod.fst v7)) y5 y6 y7 y8 y9 y10 y11 y2 y3 y4 v1 v3 v5
                    (some (St.next σ, (0 : Nat))) (1 : Nat) (some (1 : Nat)) (Sl.o (Prod.fst v7)) (Sl.len (Prod.fst v7)) (Sl.cap (Prod.fst v7)))
                  (Prod.snd v7) := hide (by kernel_rfl)
theorem f57z23_f57e12 (y0 : Int) (y1 : Int) (y2 : Option (Nat × Nat)) (y3 : Nat) (y4 : Option Nat) (y5 : Nat) (y6 : Option (Nat × Nat)) (y7 : Nat) (y8 : Option Nat) (y9 : Int) (y10 : Int) (y11 : Bool) (y12 : Option (Nat × Nat)) (y13 : Nat) (y14 : Option Nat) (y15 : Int) (y16 : Int) (y17 : ByteArray) (y18 : Option (Nat × Nat)) (y19 : Nat) (y20 : Option Nat) (y21 : Option (Nat × Nat)) (y22 : Nat) (y23 : Option Nat) : Ann.clr f57a23 (f57e12 y0 y1 y2 y3 y4 y5 y6 y7 y8 y9 y10 y11 y12 y13 y14 y15 y16 y17 y18 y19 y20 y21 y22 y23) = f57e4 y0 y1 y2 y3 y4 y6 y7 y8 y9 y10 := hide (by kernel_rfl)
theorem f57n25 {R : Type} (call : Bool → CallF R) (dem : Bool) (N : Nat) (J : KF R) (e : Env) (σ : St) : runK Try.prog call dem N f57c25 f57a25 J e σ = J .normal e σ := runK_skip' (by kernel_rfl)
theorem f57z23_f57e11 (y0 : Int) (y1 : Int) (y2 : Option (Nat × Nat)) (y3 : Nat) (y4 : Option Nat) (y5 : Nat) (y6 : Option (Nat × Nat)) (y7 : Nat) (y8 : Option Nat) (y9 : Int) (y10 : Int) (y11 : Bool) : Ann.clr f57a23 (f57e11 y0 y1 y2 y3 y4 y5 y6 y7 y8 y9 y10 y11) = f57e4 y0 y1 y2 y3 y4 y6 y7 y8 y9 y10 := hide (by kernel_rfl)
theorem f57z21_f57e10 (y0 : Int) (y1 : Int) (y2 : Option (Nat × Nat)) (y3 : Nat) (y4 : Option Nat) (y5 : Nat) (y6 : Option (Nat × Nat)) (y7 : Nat) (y8 : Option Nat) (y9 : Int) (y10 : Int) (y11 : Nat) (y12 : Int) (y13 : Int) (y14 : Bool) (y15 : Bool) (y16 : Bool) : Ann.clr f57a21 (f57e10 y0 y1 y2 y3 y4 y5 y6 y7 y8 y9 y10 y11 y12 y13 y14 y15 y16) = f57e11 y0 y1 y2 y3 y4 y5 y6 y7 y8 y9 y10 y16 := hide (by kernel_rfl)
theorem f57z17_f57e4 (y0 : Int) (y1 : Int) (y2 : Option (Nat × Nat)) (y3 : Nat) (y4 : Option Nat) (y5 : Option (Nat × Nat)) (y6 : Nat) (y7 : Option Nat) (y8 : Int) (y9 : Int) : Ann.clr f57a17 (f57e4 y0 y1 y2 y3 y4 y5 y6 y7 y8 y9) = f57e4 y0 y1 y2 y3 y4 y5 y6 y7 y8 y9 := hide (by kernel_rfl)
theorem f57z14_f57e4 (y0 : Int) (y1 : Int) (y2 : Option (Nat × Nat)) (y3 : Nat) (y4 : Option Nat) (y5 : Option (Nat × Nat)) (y6 : Nat) (y7 : Option Nat) (y8 : Int) (y9 : Int) : Ann.clr f57a14 (f57e4 y0 y1 y2 y3 y4 y5 y6 y7 y8 y9) = f57e4 y0 y1 y2 y3 y4 y5 y6 y7 y8 y9 := hide (by kernel_rfl)
theorem f57r18_f57e4 {R : Type} (call : Bool → CallF R) (dem : Bool) (N : Nat) (y0 : Int) (y1 : Int) (y2 : Option (Nat × Nat)) (y3 : Nat) (y4 : Option Nat) (y5 : Option (Nat × Nat)) (y6 : Nat) (y7 : Option Nat) (y8 : Int) (y9 : Int) (J : KF R) (σ : St) :
    runK Try.prog call dem N f57c18 f57a18 J (f57e4 y0 y1 y2 y3 y4 y5 y6 y7 y8 y9) σ =
J Ex.normal (f57e13 y0 y1 y2 y3 y4 y5 y6 y7 y8 (IntKind.wrap IntKind.i64 (y9 + (1 : Int))) (IntKind.wrap IntKind.i64 (y9 + (1 : Int)))) σ := hide (by kernel_rfl)
theorem f57z9_f57e13 (y0 : Int) (y1 : Int) (y2 : Option (Nat × Nat)) (y3 : Nat) (y4 : Option Nat) (y5 : Option (Nat × Nat)) (y6 : Nat) (y7 : Option Nat) (y8 : Int) (y9 : Int) (y10 : Int) : Ann.clr f57a9 (f57e13 y0 y1 y2 y3 y4 y5 y6 y7 y8 y9 y10) = f57e4 y0 y1 y2 y3 y4 y5 y6 y7 y8 y9 := hide (by kernel_rfl)
theorem f57z8_f57e6 (y0 : Option (Nat × Nat)) (y1 : Nat) (y2 : Option Nat) : Ann.clr f57a8 (f57e6 y0 y1 y2) = f57e6 y0 y1 y2 := hide (by kernel_rfl)
theorem f57z4_f57e6 (y0 : Option (Nat × Nat)) (y1 : Nat) (y2 : Option Nat) : Ann.clr f57a4 (f57e6 y0 y1 y2) = f57e6 y0 y1 y2 := hide (by kernel_rfl)
theorem f57n6 {R : Type} (call : Bool → CallF R) (dem : Bool) (N : Nat) (J : KF R) (e : Env) (σ : St) : runK Try.prog call dem N f57c6 f57a6 J e σ = runK Try.prog call dem N f57c26 f57a26 (seqC (fun K e σ => runK Try.prog call dem N f57c27 f57a27 K e σ) f57a6 J) e σ := runK_seq' (by kernel_rfl) (by kernel_rfl) (by kernel_rfl)
theorem f57r26_f57e6 {R : Type} (call : Bool → CallF R) (dem : Bool) (N : Nat) (y0 : Option (Nat × Nat)) (y1 : Nat) (y2 : Option Nat) (J : KF R) (σ : St) :
    runK Try.prog call dem N f57c26 f57a26 J (f57e6 y0 y1 y2) σ =
J Ex.normal (f57e14 y0 y1 y2 y0 y1 y2 y0 y1 y2) σ := hide (by kernel_rfl)
theorem f57z6_f57e14 (y0 : Option (Nat × Nat)) (y1 : Nat) (y2 : Option Nat) (y3 : Option (Nat × Nat)) (y4 : Nat) (y5 : Option Nat) (y6 : Option (Nat × Nat)) (y7 : Nat) (y8 : Option Nat) : Ann.clr f57a6 (f57e14 y0 y1 y2 y3 y4 y5 y6 y7 y8) = f57e15 y0 y1 y2 := hide (by kernel_rfl)
theorem f57y27_f57e15 {R : Type} (call : Bool → CallF R) (dem : Bool) (N : Nat) (y0 : Option (Nat × Nat)) (y1 : Nat) (y2 : Option Nat) (J : KF R) (σ : St) : runK Try.prog call dem N f57c27 f57a27 J (f57e15 y0 y1 y2) σ = J .ret (f57e15 y0 y1 y2) σ := runK_ret' (by kernel_rfl) (by kernel_rfl)
theorem f57b_f57e15_r {R : Type} (y0 : Option (Nat × Nat)) (y1 : Nat) (y2 : Option Nat) (σ : St) (K : AV → St → Option R) : bodyC Try.prog f57rs K (Ex.ret) (f57e15 y0 y1 y2) σ =
K (AV.slice y0 y1 y2 (3 : Nat)) σ := hide (by kernel_rfl)
attribute [go_sem] f57_eq f57n0 f57r1_f57e0 f57z0_f57e1 f57n2 f57r3_f57e0 f57z2_f57e2 f57n4 f57n5 f57r7_f57e2 f57z5_f57e3 f57n8 f57L9_eq f57z9_f57e4 f57l9_f57e4 f57n10 f57r11_f57e4 f57z10_f57e5 f57n12 f57x13_f57e5 f57n15 f57z13_f57e5 f57y16_f57e5 f57z12_f57e4 f57n14 f57n17 f57n19 f57r20_f57e4 f57z19_f57e7 f57n21 f57r22_f57e8 f57z21_f57e9 f57x23_f57e11 f57r24_f57e11 f57z23_f57e12 f57n25 f57z23_f57e11 f57z21_f57e10 f57z17_f57e4 f57z14_f57e4 f57r18_f57e4 f57z9_f57e13 f57z8_f57e6 f57z4_f57e6 f57n6 f57r26_f57e6 f57z6_f57e14 f57y27_f57e15 f57b_f57e15_r

end Go.Proofs.Ytmgacgonoodkfaa
