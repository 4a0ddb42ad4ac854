/- What the machine does with each piece of code, in plain text. PRINTED by a program of this workplace; Lean checks it. -/
import Derived.Test.YtmgacgonoodkfaaWiAnn
import Derived.Test.YtmgacgonoodkfaaProg
import Derived.KernelRfl
import Derived.Attr
namespace Go.Proofs.Ytmgacgonoodkfaa
open Go.AM
set_option maxRecDepth 100000
set_option linter.unusedVariables false
noncomputable def f33rs : List ResultVar := [ResultVar.tmp (8 : Nat), ResultVar.tmp (9 : Nat)]
noncomputable def f33c0 : Code := subCode [] (bodyOf Try.prog 33)
def f33a0 : Ann := subAnn [] ann33
noncomputable def f33c1 : Code := subCode [0] (bodyOf Try.prog 33)
def f33a1 : Ann := subAnn [0] ann33
noncomputable def f33c2 : Code := subCode [1] (bodyOf Try.prog 33)
def f33a2 : Ann := subAnn [1] ann33
noncomputable def f33c3 : Code := subCode [1, 0] (bodyOf Try.prog 33)
def f33a3 : Ann := subAnn [1, 0] ann33
noncomputable def f33c4 : Code := subCode [1, 1] (bodyOf Try.prog 33)
def f33a4 : Ann := subAnn [1, 1] ann33
noncomputable def f33c5 : Code := subCode [1, 0, 0] (bodyOf Try.prog 33)
def f33a5 : Ann := subAnn [1, 0, 0] ann33
noncomputable def f33c6 : Code := subCode [1, 0, 1] (bodyOf Try.prog 33)
def f33a6 : Ann := subAnn [1, 0, 1] ann33
noncomputable def f33c7 : Code := subCode [1, 0, 1, 0] (bodyOf Try.prog 33)
def f33a7 : Ann := subAnn [1, 0, 1, 0] ann33
noncomputable def f33c8 : Code := subCode [1, 0, 1, 1] (bodyOf Try.prog 33)
def f33a8 : Ann := subAnn [1, 0, 1, 1] ann33
noncomputable def f33c9 : Code := subCode [1, 0, 1, 1, 0] (bodyOf Try.prog 33)
def f33a9 : Ann := subAnn [1, 0, 1, 1, 0] ann33
noncomputable def f33c10 : Code := subCode [1, 0, 1, 1, 1] (bodyOf Try.prog 33)
def f33a10 : Ann := subAnn [1, 0, 1, 1, 1] ann33
noncomputable def f33c11 : Code := subCode [1, 0, 1, 1, 0, 0] (bodyOf Try.prog 33)
def f33a11 : Ann := subAnn [1, 0, 1, 1, 0, 0] ann33
noncomputable def f33c12 : Code := subCode [1, 0, 1, 1, 0, 1] (bodyOf Try.prog 33)
def f33a12 : Ann := subAnn [1, 0, 1, 1, 0, 1] ann33
noncomputable def f33c13 : Code := subCode [1, 1, 0] (bodyOf Try.prog 33)
def f33a13 : Ann := subAnn [1, 1, 0] ann33
noncomputable def f33c14 : Code := subCode [1, 1, 1] (bodyOf Try.prog 33)
def f33a14 : Ann := subAnn [1, 1, 1] ann33
noncomputable def f33c15 : Code := subCode [1, 1, 0, 0] (bodyOf Try.prog 33)
def f33a15 : Ann := subAnn [1, 1, 0, 0] ann33
noncomputable def f33c16 : Code := subCode [1, 1, 0, 1] (bodyOf Try.prog 33)
def f33a16 : Ann := subAnn [1, 1, 0, 1] ann33
noncomputable def f33c17 : Code := subCode [1, 1, 0, 1, 0] (bodyOf Try.prog 33)
def f33a17 : Ann := subAnn [1, 1, 0, 1, 0] ann33
noncomputable def f33c18 : Code := subCode [1, 1, 0, 1, 1] (bodyOf Try.prog 33)
def f33a18 : Ann := subAnn [1, 1, 0, 1, 1] ann33
noncomputable def f33c19 : Code := subCode [1, 1, 0, 1, 1, 0] (bodyOf Try.prog 33)
def f33a19 : Ann := subAnn [1, 1, 0, 1, 1, 0] ann33
noncomputable def f33c20 : Code := subCode [1, 1, 0, 1, 1, 1] (bodyOf Try.prog 33)
def f33a20 : Ann := subAnn [1, 1, 0, 1, 1, 1] ann33
noncomputable def f33c21 : Code := subCode [1, 1, 0, 1, 1, 0, 0] (bodyOf Try.prog 33)
def f33a21 : Ann := subAnn [1, 1, 0, 1, 1, 0, 0] ann33
noncomputable def f33c22 : Code := subCode [1, 1, 0, 1, 1, 0, 1] (bodyOf Try.prog 33)
def f33a22 : Ann := subAnn [1, 1, 0, 1, 1, 0, 1] ann33
noncomputable def f33c23 : Code := subCode [1, 1, 1, 0] (bodyOf Try.prog 33)
def f33a23 : Ann := subAnn [1, 1, 1, 0] ann33
noncomputable def f33c24 : Code := subCode [1, 1, 1, 1] (bodyOf Try.prog 33)
def f33a24 : Ann := subAnn [1, 1, 1, 1] ann33
noncomputable def f33c25 : Code := subCode [1, 1, 1, 1, 0] (bodyOf Try.prog 33)
def f33a25 : Ann := subAnn [1, 1, 1, 1, 0] ann33
noncomputable def f33c26 : Code := subCode [1, 1, 1, 1, 1] (bodyOf Try.prog 33)
def f33a26 : Ann := subAnn [1, 1, 1, 1, 1] ann33
noncomputable def f33c27 : Code := subCode [1, 1, 1, 1, 1, 0] (bodyOf Try.prog 33)
def f33a27 : Ann := subAnn [1, 1, 1, 1, 1, 0] ann33
noncomputable def f33c28 : Code := subCode [1, 1, 1, 1, 1, 1] (bodyOf Try.prog 33)
def f33a28 : Ann := subAnn [1, 1, 1, 1, 1, 1] ann33
def f33e0 (y0 : Option (Nat × Nat)) (y1 : Int) (y2 : Int) (y3 : ByteArray) (y4 : Int) (y5 : Option (Nat × Nat)) (y6 : Nat) (y7 : Option Nat) : Env := AV.ptr y0 :: AV.int IntKind.i64 y1 :: AV.int IntKind.i64 y2 :: AV.agg [AV.str y3, AV.int IntKind.i64 y4, AV.slice y5 y6 y7 (2 : Nat)] :: Env.sp 44 []
def f33e1 (y0 : Option (Nat × Nat)) (y1 : Int) (y2 : Int) (y3 : ByteArray) (y4 : Int) (y5 : Option (Nat × Nat)) (y6 : Nat) (y7 : Option Nat) (y8 : Nat) (y9 : Bool) (y10 : Int) : Env := AV.ptr y0 :: AV.int IntKind.i64 y1 :: AV.int IntKind.i64 y2 :: AV.agg [AV.str y3, AV.int IntKind.i64 y4, AV.slice y5 y6 y7 (2 : Nat)] :: Env.sp 3 (AV.ptr (some (y8, (0 : Nat))) :: AV.bool y9 :: AV.int IntKind.i64 y10 :: Env.sp 38 [])
def f33e2 (y0 : Option (Nat × Nat)) (y1 : Int) (y2 : Int) (y3 : Nat) : Env := AV.ptr y0 :: AV.int IntKind.i64 y1 :: AV.int IntKind.i64 y2 :: Env.sp 4 (AV.ptr (some (y3, (0 : Nat))) :: Env.sp 40 [])
def f33e3 (y0 : Option (Nat × Nat)) (y1 : Int) (y2 : Int) (y3 : Nat) (y4 : Int) (y5 : Option (Nat × Nat)) (y6 : Int) (y7 : Int) (y8 : Int) : Env := AV.ptr y0 :: AV.int IntKind.i64 y1 :: AV.int IntKind.i64 y2 :: Env.sp 4 (AV.ptr (some (y3, (0 : Nat))) :: Env.sp 2 (AV.int IntKind.i64 y4 :: Env.sp 2 (AV.ptr y5 :: AV.int IntKind.i64 y6 :: AV.int IntKind.i64 y7 :: AV.int IntKind.i64 y8 :: Env.sp 31 [])))
def f33e4 (y0 : Option (Nat × Nat)) (y1 : Int) (y2 : Int) (y3 : Nat) (y4 : Int) : Env := AV.ptr y0 :: AV.int IntKind.i64 y1 :: AV.int IntKind.i64 y2 :: Env.sp 4 (AV.ptr (some (y3, (0 : Nat))) :: Env.sp 2 (AV.int IntKind.i64 y4 :: Env.sp 37 []))
def f33e5 (y0 : Option (Nat × Nat)) (y1 : Int) (y2 : Int) (y3 : Nat) (y4 : Int) (y5 : Int) (y6 : Bool) : Env := AV.ptr y0 :: AV.int IntKind.i64 y1 :: AV.int IntKind.i64 y2 :: Env.sp 4 (AV.ptr (some (y3, (0 : Nat))) :: Env.sp 2 (AV.int IntKind.i64 y4 :: Env.sp 6 (AV.int IntKind.i64 y5 :: AV.bool y6 :: Env.sp 29 [])))
def f33e6 (y0 : Option (Nat × Nat)) (y1 : Int) (y2 : Int) (y3 : Nat) (y4 : Int) (y5 : Bool) : Env := AV.ptr y0 :: AV.int IntKind.i64 y1 :: AV.int IntKind.i64 y2 :: Env.sp 4 (AV.ptr (some (y3, (0 : Nat))) :: Env.sp 2 (AV.int IntKind.i64 y4 :: Env.sp 7 (AV.bool y5 :: Env.sp 29 [])))
def f33e7 (y0 : Option (Nat × Nat)) (y1 : Int) (y2 : Int) (y3 : Nat) (y4 : Bool) (y5 : Int) (y6 : Int) (y7 : Bool) (y8 : Int) : Env := AV.ptr y0 :: AV.int IntKind.i64 y1 :: AV.int IntKind.i64 y2 :: Env.sp 4 (AV.ptr (some (y3, (0 : Nat))) :: AV.bool y4 :: AV.int IntKind.i64 y5 :: AV.int IntKind.i64 y6 :: Env.sp 7 (AV.bool y7 :: AV.int IntKind.i64 y8 :: Env.sp 28 []))
def f33e8 (y0 : Bool) (y1 : Int) : Env := Env.sp 8 (AV.bool y0 :: AV.int IntKind.i64 y1 :: Env.sp 38 [])
def f33e9 (y0 : Option (Nat × Nat)) (y1 : Int) (y2 : Int) (y3 : Nat) (y4 : Nat) (y5 : Bool) (y6 : Int) (y7 : ByteArray) (y8 : Int) (y9 : Option (Nat × Nat)) (y10 : Nat) (y11 : Option Nat) (y12 : Bool) (y13 : Option (Nat × Nat)) (y14 : Option (Nat × Nat)) (y15 : Option (Nat × Nat)) (y16 : Option Nat) (y17 : Int) (y18 : Int) (y19 : ByteArray) (y20 : Int) (y21 : Option (Nat × Nat)) (y22 : Nat) (y23 : Option Nat) (y24 : Bool) (y25 : Int) (y26 : ByteArray) (y27 : Int) (y28 : Option (Nat × Nat)) (y29 : Nat) (y30 : Option Nat) (y31 : Bool) : Env := AV.ptr y0 :: AV.int IntKind.i64 y1 :: AV.int IntKind.i64 y2 :: Env.sp 4 (AV.ptr (some (y3, (0 : Nat))) :: Env.sp 3 (AV.ptr (some (y4, (0 : Nat))) :: AV.bool y5 :: Env.sp 7 (AV.tuple [AV.agg [AV.int IntKind.i64 y6, AV.str y7, AV.int IntKind.i64 y8, AV.slice y9 y10 y11 (2 : Nat)], AV.bool y12] :: AV.ptr y13 :: AV.ptr y14 :: AV.ptr y15 :: AV.map y16 :: AV.int IntKind.i64 y17 :: AV.tuple [AV.agg [AV.int IntKind.i64 y18, AV.str y19, AV.int IntKind.i64 y20, AV.slice y21 y22 y23 (2 : Nat)], AV.bool y24] :: AV.agg [AV.int IntKind.i64 y25, AV.str y26, AV.int IntKind.i64 y27, AV.slice y28 y29 y30 (2 : Nat)] :: AV.bool y31 :: Env.sp 19 [])))
def f33e10 (y0 : Option (Nat × Nat)) (y1 : Int) (y2 : Int) (y3 : Nat) (y4 : Nat) (y5 : Bool) : Env := AV.ptr y0 :: AV.int IntKind.i64 y1 :: AV.int IntKind.i64 y2 :: Env.sp 4 (AV.ptr (some (y3, (0 : Nat))) :: Env.sp 3 (AV.ptr (some (y4, (0 : Nat))) :: AV.bool y5 :: Env.sp 35 []))
def f33e11 (y0 : Option (Nat × Nat)) (y1 : Int) (y2 : Int) (y3 : Nat) (y4 : Nat) (y5 : Bool) (y6 : Bool) (y7 : Bool) (y8 : Nat) (y9 : Int) (y10 : Int) (y11 : Bool) (y12 : Bool) : Env := AV.ptr y0 :: AV.int IntKind.i64 y1 :: AV.int IntKind.i64 y2 :: Env.sp 4 (AV.ptr (some (y3, (0 : Nat))) :: Env.sp 3 (AV.ptr (some (y4, (0 : Nat))) :: AV.bool y5 :: Env.sp 16 (AV.bool y6 :: AV.bool y7 :: AV.ptr (some (y8, (0 : Nat))) :: AV.int IntKind.i64 y9 :: AV.int IntKind.i64 y10 :: AV.bool y11 :: AV.bool y12 :: Env.sp 12 [])))
def f33e12 (y0 : Option (Nat × Nat)) (y1 : Int) (y2 : Int) (y3 : Nat) (y4 : Nat) (y5 : Bool) (y6 : Bool) (y7 : Bool) (y8 : Bool) : Env := AV.ptr y0 :: AV.int IntKind.i64 y1 :: AV.int IntKind.i64 y2 :: Env.sp 4 (AV.ptr (some (y3, (0 : Nat))) :: Env.sp 3 (AV.ptr (some (y4, (0 : Nat))) :: AV.bool y5 :: Env.sp 16 (AV.bool y6 :: AV.bool y7 :: AV.tuple [] :: AV.tuple [] :: AV.tuple [] :: AV.tuple [] :: AV.bool y8 :: Env.sp 12 [])))
def f33e13 (y0 : Option (Nat × Nat)) (y1 : Int) (y2 : Int) (y3 : Nat) (y4 : Bool) : Env := AV.ptr y0 :: AV.int IntKind.i64 y1 :: AV.int IntKind.i64 y2 :: Env.sp 4 (AV.ptr (some (y3, (0 : Nat))) :: Env.sp 27 (AV.bool y4 :: Env.sp 12 []))
def f33e14 (y0 : Option (Nat × Nat)) (y1 : Int) (y2 : Int) (y3 : Nat) (y4 : Bool) (y5 : Int) (y6 : Bool) : Env := AV.ptr y0 :: AV.int IntKind.i64 y1 :: AV.int IntKind.i64 y2 :: Env.sp 4 (AV.ptr (some (y3, (0 : Nat))) :: AV.bool y4 :: AV.int IntKind.i64 y5 :: Env.sp 25 (AV.bool y6 :: Env.sp 12 []))
def f33e15 (y0 : Option (Nat × Nat)) (y1 : Int) (y2 : Int) (y3 : Nat) (y4 : Nat) (y5 : Option (Nat × Nat)) (y6 : Nat) (y7 : Option Nat) (y8 : Option (Nat × Nat)) (y9 : Nat) (y10 : Option Nat) (y11 : Nat) : Env := AV.ptr y0 :: AV.int IntKind.i64 y1 :: AV.int IntKind.i64 y2 :: Env.sp 4 (AV.ptr (some (y3, (0 : Nat))) :: Env.sp 28 (AV.ptr (some (y4, (2 : Nat))) :: AV.slice y5 y6 y7 (2 : Nat) :: AV.slice y8 y9 y10 (2 : Nat) :: AV.ptr (some (y11, (2 : Nat))) :: Env.sp 8 []))
def f33e16 (y0 : Option (Nat × Nat)) (y1 : Int) (y2 : Int) (y3 : Nat) (y4 : Option (Nat × Nat)) (y5 : Option (Nat × Nat)) (y6 : Option (Nat × Nat)) (y7 : Option Nat) (y8 : Int) (y9 : Int) (y10 : ByteArray) (y11 : Int) (y12 : Option (Nat × Nat)) (y13 : Nat) (y14 : Option Nat) (y15 : Int) (y16 : ByteArray) (y17 : Int) (y18 : Option (Nat × Nat)) (y19 : Nat) (y20 : Option Nat) : Env := AV.ptr y0 :: AV.int IntKind.i64 y1 :: AV.int IntKind.i64 y2 :: Env.sp 4 (AV.ptr (some (y3, (0 : Nat))) :: Env.sp 32 (AV.ptr y4 :: AV.ptr y5 :: AV.ptr y6 :: AV.map y7 :: AV.int IntKind.i64 y8 :: AV.int IntKind.i64 y9 :: AV.agg [AV.str y10, AV.int IntKind.i64 y11, AV.slice y12 y13 y14 (2 : Nat)] :: AV.agg [AV.int IntKind.i64 y15, AV.str y16, AV.int IntKind.i64 y17, AV.slice y18 y19 y20 (2 : Nat)] :: []))
def f33e17 : Env := Env.sp 48 []

/- function 33 -/
theorem f33_eq {R : Type} (call : Bool → CallF R) (dem : Bool) (N : Nat) (y0 : Option (Nat × Nat)) (y1 : Int) (y2 : Int) (y3 : ByteArray) (y4 : Int) (y5 : Option (Nat × Nat)) (y6 : Nat) (y7 : Option Nat) (σ : St) (K : AV → St → Option R) :
    bodyK Try.prog call dem N ann 33 [AV.ptr y0, AV.int IntKind.i64 y1, AV.int IntKind.i64 y2, AV.agg [AV.str y3, AV.int IntKind.i64 y4, AV.slice y5 y6 y7 (2 : Nat)]] σ K = runK Try.prog call dem N f33c0 f33a0 (bodyC Try.prog f33rs K) (f33e0 y0 y1 y2 y3 y4 y5 y6 y7) σ := bodyK_of (fn := ((Try.prog.funcs[33]?).get rfl)) (by kernel_rfl) (by kernel_rfl) (by kernel_rfl) (by kernel_rfl) (by kernel_rfl) (by kernel_rfl)
theorem f33n0 {R : Type} (call : Bool → CallF R) (dem : Bool) (N : Nat) (J : KF R) (e : Env) (σ : St) : runK Try.prog call dem N f33c0 f33a0 J e σ = runK Try.prog call dem N f33c1 f33a1 (seqC (fun K e σ => runK Try.prog call dem N f33c2 f33a2 K e σ) f33a0 J) e σ := runK_seq' (by kernel_rfl) (by kernel_rfl) (by kernel_rfl)
theorem f33r1_f33e0 {R : Type} (call : Bool → CallF R) (dem : Bool) (N : Nat) (y0 : Option (Nat × Nat)) (y1 : Int) (y2 : Int) (y3 : ByteArray) (y4 : Int) (y5 : Option (Nat × Nat)) (y6 : Nat) (y7 : Option Nat) (J : KF R) (σ : St) :
    runK Try.prog call dem N f33c1 f33a1 J (f33e0 y0 y1 y2 y3 y4 y5 y6 y7) σ =
J Ex.normal (f33e1 y0 y1 y2 y3 y4 y5 y6 y7 (St.next σ) false (0 : Int))
  (St.new σ (Blk.cells [AV.str y3, AV.int IntKind.i64 y4, AV.slice y5 y6 y7 (2 : Nat)] true)) := hide (by kernel_rfl)
theorem f33z0_f33e1 (y0 : Option (Nat × Nat)) (y1 : Int) (y2 : Int) (y3 : ByteArray) (y4 : Int) (y5 : Option (Nat × Nat)) (y6 : Nat) (y7 : Option Nat) (y8 : Nat) (y9 : Bool) (y10 : Int) : Ann.clr f33a0 (f33e1 y0 y1 y2 y3 y4 y5 y6 y7 y8 y9 y10) = f33e2 y0 y1 y2 y8 := hide (by kernel_rfl)
theorem f33n2 {R : Type} (call : Bool → CallF R) (dem : Bool) (N : Nat) (J : KF R) (e : Env) (σ : St) : runK Try.prog call dem N f33c2 f33a2 J e σ = runK Try.prog call dem N f33c3 f33a3 (seqC (fun K e σ => runK Try.prog call dem N f33c4 f33a4 K e σ) f33a2 J) e σ := runK_seq' (by kernel_rfl) (by kernel_rfl) (by kernel_rfl)
theorem f33n3 {R : Type} (call : Bool → CallF R) (dem : Bool) (N : Nat) (J : KF R) (e : Env) (σ : St) : runK Try.prog call dem N f33c3 f33a3 J e σ = runK Try.prog call dem N f33c5 f33a5 (seqC (fun K e σ => runK Try.prog call dem N f33c6 f33a6 K e σ) f33a3 J) e σ := runK_seq' (by kernel_rfl) (by kernel_rfl) (by kernel_rfl)
theorem f33r5_f33e2 {R : Type} (call : Bool → CallF R) (dem : Bool) (N : Nat) (y0 : Option (Nat × Nat)) (y1 : Int) (y2 : Int) (y3 : Nat) (J : KF R) (σ : St) :
    runK Try.prog call dem N f33c5 f33a5 J (f33e2 y0 y1 y2 y3) σ =
call dem (43 : Nat) [AV.ptr y0, AV.int IntKind.i64 y1, AV.int IntKind.i64 y2] σ fun v0 v1 =>
  Option.bind (AV.toInt IntKind.i64 v0) fun v2 => J Ex.normal (f33e3 y0 y1 y2 y3 v2 y0 y1 y2 v2) v1 := hide (by kernel_rfl)
theorem f33z3_f33e3 (y0 : Option (Nat × Nat)) (y1 : Int) (y2 : Int) (y3 : Nat) (y4 : Int) (y5 : Option (Nat × Nat)) (y6 : Int) (y7 : Int) (y8 : Int) : Ann.clr f33a3 (f33e3 y0 y1 y2 y3 y4 y5 y6 y7 y8) = f33e4 y0 y1 y2 y3 y4 := hide (by kernel_rfl)
theorem f33n6 {R : Type} (call : Bool → CallF R) (dem : Bool) (N : Nat) (J : KF R) (e : Env) (σ : St) : runK Try.prog call dem N f33c6 f33a6 J e σ = runK Try.prog call dem N f33c7 f33a7 (seqC (fun K e σ => runK Try.prog call dem N f33c8 f33a8 K e σ) f33a6 J) e σ := runK_seq' (by kernel_rfl) (by kernel_rfl) (by kernel_rfl)
theorem f33r7_f33e4 {R : Type} (call : Bool → CallF R) (dem : Bool) (N : Nat) (y0 : Option (Nat × Nat)) (y1 : Int) (y2 : Int) (y3 : Nat) (y4 : Int) (J : KF R) (σ : St) :
    runK Try.prog call dem N f33c7 f33a7 J (f33e4 y0 y1 y2 y3 y4) σ =
J Ex.normal (f33e5 y0 y1 y2 y3 y4 y4 (y4 != (0 : Int))) σ := hide (by kernel_rfl)
theorem f33z6_f33e5 (y0 : Option (Nat × Nat)) (y1 : Int) (y2 : Int) (y3 : Nat) (y4 : Int) (y5 : Int) (y6 : Bool) : Ann.clr f33a6 (f33e5 y0 y1 y2 y3 y4 y5 y6) = f33e6 y0 y1 y2 y3 y4 y6 := hide (by kernel_rfl)
theorem f33x8_f33e6 {R : Type} (call : Bool → CallF R) (dem : Bool) (N : Nat) (y0 : Option (Nat × Nat)) (y1 : Int) (y2 : Int) (y3 : Nat) (y4 : Int) (y5 : Bool) (J : KF R) (σ : St) : runK Try.prog call dem N f33c8 f33a8 J (f33e6 y0 y1 y2 y3 y4 y5) σ = if y5 = true then runK Try.prog call dem N f33c9 f33a9 (condC f33a8 J) (f33e6 y0 y1 y2 y3 y4 y5) σ else runK Try.prog call dem N f33c10 f33a10 (condC f33a8 J) (f33e6 y0 y1 y2 y3 y4 y5) σ := runK_cond' (o := Operand.tmp (18 : Nat)) (by kernel_rfl) (by kernel_rfl) (by kernel_rfl) (by kernel_rfl)
theorem f33n9 {R : Type} (call : Bool → CallF R) (dem : Bool) (N : Nat) (J : KF R) (e : Env) (σ : St) : runK Try.prog call dem N f33c9 f33a9 J e σ = runK Try.prog call dem N f33c11 f33a11 (seqC (fun K e σ => runK Try.prog call dem N f33c12 f33a12 K e σ) f33a9 J) e σ := runK_seq' (by kernel_rfl) (by kernel_rfl) (by kernel_rfl)
theorem f33r11_f33e6 {R : Type} (call : Bool → CallF R) (dem : Bool) (N : Nat) (y0 : Option (Nat × Nat)) (y1 : Int) (y2 : Int) (y3 : Nat) (y4 : Int) (y5 : Bool) (J : KF R) (σ : St) :
    runK Try.prog call dem N f33c11 f33a11 J (f33e6 y0 y1 y2 y3 y4 y5) σ =
J Ex.normal (f33e7 y0 y1 y2 y3 false y4 y4 y5 y4) σ := hide (by kernel_rfl)
theorem f33z9_f33e7 (y0 : Option (Nat × Nat)) (y1 : Int) (y2 : Int) (y3 : Nat) (y4 : Bool) (y5 : Int) (y6 : Int) (y7 : Bool) (y8 : Int) : Ann.clr f33a9 (f33e7 y0 y1 y2 y3 y4 y5 y6 y7 y8) = f33e8 y4 y5 := hide (by kernel_rfl)
theorem f33y12_f33e8 {R : Type} (call : Bool → CallF R) (dem : Bool) (N : Nat) (y0 : Bool) (y1 : Int) (J : KF R) (σ : St) : runK Try.prog call dem N f33c12 f33a12 J (f33e8 y0 y1) σ = J .ret (f33e8 y0 y1) σ := runK_ret' (by kernel_rfl) (by kernel_rfl)
theorem f33n10 {R : Type} (call : Bool → CallF R) (dem : Bool) (N : Nat) (J : KF R) (e : Env) (σ : St) : runK Try.prog call dem N f33c10 f33a10 J e σ = J .normal e σ := runK_skip' (by kernel_rfl)
theorem f33z8_f33e6 (y0 : Option (Nat × Nat)) (y1 : Int) (y2 : Int) (y3 : Nat) (y4 : Int) (y5 : Bool) : Ann.clr f33a8 (f33e6 y0 y1 y2 y3 y4 y5) = f33e2 y0 y1 y2 y3 := hide (by kernel_rfl)
theorem f33z2_f33e2 (y0 : Option (Nat × Nat)) (y1 : Int) (y2 : Int) (y3 : Nat) : Ann.clr f33a2 (f33e2 y0 y1 y2 y3) = f33e2 y0 y1 y2 y3 := hide (by kernel_rfl)
theorem f33n4 {R : Type} (call : Bool → CallF R) (dem : Bool) (N : Nat) (J : KF R) (e : Env) (σ : St) : runK Try.prog call dem N f33c4 f33a4 J e σ = runK Try.prog call dem N f33c13 f33a13 (seqC (fun K e σ => runK Try.prog call dem N f33c14 f33a14 K e σ) f33a4 J) e σ := runK_seq' (by kernel_rfl) (by kernel_rfl) (by kernel_rfl)
theorem f33n13 {R : Type} (call : Bool → CallF R) (dem : Bool) (N : Nat) (J : KF R) (e : Env) (σ : St) : runK Try.prog call dem N f33c13 f33a13 J e σ = runK Try.prog call dem N f33c15 f33a15 (seqC (fun K e σ => runK Try.prog call dem N f33c16 f33a16 K e σ) f33a13 J) e σ := runK_seq' (by kernel_rfl) (by kernel_rfl) (by kernel_rfl)
theorem f33r15_f33e2 {R : Type} (call : Bool → CallF R) (dem : Bool) (N : Nat) (y0 : Option (Nat × Nat)) (y1 : Int) (y2 : Int) (y3 : Nat) (J : KF R) (σ : St) :
    runK Try.prog call dem N f33c15 f33a15 J (f33e2 y0 y1 y2 y3) σ =
Option.bind y0 fun v0 =>
  Option.bind (St.ld σ (Prod.fst v0) (Prod.snd v0 + (4 : Nat))) fun v1 =>
    Option.bind (AV.toMap v1) fun v2 =>
      Option.bind (St.entries σ v2) fun v3 =>
        Option.bind (findKey false [Sh.int IntKind.i64] [AV.int IntKind.i64 y2] v3 (0 : Nat)) fun v4 =>
          match v4 with
          | some v5 =>
            Option.bind (AV.toAgg (Prod.snd v5)) fun v6 =>
              if List.length v6 = (4 : Nat) then
                Option.bind (List.head? v6) fun v7 =>
                  Option.bind (AV.toInt IntKind.i64 v7) fun v8 =>
                    Option.bind (List.head? (List.tail v6)) fun v9 =>
                      Option.bind (AV.toStr v9) fun v10 =>
                        Option.bind (List.head? (List.tail (List.tail v6))) fun v11 =>
                          Option.bind (AV.toInt IntKind.i64 v11) fun v12 =>
                            Option.bind (List.head? (List.tail (List.tail (List.tail v6)))) fun v13 =>
                              Option.bind (AV.toSl (2 : Nat) v13) fun v14 =>
                                Option.bind
                                  (St.st
                                    (St.new σ
                                      (Blk.cells
                                        [AV.int IntKind.i64 (0 : Int), AV.str (ByteArray.mk #[]), AV.int IntKind.i64 (0 : Int),
                                          AV.slice none (0 : Nat) (some (0 : Nat)) (2 : Nat)]
                                        true))
                                    (St.next σ) (0 : Nat)
                                    [AV.int IntKind.i64 v8, AV.str v10, AV.int IntKind.i64 v12,
                                      AV.slice (Sl.o v14) (Sl.len v14) (Sl.cap v14) (2 : Nat)])
                                  fun v15 =>
                                  J Ex.normal
                                    (f33e9 y0 y1 y2 y3 (St.next σ) true v8 v10 v12 (Sl.o v14) (Sl.len v14) (Sl.cap v14) true y0 (some v0)
                                      (some (Prod.fst v0, Prod.snd v0 + (4 : Nat))) v2 y2 v8 v10 v12 (Sl.o v14) (Sl.len v14) (Sl.cap v14) true v8 v10
                                      v12 (Sl.o v14) (Sl.len v14) (Sl.cap v14) true)
                                    v15
              else none
          | none =>
            Option.bind
              (St.st
                (St.new σ
                  (Blk.cells
                    [AV.int IntKind.i64 (0 : Int), AV.str (ByteArray.mk #[]), AV.int IntKind.i64 (0 : Int),
                      AV.slice none (0 : Nat) (some (0 : Nat)) (2 : Nat)]
                    true))
                (St.next σ) (0 : Nat)
                [AV.int IntKind.i64 (0 : Int), AV.str (ByteArray.mk #[]), AV.int IntKind.i64 (0 : Int),
                  AV.slice none (0 : Nat) (some (0 : Nat)) (2 : Nat)])
              fun v6 =>
              J Ex.normal
                (f33e9 y0 y1 y2 y3 (St.next σ) false (0 : Int) (ByteArray.mk #[]) (0 : Int) none (0 : Nat) (some (0 : Nat)) false y0 (some v0)
                  (some (Prod.fst v0, Prod.snd v0 + (4 : Nat))) v2 y2 (0 : Int) (ByteArray.mk #[]) (0 : Int) none (0 : Nat) (some (0 : Nat)) false
                  (0 : Int) (ByteArray.mk #[]) (0 : Int) none (0 : Nat) (some (0 : Nat)) false)
                v6 := hide (by kernel_rfl)
theorem f33z13_f33e9 (y0 : Option (Nat × Nat)) (y1 : Int) (y2 : Int) (y3 : Nat) (y4 : Nat) (y5 : Bool) (y6 : Int) (y7 : ByteArray) (y8 : Int) (y9 : Option (Nat × Nat)) (y10 : Nat) (y11 : Option Nat) (y12 : Bool) (y13 : Option (Nat × Nat)) (y14 : Option (Nat × Nat)) (y15 : Option (Nat × Nat)) (y16 : Option Nat) (y17 : Int) (y18 : Int) (y19 : ByteArray) (y20 : Int) (y21 : Option (Nat × Nat)) (y22 : Nat) (y23 : Option Nat) (y24 : Bool) (y25 : Int) (y26 : ByteArray) (y27 : Int) (y28 : Option (Nat × Nat)) (y29 : Nat) (y30 : Option Nat) (y31 : Bool) : Ann.clr f33a13 (f33e9 y0 y1 y2 y3 y4 y5 y6 y7 y8 y9 y10 y11 y12 y13 y14 y15 y16 y17 y18 y19 y20 y21 y22 y23 y24 y25 y26 y27 y28 y29 y30 y31) = f33e10 y0 y1 y2 y3 y4 y5 := hide (by kernel_rfl)
theorem f33n16 {R : Type} (call : Bool → CallF R) (dem : Bool) (N : Nat) (J : KF R) (e : Env) (σ : St) : runK Try.prog call dem N f33c16 f33a16 J e σ = runK Try.prog call dem N f33c17 f33a17 (seqC (fun K e σ => runK Try.prog call dem N f33c18 f33a18 K e σ) f33a16 J) e σ := runK_seq' (by kernel_rfl) (by kernel_rfl) (by kernel_rfl)
theorem f33r17_f33e10 {R : Type} (call : Bool → CallF R) (dem : Bool) (N : Nat) (y0 : Option (Nat × Nat)) (y1 : Int) (y2 : Int) (y3 : Nat) (y4 : Nat) (y5 : Bool) (J : KF R) (σ : St) :
    runK Try.prog call dem N f33c17 f33a17 J (f33e10 y0 y1 y2 y3 y4 y5) σ =
if y5 = true then
  Option.bind (St.ld σ y4 (0 : Nat)) fun v0 =>
    Option.bind (AV.toInt IntKind.i64 v0) fun v1 => J Ex.normal (f33e11 y0 y1 y2 y3 y4 y5 y5 true y4 v1 y1 (decide (v1 ≥ y1)) (decide (v1 ≥ y1))) σ
else J Ex.normal (f33e12 y0 y1 y2 y3 y4 y5 y5 false false) σ := hide (by kernel_rfl)
theorem f33z16_f33e11 (y0 : Option (Nat × Nat)) (y1 : Int) (y2 : Int) (y3 : Nat) (y4 : Nat) (y5 : Bool) (y6 : Bool) (y7 : Bool) (y8 : Nat) (y9 : Int) (y10 : Int) (y11 : Bool) (y12 : Bool) : Ann.clr f33a16 (f33e11 y0 y1 y2 y3 y4 y5 y6 y7 y8 y9 y10 y11 y12) = f33e13 y0 y1 y2 y3 y12 := hide (by kernel_rfl)
theorem f33x18_f33e13 {R : Type} (call : Bool → CallF R) (dem : Bool) (N : Nat) (y0 : Option (Nat × Nat)) (y1 : Int) (y2 : Int) (y3 : Nat) (y4 : Bool) (J : KF R) (σ : St) : runK Try.prog call dem N f33c18 f33a18 J (f33e13 y0 y1 y2 y3 y4) σ = if y4 = true then runK Try.prog call dem N f33c19 f33a19 (condC f33a18 J) (f33e13 y0 y1 y2 y3 y4) σ else runK Try.prog call dem N f33c20 f33a20 (condC f33a18 J) (f33e13 y0 y1 y2 y3 y4) σ := runK_cond' (o := Operand.tmp (35 : Nat)) (by kernel_rfl) (by kernel_rfl) (by kernel_rfl) (by kernel_rfl)
theorem f33n19 {R : Type} (call : Bool → CallF R) (dem : Bool) (N : Nat) (J : KF R) (e : Env) (σ : St) : runK Try.prog call dem N f33c19 f33a19 J e σ = runK Try.prog call dem N f33c21 f33a21 (seqC (fun K e σ => runK Try.prog call dem N f33c22 f33a22 K e σ) f33a19 J) e σ := runK_seq' (by kernel_rfl) (by kernel_rfl) (by kernel_rfl)
theorem f33r21_f33e13 {R : Type} (call : Bool → CallF R) (dem : Bool) (N : Nat) (y0 : Option (Nat × Nat)) (y1 : Int) (y2 : Int) (y3 : Nat) (y4 : Bool) (J : KF R) (σ : St) :
    runK Try.prog call dem N f33c21 f33a21 J (f33e13 y0 y1 y2 y3 y4) σ =
J Ex.normal (f33e14 y0 y1 y2 y3 false (0 : Int) y4) σ := hide (by kernel_rfl)
theorem f33z19_f33e14 (y0 : Option (Nat × Nat)) (y1 : Int) (y2 : Int) (y3 : Nat) (y4 : Bool) (y5 : Int) (y6 : Bool) : Ann.clr f33a19 (f33e14 y0 y1 y2 y3 y4 y5 y6) = f33e8 y4 y5 := hide (by kernel_rfl)
theorem f33y22_f33e8 {R : Type} (call : Bool → CallF R) (dem : Bool) (N : Nat) (y0 : Bool) (y1 : Int) (J : KF R) (σ : St) : runK Try.prog call dem N f33c22 f33a22 J (f33e8 y0 y1) σ = J .ret (f33e8 y0 y1) σ := runK_ret' (by kernel_rfl) (by kernel_rfl)
theorem f33n20 {R : Type} (call : Bool → CallF R) (dem : Bool) (N : Nat) (J : KF R) (e : Env) (σ : St) : runK Try.prog call dem N f33c20 f33a20 J e σ = J .normal e σ := runK_skip' (by kernel_rfl)
theorem f33z18_f33e13 (y0 : Option (Nat × Nat)) (y1 : Int) (y2 : Int) (y3 : Nat) (y4 : Bool) : Ann.clr f33a18 (f33e13 y0 y1 y2 y3 y4) = f33e2 y0 y1 y2 y3 := hide (by kernel_rfl)
theorem f33z16_f33e12 (y0 : Option (Nat × Nat)) (y1 : Int) (y2 : Int) (y3 : Nat) (y4 : Nat) (y5 : Bool) (y6 : Bool) (y7 : Bool) (y8 : Bool) : Ann.clr f33a16 (f33e12 y0 y1 y2 y3 y4 y5 y6 y7 y8) = f33e13 y0 y1 y2 y3 y8 := hide (by kernel_rfl)
theorem f33z4_f33e2 (y0 : Option (Nat × Nat)) (y1 : Int) (y2 : Int) (y3 : Nat) : Ann.clr f33a4 (f33e2 y0 y1 y2 y3) = f33e2 y0 y1 y2 y3 := hide (by kernel_rfl)
theorem f33n14 {R : Type} (call : Bool → CallF R) (dem : Bool) (N : Nat) (J : KF R) (e : Env) (σ : St) : runK Try.prog call dem N f33c14 f33a14 J e σ = runK Try.prog call dem N f33c23 f33a23 (seqC (fun K e σ => runK Try.prog call dem N f33c24 f33a24 K e σ) f33a14 J) e σ := runK_seq' (by kernel_rfl) (by kernel_rfl) (by kernel_rfl)
theorem f33r23_f33e2 {R : Type} (call : Bool → CallF R) (dem : Bool) (N : Nat) (y0 : Option (Nat × Nat)) (y1 : Int) (y2 : Int) (y3 : Nat) (J : KF R) (σ : St) :
    runK Try.prog call dem N f33c23 f33a23 J (f33e2 y0 y1 y2 y3) σ =
Option.bind (St.ld σ y3 (2 : Nat)) fun v0 =>
  Option.bind (AV.toSl (2 : Nat) v0) fun v1 =>
    call dem (50 : Nat) [AV.slice (Sl.o v1) (Sl.len v1) (Sl.cap v1) (2 : Nat)] σ fun v2 v3 =>
      Option.bind (AV.toSl (2 : Nat) v2) fun v4 =>
        Option.bind (St.st v3 y3 (2 : Nat) [AV.slice (Sl.o v4) (Sl.len v4) (Sl.cap v4) (2 : Nat)]) fun v5 =>
          J Ex.normal (f33e15 y0 y1 y2 y3 y3 (Sl.o v1) (Sl.len v1) (Sl.cap v1) (Sl.o v4) (Sl.len v4) (Sl.cap v4) y3) v5 := hide (by kernel_rfl)
theorem f33z14_f33e15 (y0 : Option (Nat × Nat)) (y1 : Int) (y2 : Int) (y3 : Nat) (y4 : Nat) (y5 : Option (Nat × Nat)) (y6 : Nat) (y7 : Option Nat) (y8 : Option (Nat × Nat)) (y9 : Nat) (y10 : Option Nat) (y11 : Nat) : Ann.clr f33a14 (f33e15 y0 y1 y2 y3 y4 y5 y6 y7 y8 y9 y10 y11) = f33e2 y0 y1 y2 y3 := hide (by kernel_rfl)
theorem f33n24 {R : Type} (call : Bool → CallF R) (dem : Bool) (N : Nat) (J : KF R) (e : Env) (σ : St) : runK Try.prog call dem N f33c24 f33a24 J e σ = runK Try.prog call dem N f33c25 f33a25 (seqC (fun K e σ => runK Try.prog call dem N f33c26 f33a26 K e σ) f33a24 J) e σ := runK_seq' (by kernel_rfl) (by kernel_rfl) (by kernel_rfl)
theorem f33r25_f33e2 {R : Type} (call : Bool → CallF R) (dem : Bool) (N : Nat) (y0 : Option (Nat × Nat)) (y1 : Int) (y2 : Int) (y3 : Nat) (J : KF R) (σ : St) :
    runK Try.prog call dem N f33c25 f33a25 J (f33e2 y0 y1 y2 y3) σ =
Option.bind y0 fun v0 =>
  Option.bind (St.ld σ (Prod.fst v0) (Prod.snd v0 + (4 : Nat))) fun v1 =>
    Option.bind (AV.toMap v1) fun v2 =>
      Option.bind (St.ld σ y3 (0 : Nat)) fun v3 =>
        Option.bind (AV.toStr v3) fun v4 =>
          Option.bind (St.ld σ y3 (1 : Nat)) fun v5 =>
            Option.bind (AV.toInt IntKind.i64 v5) fun v6 =>
              Option.bind (St.ld σ y3 (2 : Nat)) fun v7 =>
                Option.bind (AV.toSl (2 : Nat) v7) fun v8 =>
                  match some (TypeDesc.map (3 : Nat) (121 : Nat)), AV.map v2 with
                  | some (TypeDesc.map v9 v10), AV.map (some v11) =>
                    Option.bind (keyArg (Program.mk Try.progTables Try.funcs) v9 (AV.int IntKind.i64 y2)) fun v12 =>
                      Option.bind (St.map σ v11) fun v13 =>
                        Option.bind
                          (mapSet (Prod.fst v12) (Prod.fst (Prod.snd v12)) (Prod.snd (Prod.snd v12)) (AV.int IntKind.i64 y2)
                            (AV.agg [AV.int IntKind.i64 y1, AV.str v4, AV.int IntKind.i64 v6, AV.slice (Sl.o v8) (Sl.len v8) (Sl.cap v8) (2 : Nat)])
                            (Prod.fst v13) (Prod.snd v13))
                          fun v14 =>
                          J Ex.normal
                            (f33e16 y0 y1 y2 y3 y0 (some v0) (some (Prod.fst v0, Prod.snd v0 + (4 : Nat))) v2 y2 y1 v4 v6 (Sl.o v8) (Sl.len v8)
                              (Sl.cap v8) y1 v4 v6 (Sl.o v8) (Sl.len v8) (Sl.cap v8))
                            (St.put σ v11 (Blk.map (Prod.fst v14) (Prod.snd v14)))
                  | v9, v10 => none := hide (by kernel_rfl)
theorem f33z24_f33e16 (y0 : Option (Nat × Nat)) (y1 : Int) (y2 : Int) (y3 : Nat) (y4 : Option (Nat × Nat)) (y5 : Option (Nat × Nat)) (y6 : Option (Nat × Nat)) (y7 : Option Nat) (y8 : Int) (y9 : Int) (y10 : ByteArray) (y11 : Int) (y12 : Option (Nat × Nat)) (y13 : Nat) (y14 : Option Nat) (y15 : Int) (y16 : ByteArray) (y17 : Int) (y18 : Option (Nat × Nat)) (y19 : Nat) (y20 : Option Nat) : Ann.clr f33a24 (f33e16 y0 y1 y2 y3 y4 y5 y6 y7 y8 y9 y10 y11 y12 y13 y14 y15 y16 y17 y18 y19 y20) = f33e17 := hide (by kernel_rfl)
theorem f33n26 {R : Type} (call : Bool → CallF R) (dem : Bool) (N : Nat) (J : KF R) (e : Env) (σ : St) : runK Try.prog call dem N f33c26 f33a26 J e σ = runK Try.prog call dem N f33c27 f33a27 (seqC (fun K e σ => runK Try.prog call dem N f33c28 f33a28 K e σ) f33a26 J) e σ := runK_seq' (by kernel_rfl) (by kernel_rfl) (by kernel_rfl)
theorem f33r27_f33e17 {R : Type} (call : Bool → CallF R) (dem : Bool) (N : Nat) (J : KF R) (σ : St) :
    runK Try.prog call dem N f33c27 f33a27 J (f33e17) σ =
J Ex.normal (f33e8 true (0 : Int)) σ := hide (by kernel_rfl)
theorem f33z26_f33e8 (y0 : Bool) (y1 : Int) : Ann.clr f33a26 (f33e8 y0 y1) = f33e8 y0 y1 := hide (by kernel_rfl)
theorem f33y28_f33e8 {R : Type} (call : Bool → CallF R) (dem : Bool) (N : Nat) (y0 : Bool) (y1 : Int) (J : KF R) (σ : St) : runK Try.prog call dem N f33c28 f33a28 J (f33e8 y0 y1) σ = J .ret (f33e8 y0 y1) σ := runK_ret' (by kernel_rfl) (by kernel_rfl)
theorem f33b_f33e8_r {R : Type} (y0 : Bool) (y1 : Int) (σ : St) (K : AV → St → Option R) : bodyC Try.prog f33rs K (Ex.ret) (f33e8 y0 y1) σ =
K (AV.tuple [AV.bool y0, AV.int IntKind.i64 y1]) σ := hide (by kernel_rfl)
attribute [go_sem] f33_eq f33n0 f33r1_f33e0 f33z0_f33e1 f33n2 f33n3 f33r5_f33e2 f33z3_f33e3 f33n6 f33r7_f33e4 f33z6_f33e5 f33x8_f33e6 f33n9 f33r11_f33e6 f33z9_f33e7 f33y12_f33e8 f33n10 f33z8_f33e6 f33z2_f33e2 f33n4 f33n13 f33r15_f33e2 f33z13_f33e9 f33n16 f33r17_f33e10 f33z16_f33e11 f33x18_f33e13 f33n19 f33r21_f33e13 f33z19_f33e14 f33y22_f33e8 f33n20 f33z18_f33e13 f33z16_f33e12 f33z4_f33e2 f33n14 f33r23_f33e2 f33z14_f33e15 f33n24 f33r25_f33e2 f33z24_f33e16 f33n26 f33r27_f33e17 f33z26_f33e8 f33y28_f33e8 f33b_f33e8_r

noncomputable def f34rs : List ResultVar := [ResultVar.tmp (4 : Nat), ResultVar.cell (5 : Nat) (43 : Nat), ResultVar.tmp (6 : Nat)]
noncomputable def f34c0 : Code := subCode [] (bodyOf Try.prog 34)
def f34a0 : Ann := subAnn [] ann34
noncomputable def f34c1 : Code := subCode [0] (bodyOf Try.prog 34)
def f34a1 : Ann := subAnn [0] ann34
noncomputable def f34c2 : Code := subCode [1] (bodyOf Try.prog 34)
def f34a2 : Ann := subAnn [1] ann34
noncomputable def f34c3 : Code := subCode [1, 0] (bodyOf Try.prog 34)
def f34a3 : Ann := subAnn [1, 0] ann34
noncomputable def f34c4 : Code := subCode [1, 1] (bodyOf Try.prog 34)
def f34a4 : Ann := subAnn [1, 1] ann34
noncomputable def f34c5 : Code := subCode [1, 0, 0] (bodyOf Try.prog 34)
def f34a5 : Ann := subAnn [1, 0, 0] ann34
noncomputable def f34c6 : Code := subCode [1, 0, 1] (bodyOf Try.prog 34)
def f34a6 : Ann := subAnn [1, 0, 1] ann34
noncomputable def f34c7 : Code := subCode [1, 0, 1, 0] (bodyOf Try.prog 34)
def f34a7 : Ann := subAnn [1, 0, 1, 0] ann34
noncomputable def f34c8 : Code := subCode [1, 0, 1, 1] (bodyOf Try.prog 34)
def f34a8 : Ann := subAnn [1, 0, 1, 1] ann34
noncomputable def f34c9 : Code := subCode [1, 0, 1, 0, 0] (bodyOf Try.prog 34)
def f34a9 : Ann := subAnn [1, 0, 1, 0, 0] ann34
noncomputable def f34c10 : Code := subCode [1, 0, 1, 0, 1] (bodyOf Try.prog 34)
def f34a10 : Ann := subAnn [1, 0, 1, 0, 1] ann34
noncomputable def f34c11 : Code := subCode [1, 1, 0] (bodyOf Try.prog 34)
def f34a11 : Ann := subAnn [1, 1, 0] ann34
noncomputable def f34c12 : Code := subCode [1, 1, 1] (bodyOf Try.prog 34)
def f34a12 : Ann := subAnn [1, 1, 1] ann34
noncomputable def f34c13 : Code := subCode [1, 1, 1, 0] (bodyOf Try.prog 34)
def f34a13 : Ann := subAnn [1, 1, 1, 0] ann34
noncomputable def f34c14 : Code := subCode [1, 1, 1, 1] (bodyOf Try.prog 34)
def f34a14 : Ann := subAnn [1, 1, 1, 1] ann34
noncomputable def f34c15 : Code := subCode [1, 1, 1, 1, 0] (bodyOf Try.prog 34)
def f34a15 : Ann := subAnn [1, 1, 1, 1, 0] ann34
noncomputable def f34c16 : Code := subCode [1, 1, 1, 1, 1] (bodyOf Try.prog 34)
def f34a16 : Ann := subAnn [1, 1, 1, 1, 1] ann34
def f34e0 (y0 : Option (Nat × Nat)) (y1 : Int) : Env := AV.ptr y0 :: AV.int IntKind.i64 y1 :: Env.sp 30 []
def f34e1 (y0 : Option (Nat × Nat)) (y1 : Int) (y2 : Int) (y3 : Nat) (y4 : Bool) : Env := AV.ptr y0 :: AV.int IntKind.i64 y1 :: Env.sp 2 (AV.int IntKind.i64 y2 :: AV.ptr (some (y3, (0 : Nat))) :: AV.bool y4 :: Env.sp 25 [])
def f34e2 (y0 : Option (Nat × Nat)) (y1 : Int) (y2 : Nat) : Env := AV.ptr y0 :: AV.int IntKind.i64 y1 :: Env.sp 3 (AV.ptr (some (y2, (0 : Nat))) :: Env.sp 26 [])
def f34e3 (y0 : Option (Nat × Nat)) (y1 : Int) (y2 : Nat) (y3 : Option (Nat × Nat)) (y4 : Bool) : Env := AV.ptr y0 :: AV.int IntKind.i64 y1 :: Env.sp 3 (AV.ptr (some (y2, (0 : Nat))) :: Env.sp 3 (AV.ptr y3 :: AV.bool y4 :: Env.sp 21 []))
def f34e4 (y0 : Option (Nat × Nat)) (y1 : Int) (y2 : Nat) (y3 : Bool) : Env := AV.ptr y0 :: AV.int IntKind.i64 y1 :: Env.sp 3 (AV.ptr (some (y2, (0 : Nat))) :: Env.sp 4 (AV.bool y3 :: Env.sp 21 []))
def f34e5 (y0 : Option (Nat × Nat)) (y1 : Int) (y2 : Int) (y3 : Nat) (y4 : Bool) (y5 : Bool) (y6 : ByteArray) (y7 : Int) (y8 : Option (Nat × Nat)) (y9 : Nat) (y10 : Option Nat) : Env := AV.ptr y0 :: AV.int IntKind.i64 y1 :: Env.sp 2 (AV.int IntKind.i64 y2 :: AV.ptr (some (y3, (0 : Nat))) :: AV.bool y4 :: Env.sp 3 (AV.bool y5 :: AV.agg [AV.str y6, AV.int IntKind.i64 y7, AV.slice y8 y9 y10 (2 : Nat)] :: Env.sp 20 []))
def f34e6 (y0 : Int) (y1 : Nat) (y2 : Bool) : Env := Env.sp 4 (AV.int IntKind.i64 y0 :: AV.ptr (some (y1, (0 : Nat))) :: AV.bool y2 :: Env.sp 25 [])
def f34e7 (y0 : Option (Nat × Nat)) (y1 : Int) (y2 : Nat) (y3 : Nat) (y4 : Bool) (y5 : Int) (y6 : ByteArray) (y7 : Int) (y8 : Option (Nat × Nat)) (y9 : Nat) (y10 : Option Nat) (y11 : Bool) (y12 : Option (Nat × Nat)) (y13 : Option (Nat × Nat)) (y14 : Option (Nat × Nat)) (y15 : Option Nat) (y16 : Int) (y17 : Int) (y18 : ByteArray) (y19 : Int) (y20 : Option (Nat × Nat)) (y21 : Nat) (y22 : Option Nat) (y23 : Bool) (y24 : Int) (y25 : ByteArray) (y26 : Int) (y27 : Option (Nat × Nat)) (y28 : Nat) (y29 : Option Nat) (y30 : Bool) : Env := AV.ptr y0 :: AV.int IntKind.i64 y1 :: Env.sp 3 (AV.ptr (some (y2, (0 : Nat))) :: Env.sp 1 (AV.ptr (some (y3, (0 : Nat))) :: AV.bool y4 :: Env.sp 3 (AV.tuple [AV.agg [AV.int IntKind.i64 y5, AV.str y6, AV.int IntKind.i64 y7, AV.slice y8 y9 y10 (2 : Nat)], AV.bool y11] :: AV.ptr y12 :: AV.ptr y13 :: AV.ptr y14 :: AV.map y15 :: AV.int IntKind.i64 y16 :: AV.tuple [AV.agg [AV.int IntKind.i64 y17, AV.str y18, AV.int IntKind.i64 y19, AV.slice y20 y21 y22 (2 : Nat)], AV.bool y23] :: AV.agg [AV.int IntKind.i64 y24, AV.str y25, AV.int IntKind.i64 y26, AV.slice y27 y28 y29 (2 : Nat)] :: AV.bool y30 :: Env.sp 11 [])))
def f34e8 (y0 : Nat) (y1 : Nat) (y2 : Bool) : Env := Env.sp 5 (AV.ptr (some (y0, (0 : Nat))) :: Env.sp 1 (AV.ptr (some (y1, (0 : Nat))) :: AV.bool y2 :: Env.sp 23 []))
def f34e9 (y0 : Nat) (y1 : Nat) (y2 : Bool) (y3 : Nat) (y4 : Nat) (y5 : Option (Nat × Nat)) (y6 : Nat) (y7 : Option Nat) (y8 : Option (Nat × Nat)) (y9 : Nat) (y10 : Option Nat) (y11 : Nat) (y12 : Nat) : Env := Env.sp 5 (AV.ptr (some (y0, (0 : Nat))) :: Env.sp 1 (AV.ptr (some (y1, (0 : Nat))) :: AV.bool y2 :: Env.sp 12 (AV.ptr (some (y3, (1 : Nat))) :: AV.ptr (some (y4, (3 : Nat))) :: AV.slice y5 y6 y7 (2 : Nat) :: AV.slice y8 y9 y10 (2 : Nat) :: AV.ptr (some (y11, (1 : Nat))) :: AV.ptr (some (y12, (3 : Nat))) :: Env.sp 5 [])))
def f34e10 (y0 : Int) (y1 : Nat) (y2 : Bool) (y3 : Nat) (y4 : Bool) (y5 : Nat) (y6 : Int) (y7 : Nat) (y8 : ByteArray) (y9 : Int) (y10 : Option (Nat × Nat)) (y11 : Nat) (y12 : Option Nat) (y13 : Bool) : Env := Env.sp 4 (AV.int IntKind.i64 y0 :: AV.ptr (some (y1, (0 : Nat))) :: AV.bool y2 :: AV.ptr (some (y3, (0 : Nat))) :: AV.bool y4 :: Env.sp 18 (AV.ptr (some (y5, (0 : Nat))) :: AV.int IntKind.i64 y6 :: AV.ptr (some (y7, (1 : Nat))) :: AV.agg [AV.str y8, AV.int IntKind.i64 y9, AV.slice y10 y11 y12 (2 : Nat)] :: AV.bool y13 :: []))

/- function 34 -/
theorem f34_eq {R : Type} (call : Bool → CallF R) (dem : Bool) (N : Nat) (y0 : Option (Nat × Nat)) (y1 : Int) (σ : St) (K : AV → St → Option R) :
    bodyK Try.prog call dem N ann 34 [AV.ptr y0, AV.int IntKind.i64 y1] σ K = runK Try.prog call dem N f34c0 f34a0 (bodyC Try.prog f34rs K) (f34e0 y0 y1) σ := bodyK_of (fn := ((Try.prog.funcs[34]?).get rfl)) (by kernel_rfl) (by kernel_rfl) (by kernel_rfl) (by kernel_rfl) (by kernel_rfl) (by kernel_rfl)
theorem f34n0 {R : Type} (call : Bool → CallF R) (dem : Bool) (N : Nat) (J : KF R) (e : Env) (σ : St) : runK Try.prog call dem N f34c0 f34a0 J e σ = runK Try.prog call dem N f34c1 f34a1 (seqC (fun K e σ => runK Try.prog call dem N f34c2 f34a2 K e σ) f34a0 J) e σ := runK_seq' (by kernel_rfl) (by kernel_rfl) (by kernel_rfl)
theorem f34r1_f34e0 {R : Type} (call : Bool → CallF R) (dem : Bool) (N : Nat) (y0 : Option (Nat × Nat)) (y1 : Int) (J : KF R) (σ : St) :
    runK Try.prog call dem N f34c1 f34a1 J (f34e0 y0 y1) σ =
J Ex.normal (f34e1 y0 y1 (0 : Int) (St.next σ) false)
  (St.new σ (Blk.cells [AV.str (ByteArray.mk #[]), AV.int IntKind.i64 (0 : Int), AV.slice none (0 : Nat) (some (0 : Nat)) (2 : Nat)] true)) := hide (by kernel_rfl)
theorem f34z0_f34e1 (y0 : Option (Nat × Nat)) (y1 : Int) (y2 : Int) (y3 : Nat) (y4 : Bool) : Ann.clr f34a0 (f34e1 y0 y1 y2 y3 y4) = f34e2 y0 y1 y3 := hide (by kernel_rfl)
theorem f34n2 {R : Type} (call : Bool → CallF R) (dem : Bool) (N : Nat) (J : KF R) (e : Env) (σ : St) : runK Try.prog call dem N f34c2 f34a2 J e σ = runK Try.prog call dem N f34c3 f34a3 (seqC (fun K e σ => runK Try.prog call dem N f34c4 f34a4 K e σ) f34a2 J) e σ := runK_seq' (by kernel_rfl) (by kernel_rfl) (by kernel_rfl)
theorem f34n3 {R : Type} (call : Bool → CallF R) (dem : Bool) (N : Nat) (J : KF R) (e : Env) (σ : St) : runK Try.prog call dem N f34c3 f34a3 J e σ = runK Try.prog call dem N f34c5 f34a5 (seqC (fun K e σ => runK Try.prog call dem N f34c6 f34a6 K e σ) f34a3 J) e σ := runK_seq' (by kernel_rfl) (by kernel_rfl) (by kernel_rfl)
theorem f34r5_f34e2 {R : Type} (call : Bool → CallF R) (dem : Bool) (N : Nat) (y0 : Option (Nat × Nat)) (y1 : Int) (y2 : Nat) (J : KF R) (σ : St) :
    runK Try.prog call dem N f34c5 f34a5 J (f34e2 y0 y1 y2) σ =
J Ex.normal (f34e3 y0 y1 y2 y0 (Option.isNone y0)) σ := hide (by kernel_rfl)
theorem f34z3_f34e3 (y0 : Option (Nat × Nat)) (y1 : Int) (y2 : Nat) (y3 : Option (Nat × Nat)) (y4 : Bool) : Ann.clr f34a3 (f34e3 y0 y1 y2 y3 y4) = f34e4 y0 y1 y2 y4 := hide (by kernel_rfl)
theorem f34x6_f34e4 {R : Type} (call : Bool → CallF R) (dem : Bool) (N : Nat) (y0 : Option (Nat × Nat)) (y1 : Int) (y2 : Nat) (y3 : Bool) (J : KF R) (σ : St) : runK Try.prog call dem N f34c6 f34a6 J (f34e4 y0 y1 y2 y3) σ = if y3 = true then runK Try.prog call dem N f34c7 f34a7 (condC f34a6 J) (f34e4 y0 y1 y2 y3) σ else runK Try.prog call dem N f34c8 f34a8 (condC f34a6 J) (f34e4 y0 y1 y2 y3) σ := runK_cond' (o := Operand.tmp (10 : Nat)) (by kernel_rfl) (by kernel_rfl) (by kernel_rfl) (by kernel_rfl)
theorem f34n7 {R : Type} (call : Bool → CallF R) (dem : Bool) (N : Nat) (J : KF R) (e : Env) (σ : St) : runK Try.prog call dem N f34c7 f34a7 J e σ = runK Try.prog call dem N f34c9 f34a9 (seqC (fun K e σ => runK Try.prog call dem N f34c10 f34a10 K e σ) f34a7 J) e σ := runK_seq' (by kernel_rfl) (by kernel_rfl) (by kernel_rfl)
theorem f34r9_f34e4 {R : Type} (call : Bool → CallF R) (dem : Bool) (N : Nat) (y0 : Option (Nat × Nat)) (y1 : Int) (y2 : Nat) (y3 : Bool) (J : KF R) (σ : St) :
    runK Try.prog call dem N f34c9 f34a9 J (f34e4 y0 y1 y2 y3) σ =
Option.bind (St.st σ y2 (0 : Nat) [AV.str (ByteArray.mk #[]), AV.int IntKind.i64 (0 : Int), AV.slice none (0 : Nat) (some (0 : Nat)) (2 : Nat)])
  fun v0 => J Ex.normal (f34e5 y0 y1 (0 : Int) y2 false y3 (ByteArray.mk #[]) (0 : Int) none (0 : Nat) (some (0 : Nat))) v0 := hide (by kernel_rfl)
theorem f34z7_f34e5 (y0 : Option (Nat × Nat)) (y1 : Int) (y2 : Int) (y3 : Nat) (y4 : Bool) (y5 : Bool) (y6 : ByteArray) (y7 : Int) (y8 : Option (Nat × Nat)) (y9 : Nat) (y10 : Option Nat) : Ann.clr f34a7 (f34e5 y0 y1 y2 y3 y4 y5 y6 y7 y8 y9 y10) = f34e6 y2 y3 y4 := hide (by kernel_rfl)
theorem f34y10_f34e6 {R : Type} (call : Bool → CallF R) (dem : Bool) (N : Nat) (y0 : Int) (y1 : Nat) (y2 : Bool) (J : KF R) (σ : St) : runK Try.prog call dem N f34c10 f34a10 J (f34e6 y0 y1 y2) σ = J .ret (f34e6 y0 y1 y2) σ := runK_ret' (by kernel_rfl) (by kernel_rfl)
theorem f34n8 {R : Type} (call : Bool → CallF R) (dem : Bool) (N : Nat) (J : KF R) (e : Env) (σ : St) : runK Try.prog call dem N f34c8 f34a8 J e σ = J .normal e σ := runK_skip' (by kernel_rfl)
theorem f34z6_f34e4 (y0 : Option (Nat × Nat)) (y1 : Int) (y2 : Nat) (y3 : Bool) : Ann.clr f34a6 (f34e4 y0 y1 y2 y3) = f34e2 y0 y1 y2 := hide (by kernel_rfl)
theorem f34z2_f34e2 (y0 : Option (Nat × Nat)) (y1 : Int) (y2 : Nat) : Ann.clr f34a2 (f34e2 y0 y1 y2) = f34e2 y0 y1 y2 := hide (by kernel_rfl)
theorem f34n4 {R : Type} (call : Bool → CallF R) (dem : Bool) (N : Nat) (J : KF R) (e : Env) (σ : St) : runK Try.prog call dem N f34c4 f34a4 J e σ = runK Try.prog call dem N f34c11 f34a11 (seqC (fun K e σ => runK Try.prog call dem N f34c12 f34a12 K e σ) f34a4 J) e σ := runK_seq' (by kernel_rfl) (by kernel_rfl) (by kernel_rfl)
theorem f34r11_f34e2 {R : Type} (call : Bool → CallF R) (dem : Bool) (N : Nat) (y0 : Option (Nat × Nat)) (y1 : Int) (y2 : Nat) (J : KF R) (σ : St) :
    runK Try.prog call dem N f34c11 f34a11 J (f34e2 y0 y1 y2) σ =
Option.bind y0 fun v0 =>
  Option.bind (St.ld σ (Prod.fst v0) (Prod.snd v0 + (4 : Nat))) fun v1 =>
    Option.bind (AV.toMap v1) fun v2 =>
      Option.bind (St.entries σ v2) fun v3 =>
        Option.bind (findKey false [Sh.int IntKind.i64] [AV.int IntKind.i64 y1] v3 (0 : Nat)) fun v4 =>
          match v4 with
          | some v5 =>
            Option.bind (AV.toAgg (Prod.snd v5)) fun v6 =>
              if List.length v6 = (4 : Nat) then
                Option.bind (List.head? v6) fun v7 =>
                  Option.bind (AV.toInt IntKind.i64 v7) fun v8 =>
                    Option.bind (List.head? (List.tail v6)) fun v9 =>
                      Option.bind (AV.toStr v9) fun v10 =>
                        Option.bind (List.head? (List.tail (List.tail v6))) fun v11 =>
                          Option.bind (AV.toInt IntKind.i64 v11) fun v12 =>
                            Option.bind (List.head? (List.tail (List.tail (List.tail v6)))) fun v13 =>
                              Option.bind (AV.toSl (2 : Nat) v13) fun v14 =>
                                Option.bind
                                  (St.st
                                    (St.new σ
                                      (Blk.cells
                                        [AV.int IntKind.i64 (0 : Int), AV.str (ByteArray.mk #[]), AV.int IntKind.i64 (0 : Int),
                                          AV.slice none (0 : Nat) (some (0 : Nat)) (2 : Nat)]
                                        true))
                                    (St.next σ) (0 : Nat)
                                    [AV.int IntKind.i64 v8, AV.str v10, AV.int IntKind.i64 v12,
                                      AV.slice (Sl.o v14) (Sl.len v14) (Sl.cap v14) (2 : Nat)])
                                  fun v15 =>
                                  J Ex.normal
                                    (f34e7 y0 y1 y2 (St.next σ) true v8 v10 v12 (Sl.o v14) (Sl.len v14) (Sl.cap v14) true y0 (some v0)
                                      (some (Prod.fst v0, Prod.snd v0 + (4 : Nat))) v2 y1 v8 v10 v12 (Sl.o v14) (Sl.len v14) (Sl.cap v14) true v8 v10
                                      v12 (Sl.o v14) (Sl.len v14) (Sl.cap v14) true)
                                    v15
              else none
          | none =>
            Option.bind
              (St.st
                (St.new σ
                  (Blk.cells
                    [AV.int IntKind.i64 (0 : Int), AV.str (ByteArray.mk #[]), AV.int IntKind.i64 (0 : Int),
                      AV.slice none (0 : Nat) (some (0 : Nat)) (2 : Nat)]
                    true))
                (St.next σ) (0 : Nat)
                [AV.int IntKind.i64 (0 : Int), AV.str (ByteArray.mk #[]), AV.int IntKind.i64 (0 : Int),
                  AV.slice none (0 : Nat) (some (0 : Nat)) (2 : Nat)])
              fun v6 =>
              J Ex.normal
                (f34e7 y0 y1 y2 (St.next σ) false (0 : Int) (ByteArray.mk #[]) (0 : Int) none (0 : Nat) (some (0 : Nat)) false y0 (some v0)
                  (some (Prod.fst v0, Prod.snd v0 + (4 : Nat))) v2 y1 (0 : Int) (ByteArray.mk #[]) (0 : Int) none (0 : Nat) (some (0 : Nat)) false
                  (0 : Int) (ByteArray.mk #[]) (0 : Int) none (0 : Nat) (some (0 : Nat)) false)
                v6 := hide (by kernel_rfl)
theorem f34z4_f34e7 (y0 : Option (Nat × Nat)) (y1 : Int) (y2 : Nat) (y3 : Nat) (y4 : Bool) (y5 : Int) (y6 : ByteArray) (y7 : Int) (y8 : Option (Nat × Nat)) (y9 : Nat) (y10 : Option Nat) (y11 : Bool) (y12 : Option (Nat × Nat)) (y13 : Option (Nat × Nat)) (y14 : Option (Nat × Nat)) (y15 : Option Nat) (y16 : Int) (y17 : Int) (y18 : ByteArray) (y19 : Int) (y20 : Option (Nat × Nat)) (y21 : Nat) (y22 : Option Nat) (y23 : Bool) (y24 : Int) (y25 : ByteArray) (y26 : Int) (y27 : Option (Nat × Nat)) (y28 : Nat) (y29 : Option Nat) (y30 : Bool) : Ann.clr f34a4 (f34e7 y0 y1 y2 y3 y4 y5 y6 y7 y8 y9 y10 y11 y12 y13 y14 y15 y16 y17 y18 y19 y20 y21 y22 y23 y24 y25 y26 y27 y28 y29 y30) = f34e8 y2 y3 y4 := hide (by kernel_rfl)
theorem f34n12 {R : Type} (call : Bool → CallF R) (dem : Bool) (N : Nat) (J : KF R) (e : Env) (σ : St) : runK Try.prog call dem N f34c12 f34a12 J e σ = runK Try.prog call dem N f34c13 f34a13 (seqC (fun K e σ => runK Try.prog call dem N f34c14 f34a14 K e σ) f34a12 J) e σ := runK_seq' (by kernel_rfl) (by kernel_rfl) (by kernel_rfl)
theorem f34r13_f34e8 {R : Type} (call : Bool → CallF R) (dem : Bool) (N : Nat) (y0 : Nat) (y1 : Nat) (y2 : Bool) (J : KF R) (σ : St) :
    runK Try.prog call dem N f34c13 f34a13 J (f34e8 y0 y1 y2) σ =
Option.bind (St.ld σ y1 (3 : Nat)) fun v0 =>
  Option.bind (AV.toSl (2 : Nat) v0) fun v1 =>
    call dem (50 : Nat) [AV.slice (Sl.o v1) (Sl.len v1) (Sl.cap v1) (2 : Nat)] σ fun v2 v3 =>
      Option.bind (AV.toSl (2 : Nat) v2) fun v4 =>
        Option.bind (St.st v3 y1 (3 : Nat) [AV.slice (Sl.o v4) (Sl.len v4) (Sl.cap v4) (2 : Nat)]) fun v5 =>
          J Ex.normal (f34e9 y0 y1 y2 y1 y1 (Sl.o v1) (Sl.len v1) (Sl.cap v1) (Sl.o v4) (Sl.len v4) (Sl.cap v4) y1 y1) v5 := hide (by kernel_rfl)
theorem f34z12_f34e9 (y0 : Nat) (y1 : Nat) (y2 : Bool) (y3 : Nat) (y4 : Nat) (y5 : Option (Nat × Nat)) (y6 : Nat) (y7 : Option Nat) (y8 : Option (Nat × Nat)) (y9 : Nat) (y10 : Option Nat) (y11 : Nat) (y12 : Nat) : Ann.clr f34a12 (f34e9 y0 y1 y2 y3 y4 y5 y6 y7 y8 y9 y10 y11 y12) = f34e8 y0 y1 y2 := hide (by kernel_rfl)
theorem f34n14 {R : Type} (call : Bool → CallF R) (dem : Bool) (N : Nat) (J : KF R) (e : Env) (σ : St) : runK Try.prog call dem N f34c14 f34a14 J e σ = runK Try.prog call dem N f34c15 f34a15 (seqC (fun K e σ => runK Try.prog call dem N f34c16 f34a16 K e σ) f34a14 J) e σ := runK_seq' (by kernel_rfl) (by kernel_rfl) (by kernel_rfl)
theorem f34r15_f34e8 {R : Type} (call : Bool → CallF R) (dem : Bool) (N : Nat) (y0 : Nat) (y1 : Nat) (y2 : Bool) (J : KF R) (σ : St) :
    runK Try.prog call dem N f34c15 f34a15 J (f34e8 y0 y1 y2) σ =
Option.bind (St.ld σ y1 (0 : Nat)) fun v0 =>
  Option.bind (AV.toInt IntKind.i64 v0) fun v1 =>
    Option.bind (St.ld σ y1 (1 : Nat)) fun v2 =>
      Option.bind (AV.toStr v2) fun v3 =>
        Option.bind (St.ld σ y1 (2 : Nat)) fun v4 =>
          Option.bind (AV.toInt IntKind.i64 v4) fun v5 =>
            Option.bind (St.ld σ y1 (3 : Nat)) fun v6 =>
              Option.bind (AV.toSl (2 : Nat) v6) fun v7 =>
                Option.bind (St.st σ y0 (0 : Nat) [AV.str v3, AV.int IntKind.i64 v5, AV.slice (Sl.o v7) (Sl.len v7) (Sl.cap v7) (2 : Nat)]) fun v8 =>
                  J Ex.normal (f34e10 v1 y0 y2 y1 y2 y1 v1 y1 v3 v5 (Sl.o v7) (Sl.len v7) (Sl.cap v7) y2) v8 := hide (by kernel_rfl)
theorem f34z14_f34e10 (y0 : Int) (y1 : Nat) (y2 : Bool) (y3 : Nat) (y4 : Bool) (y5 : Nat) (y6 : Int) (y7 : Nat) (y8 : ByteArray) (y9 : Int) (y10 : Option (Nat × Nat)) (y11 : Nat) (y12 : Option Nat) (y13 : Bool) : Ann.clr f34a14 (f34e10 y0 y1 y2 y3 y4 y5 y6 y7 y8 y9 y10 y11 y12 y13) = f34e6 y0 y1 y2 := hide (by kernel_rfl)
theorem f34y16_f34e6 {R : Type} (call : Bool → CallF R) (dem : Bool) (N : Nat) (y0 : Int) (y1 : Nat) (y2 : Bool) (J : KF R) (σ : St) : runK Try.prog call dem N f34c16 f34a16 J (f34e6 y0 y1 y2) σ = J .ret (f34e6 y0 y1 y2) σ := runK_ret' (by kernel_rfl) (by kernel_rfl)
theorem f34b_f34e6_r {R : Type} (y0 : Int) (y1 : Nat) (y2 : Bool) (σ : St) (K : AV → St → Option R) : bodyC Try.prog f34rs K (Ex.ret) (f34e6 y0 y1 y2) σ =
Option.bind (St.ld σ y1 (0 : Nat)) fun v0 =>
  Option.bind (AV.toStr v0) fun v1 =>
    Option.bind (St.ld σ y1 (1 : Nat)) fun v2 =>
      Option.bind (AV.toInt IntKind.i64 v2) fun v3 =>
        Option.bind (St.ld σ y1 (2 : Nat)) fun v4 =>
          Option.bind (AV.toSl (2 : Nat) v4) fun v5 =>
            K
              (AV.tuple
                [AV.int IntKind.i64 y0, AV.agg [AV.str v1, AV.int IntKind.i64 v3, AV.slice (Sl.o v5) (Sl.len v5) (Sl.cap v5) (2 : Nat)], AV.bool y2])
              σ := hide (by kernel_rfl)
attribute [go_sem] f34_eq f34n0 f34r1_f34e0 f34z0_f34e1 f34n2 f34n3 f34r5_f34e2 f34z3_f34e3 f34x6_f34e4 f34n7 f34r9_f34e4 f34z7_f34e5 f34y10_f34e6 f34n8 f34z6_f34e4 f34z2_f34e2 f34n4 f34r11_f34e2 f34z4_f34e7 f34n12 f34r13_f34e8 f34z12_f34e9 f34n14 f34r15_f34e8 f34z14_f34e10 f34y16_f34e6 f34b_f34e6_r

noncomputable def f50rs : List ResultVar := [ResultVar.tmp (2 : Nat)]
noncomputable def f50c0 : Code := subCode [] (bodyOf Try.prog 50)
def f50a0 : Ann := subAnn [] ann50
noncomputable def f50c1 : Code := subCode [0] (bodyOf Try.prog 50)
def f50a1 : Ann := subAnn [0] ann50
noncomputable def f50c2 : Code := subCode [1] (bodyOf Try.prog 50)
def f50a2 : Ann := subAnn [1] ann50
noncomputable def f50c3 : Code := subCode [1, 0] (bodyOf Try.prog 50)
def f50a3 : Ann := subAnn [1, 0] ann50
noncomputable def f50c4 : Code := subCode [1, 1] (bodyOf Try.prog 50)
def f50a4 : Ann := subAnn [1, 1] ann50
noncomputable def f50c5 : Code := subCode [1, 0, 0] (bodyOf Try.prog 50)
def f50a5 : Ann := subAnn [1, 0, 0] ann50
noncomputable def f50c6 : Code := subCode [1, 0, 1] (bodyOf Try.prog 50)
def f50a6 : Ann := subAnn [1, 0, 1] ann50
noncomputable def f50c7 : Code := subCode [1, 0, 1, 0] (bodyOf Try.prog 50)
def f50a7 : Ann := subAnn [1, 0, 1, 0] ann50
noncomputable def f50c8 : Code := subCode [1, 0, 1, 1] (bodyOf Try.prog 50)
def f50a8 : Ann := subAnn [1, 0, 1, 1] ann50
noncomputable def f50c9 : Code := subCode [1, 0, 1, 0, 0] (bodyOf Try.prog 50)
def f50a9 : Ann := subAnn [1, 0, 1, 0, 0] ann50
noncomputable def f50c10 : Code := subCode [1, 0, 1, 0, 1] (bodyOf Try.prog 50)
def f50a10 : Ann := subAnn [1, 0, 1, 0, 1] ann50
noncomputable def f50c11 : Code := subCode [1, 1, 0] (bodyOf Try.prog 50)
def f50a11 : Ann := subAnn [1, 1, 0] ann50
noncomputable def f50c12 : Code := subCode [1, 1, 1] (bodyOf Try.prog 50)
def f50a12 : Ann := subAnn [1, 1, 1] ann50
def f50e0 (y0 : Option (Nat × Nat)) (y1 : Nat) (y2 : Option Nat) : Env := AV.slice y0 y1 y2 (2 : Nat) :: Env.sp 7 []
def f50e1 (y0 : Option (Nat × Nat)) (y1 : Nat) (y2 : Option Nat) (y3 : Option (Nat × Nat)) (y4 : Nat) (y5 : Option Nat) : Env := AV.slice y0 y1 y2 (2 : Nat) :: Env.sp 1 (AV.slice y3 y4 y5 (2 : Nat) :: Env.sp 5 [])
def f50e2 (y0 : Option (Nat × Nat)) (y1 : Nat) (y2 : Option Nat) (y3 : Option (Nat × Nat)) (y4 : Nat) (y5 : Option Nat) (y6 : Bool) : Env := AV.slice y0 y1 y2 (2 : Nat) :: Env.sp 2 (AV.slice y3 y4 y5 (2 : Nat) :: AV.bool y6 :: Env.sp 3 [])
def f50e3 (y0 : Option (Nat × Nat)) (y1 : Nat) (y2 : Option Nat) (y3 : Bool) : Env := AV.slice y0 y1 y2 (2 : Nat) :: Env.sp 3 (AV.bool y3 :: Env.sp 3 [])
def f50e4 (y0 : Option (Nat × Nat)) (y1 : Nat) (y2 : Option Nat) (y3 : Option (Nat × Nat)) (y4 : Nat) (y5 : Option Nat) (y6 : Bool) : Env := AV.slice y0 y1 y2 (2 : Nat) :: Env.sp 1 (AV.slice y3 y4 y5 (2 : Nat) :: Env.sp 1 (AV.bool y6 :: Env.sp 3 []))
def f50e5 (y0 : Option (Nat × Nat)) (y1 : Nat) (y2 : Option Nat) : Env := Env.sp 2 (AV.slice y0 y1 y2 (2 : Nat) :: Env.sp 5 [])

/- function 50 -/
theorem f50_eq {R : Type} (call : Bool → CallF R) (dem : Bool) (N : Nat) (y0 : Option (Nat × Nat)) (y1 : Nat) (y2 : Option Nat) (σ : St) (K : AV → St → Option R) :
    bodyK Try.prog call dem N ann 50 [AV.slice y0 y1 y2 (2 : Nat)] σ K = runK Try.prog call dem N f50c0 f50a0 (bodyC Try.prog f50rs K) (f50e0 y0 y1 y2) σ := bodyK_of (fn := ((Try.prog.funcs[50]?).get rfl)) (by kernel_rfl) (by kernel_rfl) (by kernel_rfl) (by kernel_rfl) (by kernel_rfl) (by kernel_rfl)
theorem f50n0 {R : Type} (call : Bool → CallF R) (dem : Bool) (N : Nat) (J : KF R) (e : Env) (σ : St) : runK Try.prog call dem N f50c0 f50a0 J e σ = runK Try.prog call dem N f50c1 f50a1 (seqC (fun K e σ => runK Try.prog call dem N f50c2 f50a2 K e σ) f50a0 J) e σ := runK_seq' (by kernel_rfl) (by kernel_rfl) (by kernel_rfl)
theorem f50r1_f50e0 {R : Type} (call : Bool → CallF R) (dem : Bool) (N : Nat) (y0 : Option (Nat × Nat)) (y1 : Nat) (y2 : Option Nat) (J : KF R) (σ : St) :
    runK Try.prog call dem N f50c1 f50a1 J (f50e0 y0 y1 y2) σ =
J Ex.normal (f50e1 y0 y1 y2 none (0 : Nat) (some (0 : Nat))) σ := hide (by kernel_rfl)
theorem f50z0_f50e1 (y0 : Option (Nat × Nat)) (y1 : Nat) (y2 : Option Nat) (y3 : Option (Nat × Nat)) (y4 : Nat) (y5 : Option Nat) : Ann.clr f50a0 (f50e1 y0 y1 y2 y3 y4 y5) = f50e0 y0 y1 y2 := hide (by kernel_rfl)
theorem f50n2 {R : Type} (call : Bool → CallF R) (dem : Bool) (N : Nat) (J : KF R) (e : Env) (σ : St) : runK Try.prog call dem N f50c2 f50a2 J e σ = runK Try.prog call dem N f50c3 f50a3 (seqC (fun K e σ => runK Try.prog call dem N f50c4 f50a4 K e σ) f50a2 J) e σ := runK_seq' (by kernel_rfl) (by kernel_rfl) (by kernel_rfl)
theorem f50n3 {R : Type} (call : Bool → CallF R) (dem : Bool) (N : Nat) (J : KF R) (e : Env) (σ : St) : runK Try.prog call dem N f50c3 f50a3 J e σ = runK Try.prog call dem N f50c5 f50a5 (seqC (fun K e σ => runK Try.prog call dem N f50c6 f50a6 K e σ) f50a3 J) e σ := runK_seq' (by kernel_rfl) (by kernel_rfl) (by kernel_rfl)
theorem f50r5_f50e0 {R : Type} (call : Bool → CallF R) (dem : Bool) (N : Nat) (y0 : Option (Nat × Nat)) (y1 : Nat) (y2 : Option Nat) (J : KF R) (σ : St) :
    runK Try.prog call dem N f50c5 f50a5 J (f50e0 y0 y1 y2) σ =
J Ex.normal (f50e2 y0 y1 y2 y0 y1 y2 (Option.isNone y0)) σ := hide (by kernel_rfl)
theorem f50z3_f50e2 (y0 : Option (Nat × Nat)) (y1 : Nat) (y2 : Option Nat) (y3 : Option (Nat × Nat)) (y4 : Nat) (y5 : Option Nat) (y6 : Bool) : Ann.clr f50a3 (f50e2 y0 y1 y2 y3 y4 y5 y6) = f50e3 y0 y1 y2 y6 := hide (by kernel_rfl)
theorem f50x6_f50e3 {R : Type} (call : Bool → CallF R) (dem : Bool) (N : Nat) (y0 : Option (Nat × Nat)) (y1 : Nat) (y2 : Option Nat) (y3 : Bool) (J : KF R) (σ : St) : runK Try.prog call dem N f50c6 f50a6 J (f50e3 y0 y1 y2 y3) σ = if y3 = true then runK Try.prog call dem N f50c7 f50a7 (condC f50a6 J) (f50e3 y0 y1 y2 y3) σ else runK Try.prog call dem N f50c8 f50a8 (condC f50a6 J) (f50e3 y0 y1 y2 y3) σ := runK_cond' (o := Operand.tmp (4 : Nat)) (by kernel_rfl) (by kernel_rfl) (by kernel_rfl) (by kernel_rfl)
theorem f50n7 {R : Type} (call : Bool → CallF R) (dem : Bool) (N : Nat) (J : KF R) (e : Env) (σ : St) : runK Try.prog call dem N f50c7 f50a7 J e σ = runK Try.prog call dem N f50c9 f50a9 (seqC (fun K e σ => runK Try.prog call dem N f50c10 f50a10 K e σ) f50a7 J) e σ := runK_seq' (by kernel_rfl) (by kernel_rfl) (by kernel_rfl)
theorem f50r9_f50e3 {R : Type} (call : Bool → CallF R) (dem : Bool) (N : Nat) (y0 : Option (Nat × Nat)) (y1 : Nat) (y2 : Option Nat) (y3 : Bool) (J : KF R) (σ : St) :
    runK Try.prog call dem N f50c9 f50a9 J (f50e3 y0 y1 y2 y3) σ =
J Ex.normal (f50e4 y0 y1 y2 none (0 : Nat) (some (0 : Nat)) y3) σ := hide (by kernel_rfl)
theorem f50z7_f50e4 (y0 : Option (Nat × Nat)) (y1 : Nat) (y2 : Option Nat) (y3 : Option (Nat × Nat)) (y4 : Nat) (y5 : Option Nat) (y6 : Bool) : Ann.clr f50a7 (f50e4 y0 y1 y2 y3 y4 y5 y6) = f50e5 y3 y4 y5 := hide (by kernel_rfl)
theorem f50y10_f50e5 {R : Type} (call : Bool → CallF R) (dem : Bool) (N : Nat) (y0 : Option (Nat × Nat)) (y1 : Nat) (y2 : Option Nat) (J : KF R) (σ : St) : runK Try.prog call dem N f50c10 f50a10 J (f50e5 y0 y1 y2) σ = J .ret (f50e5 y0 y1 y2) σ := runK_ret' (by kernel_rfl) (by kernel_rfl)
theorem f50n8 {R : Type} (call : Bool → CallF R) (dem : Bool) (N : Nat) (J : KF R) (e : Env) (σ : St) : runK Try.prog call dem N f50c8 f50a8 J e σ = J .normal e σ := runK_skip' (by kernel_rfl)
theorem f50z6_f50e3 (y0 : Option (Nat × Nat)) (y1 : Nat) (y2 : Option Nat) (y3 : Bool) : Ann.clr f50a6 (f50e3 y0 y1 y2 y3) = f50e0 y0 y1 y2 := hide (by kernel_rfl)
theorem f50z2_f50e0 (y0 : Option (Nat × Nat)) (y1 : Nat) (y2 : Option Nat) : Ann.clr f50a2 (f50e0 y0 y1 y2) = f50e0 y0 y1 y2 := hide (by kernel_rfl)
theorem f50n4 {R : Type} (call : Bool → CallF R) (dem : Bool) (N : Nat) (J : KF R) (e : Env) (σ : St) : runK Try.prog call dem N f50c4 f50a4 J e σ = runK Try.prog call dem N f50c11 f50a11 (seqC (fun K e σ => runK Try.prog call dem N f50c12 f50a12 K e σ) f50a4 J) e σ := runK_seq' (by kernel_rfl) (by kernel_rfl) (by kernel_rfl)
theorem f50r11_f50e0 {R : Type} (call : Bool → CallF R) (dem : Bool) (N : Nat) (y0 : Option (Nat × Nat)) (y1 : Nat) (y2 : Option Nat) (J : KF R) (σ : St) :
    runK Try.prog call dem N f50c11 f50a11 J (f50e0 y0 y1 y2) σ =
none := hide (by kernel_rfl)
theorem f50b_f50e5_r {R : Type} (y0 : Option (Nat × Nat)) (y1 : Nat) (y2 : Option Nat) (σ : St) (K : AV → St → Option R) : bodyC Try.prog f50rs K (Ex.ret) (f50e5 y0 y1 y2) σ =
K (AV.slice y0 y1 y2 (2 : Nat)) σ := hide (by kernel_rfl)
attribute [go_sem] f50_eq f50n0 f50r1_f50e0 f50z0_f50e1 f50n2 f50n3 f50r5_f50e0 f50z3_f50e2 f50x6_f50e3 f50n7 f50r9_f50e3 f50z7_f50e4 f50y10_f50e5 f50n8 f50z6_f50e3 f50z2_f50e0 f50n4 f50r11_f50e0 f50b_f50e5_r

end Go.Proofs.Ytmgacgonoodkfaa
