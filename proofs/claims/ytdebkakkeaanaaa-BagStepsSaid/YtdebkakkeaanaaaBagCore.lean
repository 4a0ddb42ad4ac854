/- What the machine does with each piece of code, in plain text. PRINTED by a program of this workplace; Lean checks it. -/
import Derived.Test.YtdebkakkeaanaaaBagAnn
import Derived.Test.YtdebkakkeaanaaaProg
import Derived.KernelRfl
import Derived.Attr
namespace Go.Proofs.Ytdebkakkeaanaaa
open Go.AM
set_option maxRecDepth 100000
set_option linter.unusedVariables false
noncomputable def f8rs : List ResultVar := [ResultVar.tmp (0 : Nat)]
noncomputable def f8c0 : Code := subCode [] (bodyOf Try.prog 8)
def f8a0 : Ann := subAnn [] ann8
noncomputable def f8c1 : Code := subCode [0] (bodyOf Try.prog 8)
def f8a1 : Ann := subAnn [0] ann8
noncomputable def f8c2 : Code := subCode [1] (bodyOf Try.prog 8)
def f8a2 : Ann := subAnn [1] ann8
noncomputable def f8c3 : Code := subCode [1, 0] (bodyOf Try.prog 8)
def f8a3 : Ann := subAnn [1, 0] ann8
noncomputable def f8c4 : Code := subCode [1, 1] (bodyOf Try.prog 8)
def f8a4 : Ann := subAnn [1, 1] ann8
def f8e0 : Env := Env.sp 3 []
def f8e1 (y0 : Option (Nat × Nat)) : Env := AV.ptr y0 :: Env.sp 2 []
def f8e2 (y0 : Nat) (y1 : Option (Nat × Nat)) (y2 : Nat) (y3 : Option Nat) (y4 : Int) (y5 : Nat) : Env := AV.ptr (some (y0, (0 : Nat))) :: AV.agg [AV.slice y1 y2 y3 (4 : Nat), AV.int IntKind.i64 y4] :: AV.ptr (some (y5, (0 : Nat))) :: []
def f8e3 (y0 : Nat) : Env := AV.ptr (some (y0, (0 : Nat))) :: Env.sp 2 []

/- function 8 -/
theorem f8_eq {R : Type} (call : CallF R) (N : Nat) (σ : St) (K : AV → St → Option R) :
    bodyK Try.prog call N ann 8 [] σ K = runK Try.prog call N f8c0 f8a0 (bodyC Try.prog f8rs K) (f8e0) σ := bodyK_of (fn := ((Try.prog.funcs[8]?).get rfl)) (by kernel_rfl) (by kernel_rfl) (by kernel_rfl) (by kernel_rfl) (by kernel_rfl) (by kernel_rfl)
theorem f8n0 {R : Type} (call : CallF R) (N : Nat) (J : KF R) (e : Env) (σ : St) : runK Try.prog call N f8c0 f8a0 J e σ = runK Try.prog call N f8c1 f8a1 (seqC (fun K e σ => runK Try.prog call N f8c2 f8a2 K e σ) f8a0 J) e σ := runK_seq' (by kernel_rfl) (by kernel_rfl) (by kernel_rfl)
theorem f8r1_f8e0 {R : Type} (call : CallF R) (N : Nat) (J : KF R) (σ : St) :
    runK Try.prog call N f8c1 f8a1 J (f8e0) σ =
J Ex.normal (f8e1 none) σ := hide (by kernel_rfl)
theorem f8z0_f8e1 (y0 : Option (Nat × Nat)) : Ann.clr f8a0 (f8e1 y0) = f8e0 := hide (by kernel_rfl)
theorem f8n2 {R : Type} (call : CallF R) (N : Nat) (J : KF R) (e : Env) (σ : St) : runK Try.prog call N f8c2 f8a2 J e σ = runK Try.prog call N f8c3 f8a3 (seqC (fun K e σ => runK Try.prog call N f8c4 f8a4 K e σ) f8a2 J) e σ := runK_seq' (by kernel_rfl) (by kernel_rfl) (by kernel_rfl)
theorem f8r3_f8e0 {R : Type} (call : CallF R) (N : Nat) (J : KF R) (σ : St) :
    runK Try.prog call N f8c3 f8a3 J (f8e0) σ =
J Ex.normal (f8e2 (St.next σ) none (0 : Nat) (some (0 : Nat)) (0 : Int) (St.next σ))
  (St.new σ (Blk.cells [AV.slice none (0 : Nat) (some (0 : Nat)) (4 : Nat), AV.int IntKind.i64 (0 : Int)] true)) := hide (by kernel_rfl)
theorem f8z2_f8e2 (y0 : Nat) (y1 : Option (Nat × Nat)) (y2 : Nat) (y3 : Option Nat) (y4 : Int) (y5 : Nat) : Ann.clr f8a2 (f8e2 y0 y1 y2 y3 y4 y5) = f8e3 y0 := hide (by kernel_rfl)
theorem f8y4_f8e3 {R : Type} (call : CallF R) (N : Nat) (y0 : Nat) (J : KF R) (σ : St) : runK Try.prog call N f8c4 f8a4 J (f8e3 y0) σ = J .ret (f8e3 y0) σ := runK_ret' (by kernel_rfl) (by kernel_rfl)
theorem f8b_f8e3_r {R : Type} (y0 : Nat) (σ : St) (K : AV → St → Option R) : bodyC Try.prog f8rs K (Ex.ret) (f8e3 y0) σ =
K (AV.ptr (some (y0, (0 : Nat)))) σ := hide (by kernel_rfl)
attribute [go_sem] f8_eq f8n0 f8r1_f8e0 f8z0_f8e1 f8n2 f8r3_f8e0 f8z2_f8e2 f8y4_f8e3 f8b_f8e3_r

noncomputable def f10rs : List ResultVar := [ResultVar.tmp (4 : Nat)]
noncomputable def f10c0 : Code := subCode [] (bodyOf Try.prog 10)
def f10a0 : Ann := subAnn [] ann10
noncomputable def f10c1 : Code := subCode [0] (bodyOf Try.prog 10)
def f10a1 : Ann := subAnn [0] ann10
noncomputable def f10c2 : Code := subCode [1] (bodyOf Try.prog 10)
def f10a2 : Ann := subAnn [1] ann10
noncomputable def f10c3 : Code := subCode [1, 0] (bodyOf Try.prog 10)
def f10a3 : Ann := subAnn [1, 0] ann10
noncomputable def f10c4 : Code := subCode [1, 1] (bodyOf Try.prog 10)
def f10a4 : Ann := subAnn [1, 1] ann10
noncomputable def f10c5 : Code := subCode [1, 0, 0] (bodyOf Try.prog 10)
def f10a5 : Ann := subAnn [1, 0, 0] ann10
noncomputable def f10c6 : Code := subCode [1, 0, 0, 0] (bodyOf Try.prog 10)
def f10a6 : Ann := subAnn [1, 0, 0, 0] ann10
noncomputable def f10c7 : Code := subCode [1, 0, 0, 1] (bodyOf Try.prog 10)
def f10a7 : Ann := subAnn [1, 0, 0, 1] ann10
noncomputable def f10c8 : Code := subCode [1, 0, 0, 1, 0] (bodyOf Try.prog 10)
def f10a8 : Ann := subAnn [1, 0, 0, 1, 0] ann10
noncomputable def f10c9 : Code := subCode [1, 0, 0, 1, 1] (bodyOf Try.prog 10)
def f10a9 : Ann := subAnn [1, 0, 0, 1, 1] ann10
noncomputable def f10c10 : Code := subCode [1, 0, 0, 1, 0, 0] (bodyOf Try.prog 10)
def f10a10 : Ann := subAnn [1, 0, 0, 1, 0, 0] ann10
noncomputable def f10c11 : Code := subCode [1, 0, 0, 1, 0, 1] (bodyOf Try.prog 10)
def f10a11 : Ann := subAnn [1, 0, 0, 1, 0, 1] ann10
noncomputable def f10c12 : Code := subCode [1, 0, 0, 1, 1, 0] (bodyOf Try.prog 10)
def f10a12 : Ann := subAnn [1, 0, 0, 1, 1, 0] ann10
noncomputable def f10c13 : Code := subCode [1, 0, 0, 1, 1, 1] (bodyOf Try.prog 10)
def f10a13 : Ann := subAnn [1, 0, 0, 1, 1, 1] ann10
noncomputable def f10c14 : Code := subCode [1, 0, 0, 1, 1, 1, 0] (bodyOf Try.prog 10)
def f10a14 : Ann := subAnn [1, 0, 0, 1, 1, 1, 0] ann10
noncomputable def f10c15 : Code := subCode [1, 0, 0, 1, 1, 1, 1] (bodyOf Try.prog 10)
def f10a15 : Ann := subAnn [1, 0, 0, 1, 1, 1, 1] ann10
noncomputable def f10c16 : Code := subCode [1, 0, 0, 1, 1, 1, 0, 0] (bodyOf Try.prog 10)
def f10a16 : Ann := subAnn [1, 0, 0, 1, 1, 1, 0, 0] ann10
noncomputable def f10c17 : Code := subCode [1, 0, 0, 1, 1, 1, 0, 1] (bodyOf Try.prog 10)
def f10a17 : Ann := subAnn [1, 0, 0, 1, 1, 1, 0, 1] ann10
noncomputable def f10c18 : Code := subCode [1, 0, 0, 1, 1, 1, 1, 0] (bodyOf Try.prog 10)
def f10a18 : Ann := subAnn [1, 0, 0, 1, 1, 1, 1, 0] ann10
noncomputable def f10c19 : Code := subCode [1, 0, 0, 1, 1, 1, 1, 1] (bodyOf Try.prog 10)
def f10a19 : Ann := subAnn [1, 0, 0, 1, 1, 1, 1, 1] ann10
noncomputable def f10c20 : Code := subCode [1, 0, 0, 1, 1, 1, 1, 1, 0] (bodyOf Try.prog 10)
def f10a20 : Ann := subAnn [1, 0, 0, 1, 1, 1, 1, 1, 0] ann10
noncomputable def f10c21 : Code := subCode [1, 0, 0, 1, 1, 1, 1, 1, 1] (bodyOf Try.prog 10)
def f10a21 : Ann := subAnn [1, 0, 0, 1, 1, 1, 1, 1, 1] ann10
noncomputable def f10c22 : Code := subCode [1, 0, 0, 1, 1, 1, 1, 1, 0, 0] (bodyOf Try.prog 10)
def f10a22 : Ann := subAnn [1, 0, 0, 1, 1, 1, 1, 1, 0, 0] ann10
noncomputable def f10c23 : Code := subCode [1, 0, 0, 1, 1, 1, 1, 1, 0, 1] (bodyOf Try.prog 10)
def f10a23 : Ann := subAnn [1, 0, 0, 1, 1, 1, 1, 1, 0, 1] ann10
noncomputable def f10c24 : Code := subCode [1, 0, 0, 1, 1, 1, 1, 1, 1, 0] (bodyOf Try.prog 10)
def f10a24 : Ann := subAnn [1, 0, 0, 1, 1, 1, 1, 1, 1, 0] ann10
noncomputable def f10c25 : Code := subCode [1, 0, 0, 1, 1, 1, 1, 1, 1, 1] (bodyOf Try.prog 10)
def f10a25 : Ann := subAnn [1, 0, 0, 1, 1, 1, 1, 1, 1, 1] ann10
noncomputable def f10c26 : Code := subCode [1, 0, 0, 1, 1, 1, 1, 1, 1, 1, 0] (bodyOf Try.prog 10)
def f10a26 : Ann := subAnn [1, 0, 0, 1, 1, 1, 1, 1, 1, 1, 0] ann10
noncomputable def f10c27 : Code := subCode [1, 0, 0, 1, 1, 1, 1, 1, 1, 1, 1] (bodyOf Try.prog 10)
def f10a27 : Ann := subAnn [1, 0, 0, 1, 1, 1, 1, 1, 1, 1, 1] ann10
noncomputable def f10c28 : Code := subCode [1, 0, 0, 1, 1, 1, 1, 1, 1, 1, 0, 0] (bodyOf Try.prog 10)
def f10a28 : Ann := subAnn [1, 0, 0, 1, 1, 1, 1, 1, 1, 1, 0, 0] ann10
noncomputable def f10c29 : Code := subCode [1, 0, 0, 1, 1, 1, 1, 1, 1, 1, 0, 1] (bodyOf Try.prog 10)
def f10a29 : Ann := subAnn [1, 0, 0, 1, 1, 1, 1, 1, 1, 1, 0, 1] ann10
noncomputable def f10c30 : Code := subCode [1, 0, 0, 1, 1, 1, 1, 1, 1, 1, 0, 1, 0] (bodyOf Try.prog 10)
def f10a30 : Ann := subAnn [1, 0, 0, 1, 1, 1, 1, 1, 1, 1, 0, 1, 0] ann10
noncomputable def f10c31 : Code := subCode [1, 0, 0, 1, 1, 1, 1, 1, 1, 1, 0, 1, 1] (bodyOf Try.prog 10)
def f10a31 : Ann := subAnn [1, 0, 0, 1, 1, 1, 1, 1, 1, 1, 0, 1, 1] ann10
noncomputable def f10c32 : Code := subCode [1, 1, 0] (bodyOf Try.prog 10)
def f10a32 : Ann := subAnn [1, 1, 0] ann10
noncomputable def f10c33 : Code := subCode [1, 1, 1] (bodyOf Try.prog 10)
def f10a33 : Ann := subAnn [1, 1, 1] ann10
noncomputable def f10c34 : Code := subCode [1, 1, 1, 0] (bodyOf Try.prog 10)
def f10a34 : Ann := subAnn [1, 1, 1, 0] ann10
noncomputable def f10c35 : Code := subCode [1, 1, 1, 1] (bodyOf Try.prog 10)
def f10a35 : Ann := subAnn [1, 1, 1, 1] ann10
def f10e0 (y0 : Option (Nat × Nat)) (y1 : Int) (y2 : Int) (y3 : Int) (y4 : ByteArray) : Env := AV.ptr y0 :: AV.agg [AV.int IntKind.i64 y1, AV.int IntKind.i64 y2, AV.int IntKind.i64 y3, AV.str y4] :: Env.sp 53 []
def f10e1 (y0 : Option (Nat × Nat)) (y1 : Int) (y2 : Int) (y3 : Int) (y4 : ByteArray) (y5 : Nat) (y6 : Int) : Env := AV.ptr y0 :: AV.agg [AV.int IntKind.i64 y1, AV.int IntKind.i64 y2, AV.int IntKind.i64 y3, AV.str y4] :: Env.sp 1 (AV.ptr (some (y5, (0 : Nat))) :: AV.int IntKind.i64 y6 :: Env.sp 50 [])
def f10e2 (y0 : Option (Nat × Nat)) (y1 : Nat) : Env := AV.ptr y0 :: Env.sp 2 (AV.ptr (some (y1, (0 : Nat))) :: Env.sp 51 [])
def f10e3 (y0 : Option (Nat × Nat)) (y1 : Nat) (y2 : Bool) (y3 : Nat) (y4 : Int) (y5 : Bool) (y6 : Bool) (y7 : Bool) (y8 : Bool) (y9 : Bool) (y10 : Bool) : Env := AV.ptr y0 :: Env.sp 2 (AV.ptr (some (y1, (0 : Nat))) :: Env.sp 1 (AV.bool y2 :: AV.ptr (some (y3, (0 : Nat))) :: AV.int IntKind.i64 y4 :: AV.bool y5 :: AV.bool y6 :: AV.bool y7 :: AV.tuple [] :: AV.tuple [] :: AV.tuple [] :: AV.tuple [] :: AV.bool y8 :: AV.bool y9 :: AV.tuple [] :: AV.tuple [] :: AV.tuple [] :: AV.bool y10 :: Env.sp 34 []))
def f10e4 (y0 : Option (Nat × Nat)) (y1 : Nat) (y2 : Bool) (y3 : Nat) (y4 : Int) (y5 : Bool) (y6 : Bool) (y7 : Bool) (y8 : Nat) (y9 : Int) (y10 : Bool) (y11 : Bool) (y12 : Bool) (y13 : Bool) (y14 : Bool) : Env := AV.ptr y0 :: Env.sp 2 (AV.ptr (some (y1, (0 : Nat))) :: Env.sp 1 (AV.bool y2 :: AV.ptr (some (y3, (0 : Nat))) :: AV.int IntKind.i64 y4 :: AV.bool y5 :: AV.bool y6 :: AV.bool y7 :: AV.ptr (some (y8, (1 : Nat))) :: AV.int IntKind.i64 y9 :: AV.bool y10 :: AV.bool y11 :: AV.bool y12 :: AV.bool y13 :: AV.tuple [] :: AV.tuple [] :: AV.tuple [] :: AV.bool y14 :: Env.sp 34 []))
def f10e5 (y0 : Option (Nat × Nat)) (y1 : Nat) (y2 : Bool) (y3 : Nat) (y4 : Int) (y5 : Bool) (y6 : Bool) (y7 : Bool) (y8 : Nat) (y9 : Int) (y10 : Bool) (y11 : Bool) (y12 : Bool) (y13 : Bool) (y14 : Nat) (y15 : Int) (y16 : Bool) (y17 : Bool) : Env := AV.ptr y0 :: Env.sp 2 (AV.ptr (some (y1, (0 : Nat))) :: Env.sp 1 (AV.bool y2 :: AV.ptr (some (y3, (0 : Nat))) :: AV.int IntKind.i64 y4 :: AV.bool y5 :: AV.bool y6 :: AV.bool y7 :: AV.ptr (some (y8, (1 : Nat))) :: AV.int IntKind.i64 y9 :: AV.bool y10 :: AV.bool y11 :: AV.bool y12 :: AV.bool y13 :: AV.ptr (some (y14, (2 : Nat))) :: AV.int IntKind.i64 y15 :: AV.bool y16 :: AV.bool y17 :: Env.sp 34 []))
def f10e6 (y0 : Option (Nat × Nat)) (y1 : Nat) (y2 : Bool) : Env := AV.ptr y0 :: Env.sp 2 (AV.ptr (some (y1, (0 : Nat))) :: Env.sp 1 (AV.bool y2 :: Env.sp 49 []))
def f10e7 (y0 : Option (Nat × Nat)) (y1 : Nat) (y2 : Int) (y3 : Bool) : Env := AV.ptr y0 :: Env.sp 2 (AV.ptr (some (y1, (0 : Nat))) :: AV.int IntKind.i64 y2 :: AV.bool y3 :: Env.sp 49 [])
def f10e8 (y0 : Int) : Env := Env.sp 4 (AV.int IntKind.i64 y0 :: Env.sp 50 [])
def f10e9 (y0 : Option (Nat × Nat)) (y1 : Nat) (y2 : Bool) (y3 : Bool) (y4 : Nat) (y5 : ByteArray) (y6 : Int) (y7 : Bool) : Env := AV.ptr y0 :: Env.sp 2 (AV.ptr (some (y1, (0 : Nat))) :: Env.sp 1 (AV.bool y2 :: Env.sp 15 (AV.bool y3 :: AV.ptr (some (y4, (3 : Nat))) :: AV.str y5 :: AV.int IntKind.i64 y6 :: AV.bool y7 :: Env.sp 29 [])))
def f10e10 (y0 : Option (Nat × Nat)) (y1 : Nat) (y2 : Bool) : Env := AV.ptr y0 :: Env.sp 2 (AV.ptr (some (y1, (0 : Nat))) :: Env.sp 17 (AV.bool y2 :: Env.sp 33 []))
def f10e11 (y0 : Option (Nat × Nat)) (y1 : Nat) (y2 : Int) (y3 : Bool) : Env := AV.ptr y0 :: Env.sp 2 (AV.ptr (some (y1, (0 : Nat))) :: AV.int IntKind.i64 y2 :: Env.sp 16 (AV.bool y3 :: Env.sp 33 []))
def f10e12 (y0 : Option (Nat × Nat)) (y1 : Nat) (y2 : Bool) (y3 : Bool) (y4 : Option (Nat × Nat)) (y5 : Bool) : Env := AV.ptr y0 :: Env.sp 2 (AV.ptr (some (y1, (0 : Nat))) :: Env.sp 17 (AV.bool y2 :: Env.sp 4 (AV.bool y3 :: AV.ptr y4 :: AV.bool y5 :: Env.sp 26 [])))
def f10e13 (y0 : Option (Nat × Nat)) (y1 : Nat) (y2 : Bool) : Env := AV.ptr y0 :: Env.sp 2 (AV.ptr (some (y1, (0 : Nat))) :: Env.sp 22 (AV.bool y2 :: Env.sp 28 []))
def f10e14 (y0 : Option (Nat × Nat)) (y1 : Nat) (y2 : Int) (y3 : Bool) : Env := AV.ptr y0 :: Env.sp 2 (AV.ptr (some (y1, (0 : Nat))) :: AV.int IntKind.i64 y2 :: Env.sp 21 (AV.bool y3 :: Env.sp 28 []))
def f10e15 (y0 : Option (Nat × Nat)) (y1 : Nat) (y2 : Bool) (y3 : Bool) (y4 : Option (Nat × Nat)) (y5 : Option (Nat × Nat)) (y6 : Option (Nat × Nat)) (y7 : Option (Nat × Nat)) (y8 : Nat) (y9 : Option Nat) (y10 : Int) (y11 : Bool) : Env := AV.ptr y0 :: Env.sp 2 (AV.ptr (some (y1, (0 : Nat))) :: Env.sp 22 (AV.bool y2 :: Env.sp 2 (AV.bool y3 :: AV.ptr y4 :: AV.ptr y5 :: AV.ptr y6 :: AV.slice y7 y8 y9 (4 : Nat) :: AV.int IntKind.i64 y10 :: AV.bool y11 :: Env.sp 19 [])))
def f10e16 (y0 : Option (Nat × Nat)) (y1 : Nat) (y2 : Bool) : Env := AV.ptr y0 :: Env.sp 2 (AV.ptr (some (y1, (0 : Nat))) :: Env.sp 25 (AV.bool y2 :: Env.sp 25 []))
def f10e17 (y0 : Option (Nat × Nat)) (y1 : Nat) (y2 : Bool) (y3 : Option (Nat × Nat)) (y4 : Option (Nat × Nat)) (y5 : Option (Nat × Nat)) (y6 : Option (Nat × Nat)) (y7 : Int) (y8 : Int) (y9 : Int) (y10 : Option (Nat × Nat)) (y11 : Option (Nat × Nat)) : Env := AV.ptr y0 :: Env.sp 2 (AV.ptr (some (y1, (0 : Nat))) :: Env.sp 25 (AV.bool y2 :: Env.sp 6 (AV.ptr y3 :: AV.ptr y4 :: AV.ptr y5 :: AV.ptr y6 :: AV.int IntKind.i64 y7 :: AV.int IntKind.i64 y8 :: AV.int IntKind.i64 y9 :: AV.ptr y10 :: AV.ptr y11 :: Env.sp 10 [])))
def f10e18 : Env := Env.sp 55 []
def f10e19 (y0 : Option (Nat × Nat)) (y1 : Nat) (y2 : Option (Nat × Nat)) (y3 : Option (Nat × Nat)) (y4 : Option (Nat × Nat)) (y5 : Option (Nat × Nat)) (y6 : Option (Nat × Nat)) (y7 : Nat) (y8 : Option Nat) (y9 : Int) (y10 : Int) (y11 : Int) (y12 : ByteArray) (y13 : Option (Nat × Nat)) (y14 : Nat) (y15 : Option Nat) (y16 : Option (Nat × Nat)) (y17 : Nat) (y18 : Option Nat) (y19 : Option (Nat × Nat)) (y20 : Option (Nat × Nat)) : Env := AV.ptr y0 :: Env.sp 2 (AV.ptr (some (y1, (0 : Nat))) :: Env.sp 41 (AV.ptr y2 :: AV.ptr y3 :: AV.ptr y4 :: AV.ptr y5 :: AV.slice y6 y7 y8 (4 : Nat) :: AV.agg [AV.int IntKind.i64 y9, AV.int IntKind.i64 y10, AV.int IntKind.i64 y11, AV.str y12] :: AV.slice y13 y14 y15 (4 : Nat) :: AV.slice y16 y17 y18 (4 : Nat) :: AV.ptr y19 :: AV.ptr y20 :: []))

/- function 10 -/
theorem f10_eq {R : Type} (call : CallF R) (N : Nat) (y0 : Option (Nat × Nat)) (y1 : Int) (y2 : Int) (y3 : Int) (y4 : ByteArray) (σ : St) (K : AV → St → Option R) :
    bodyK Try.prog call N ann 10 [AV.ptr y0, AV.agg [AV.int IntKind.i64 y1, AV.int IntKind.i64 y2, AV.int IntKind.i64 y3, AV.str y4]] σ K = runK Try.prog call N f10c0 f10a0 (bodyC Try.prog f10rs K) (f10e0 y0 y1 y2 y3 y4) σ := bodyK_of (fn := ((Try.prog.funcs[10]?).get rfl)) (by kernel_rfl) (by kernel_rfl) (by kernel_rfl) (by kernel_rfl) (by kernel_rfl) (by kernel_rfl)
theorem f10n0 {R : Type} (call : CallF R) (N : Nat) (J : KF R) (e : Env) (σ : St) : runK Try.prog call N f10c0 f10a0 J e σ = runK Try.prog call N f10c1 f10a1 (seqC (fun K e σ => runK Try.prog call N f10c2 f10a2 K e σ) f10a0 J) e σ := runK_seq' (by kernel_rfl) (by kernel_rfl) (by kernel_rfl)
theorem f10r1_f10e0 {R : Type} (call : CallF R) (N : Nat) (y0 : Option (Nat × Nat)) (y1 : Int) (y2 : Int) (y3 : Int) (y4 : ByteArray) (J : KF R) (σ : St) :
    runK Try.prog call N f10c1 f10a1 J (f10e0 y0 y1 y2 y3 y4) σ =
J Ex.normal (f10e1 y0 y1 y2 y3 y4 (St.next σ) (0 : Int))
  (St.new σ (Blk.cells [AV.int IntKind.i64 y1, AV.int IntKind.i64 y2, AV.int IntKind.i64 y3, AV.str y4] true)) := hide (by kernel_rfl)
theorem f10z0_f10e1 (y0 : Option (Nat × Nat)) (y1 : Int) (y2 : Int) (y3 : Int) (y4 : ByteArray) (y5 : Nat) (y6 : Int) : Ann.clr f10a0 (f10e1 y0 y1 y2 y3 y4 y5 y6) = f10e2 y0 y5 := hide (by kernel_rfl)
theorem f10n2 {R : Type} (call : CallF R) (N : Nat) (J : KF R) (e : Env) (σ : St) : runK Try.prog call N f10c2 f10a2 J e σ = runK Try.prog call N f10c3 f10a3 (seqC (fun K e σ => runK Try.prog call N f10c4 f10a4 K e σ) f10a2 J) e σ := runK_seq' (by kernel_rfl) (by kernel_rfl) (by kernel_rfl)
theorem f10n3 {R : Type} (call : CallF R) (N : Nat) (J : KF R) (e : Env) (σ : St) : runK Try.prog call N f10c3 f10a3 J e σ = runK Try.prog call N f10c5 f10a5 (blockC 0 f10a3 J) e σ := runK_block' (by kernel_rfl) (by kernel_rfl)
theorem f10n5 {R : Type} (call : CallF R) (N : Nat) (J : KF R) (e : Env) (σ : St) : runK Try.prog call N f10c5 f10a5 J e σ = runK Try.prog call N f10c6 f10a6 (seqC (fun K e σ => runK Try.prog call N f10c7 f10a7 K e σ) f10a5 J) e σ := runK_seq' (by kernel_rfl) (by kernel_rfl) (by kernel_rfl)
theorem f10r6_f10e2 {R : Type} (call : CallF R) (N : Nat) (y0 : Option (Nat × Nat)) (y1 : Nat) (J : KF R) (σ : St) :
    runK Try.prog call N f10c6 f10a6 J (f10e2 y0 y1) σ =
Option.bind (St.ld σ y1 (0 : Nat)) fun v0 =>
  Option.bind (AV.toInt IntKind.i64 v0) fun v1 =>
    call (21 : Nat) [AV.int IntKind.i64 v1] σ fun v2 v3 =>
      Option.bind (AV.toBool v2) fun v4 =>
        if (!v4) = true then J Ex.normal (f10e3 y0 y1 true y1 v1 v4 (!v4) true true true true) v3
        else
          Option.bind (St.ld v3 y1 (1 : Nat)) fun v5 =>
            Option.bind (AV.toInt IntKind.i64 v5) fun v6 =>
              call (21 : Nat) [AV.int IntKind.i64 v6] v3 fun v7 v8 =>
                Option.bind (AV.toBool v7) fun v9 =>
                  if (!v9) = true then J Ex.normal (f10e4 y0 y1 true y1 v1 v4 (!v4) false y1 v6 v9 (!v9) (!v9) true true) v8
                  else
                    Option.bind (St.ld v8 y1 (2 : Nat)) fun v10 =>
                      Option.bind (AV.toInt IntKind.i64 v10) fun v11 =>
                        J Ex.normal
                          (f10e5 y0 y1 (decide (v11 < (0 : Int))) y1 v1 v4 (!v4) false y1 v6 v9 (!v9) (!v9) false y1 v11 (decide (v11 < (0 : Int)))
                            (decide (v11 < (0 : Int))))
                          v8 := hide (by kernel_rfl)
theorem f10z5_f10e3 (y0 : Option (Nat × Nat)) (y1 : Nat) (y2 : Bool) (y3 : Nat) (y4 : Int) (y5 : Bool) (y6 : Bool) (y7 : Bool) (y8 : Bool) (y9 : Bool) (y10 : Bool) : Ann.clr f10a5 (f10e3 y0 y1 y2 y3 y4 y5 y6 y7 y8 y9 y10) = f10e6 y0 y1 y2 := hide (by kernel_rfl)
theorem f10x7_f10e6 {R : Type} (call : CallF R) (N : Nat) (y0 : Option (Nat × Nat)) (y1 : Nat) (y2 : Bool) (J : KF R) (σ : St) : runK Try.prog call N f10c7 f10a7 J (f10e6 y0 y1 y2) σ = if y2 = true then runK Try.prog call N f10c8 f10a8 (condC f10a7 J) (f10e6 y0 y1 y2) σ else runK Try.prog call N f10c9 f10a9 (condC f10a7 J) (f10e6 y0 y1 y2) σ := runK_cond' (o := Operand.tmp (5 : Nat)) (by kernel_rfl) (by kernel_rfl) (by kernel_rfl) (by kernel_rfl)
theorem f10n8 {R : Type} (call : CallF R) (N : Nat) (J : KF R) (e : Env) (σ : St) : runK Try.prog call N f10c8 f10a8 J e σ = runK Try.prog call N f10c10 f10a10 (seqC (fun K e σ => runK Try.prog call N f10c11 f10a11 K e σ) f10a8 J) e σ := runK_seq' (by kernel_rfl) (by kernel_rfl) (by kernel_rfl)
theorem f10r10_f10e6 {R : Type} (call : CallF R) (N : Nat) (y0 : Option (Nat × Nat)) (y1 : Nat) (y2 : Bool) (J : KF R) (σ : St) :
    runK Try.prog call N f10c10 f10a10 J (f10e6 y0 y1 y2) σ =
J Ex.normal (f10e7 y0 y1 (1 : Int) y2) σ := hide (by kernel_rfl)
theorem f10z8_f10e7 (y0 : Option (Nat × Nat)) (y1 : Nat) (y2 : Int) (y3 : Bool) : Ann.clr f10a8 (f10e7 y0 y1 y2 y3) = f10e8 y2 := hide (by kernel_rfl)
theorem f10y11_f10e8 {R : Type} (call : CallF R) (N : Nat) (y0 : Int) (J : KF R) (σ : St) : runK Try.prog call N f10c11 f10a11 J (f10e8 y0) σ = J .ret (f10e8 y0) σ := runK_ret' (by kernel_rfl) (by kernel_rfl)
theorem f10n9 {R : Type} (call : CallF R) (N : Nat) (J : KF R) (e : Env) (σ : St) : runK Try.prog call N f10c9 f10a9 J e σ = runK Try.prog call N f10c12 f10a12 (seqC (fun K e σ => runK Try.prog call N f10c13 f10a13 K e σ) f10a9 J) e σ := runK_seq' (by kernel_rfl) (by kernel_rfl) (by kernel_rfl)
theorem f10r12_f10e6 {R : Type} (call : CallF R) (N : Nat) (y0 : Option (Nat × Nat)) (y1 : Nat) (y2 : Bool) (J : KF R) (σ : St) :
    runK Try.prog call N f10c12 f10a12 J (f10e6 y0 y1 y2) σ =
Option.bind (St.ld σ y1 (3 : Nat)) fun v0 =>
  Option.bind (AV.toStr v0) fun v1 =>
    J Ex.normal
      (f10e9 y0 y1 y2 (decide ((↑(ByteArray.size v1) : Int) > (1048576 : Int))) y1 v1 (↑(ByteArray.size v1) : Int)
        (decide ((↑(ByteArray.size v1) : Int) > (1048576 : Int))))
      σ := hide (by kernel_rfl)
theorem f10z9_f10e9 (y0 : Option (Nat × Nat)) (y1 : Nat) (y2 : Bool) (y3 : Bool) (y4 : Nat) (y5 : ByteArray) (y6 : Int) (y7 : Bool) : Ann.clr f10a9 (f10e9 y0 y1 y2 y3 y4 y5 y6 y7) = f10e10 y0 y1 y3 := hide (by kernel_rfl)
theorem f10x13_f10e10 {R : Type} (call : CallF R) (N : Nat) (y0 : Option (Nat × Nat)) (y1 : Nat) (y2 : Bool) (J : KF R) (σ : St) : runK Try.prog call N f10c13 f10a13 J (f10e10 y0 y1 y2) σ = if y2 = true then runK Try.prog call N f10c14 f10a14 (condC f10a13 J) (f10e10 y0 y1 y2) σ else runK Try.prog call N f10c15 f10a15 (condC f10a13 J) (f10e10 y0 y1 y2) σ := runK_cond' (o := Operand.tmp (21 : Nat)) (by kernel_rfl) (by kernel_rfl) (by kernel_rfl) (by kernel_rfl)
theorem f10n14 {R : Type} (call : CallF R) (N : Nat) (J : KF R) (e : Env) (σ : St) : runK Try.prog call N f10c14 f10a14 J e σ = runK Try.prog call N f10c16 f10a16 (seqC (fun K e σ => runK Try.prog call N f10c17 f10a17 K e σ) f10a14 J) e σ := runK_seq' (by kernel_rfl) (by kernel_rfl) (by kernel_rfl)
theorem f10r16_f10e10 {R : Type} (call : CallF R) (N : Nat) (y0 : Option (Nat × Nat)) (y1 : Nat) (y2 : Bool) (J : KF R) (σ : St) :
    runK Try.prog call N f10c16 f10a16 J (f10e10 y0 y1 y2) σ =
J Ex.normal (f10e11 y0 y1 (2 : Int) y2) σ := hide (by kernel_rfl)
theorem f10z14_f10e11 (y0 : Option (Nat × Nat)) (y1 : Nat) (y2 : Int) (y3 : Bool) : Ann.clr f10a14 (f10e11 y0 y1 y2 y3) = f10e8 y2 := hide (by kernel_rfl)
theorem f10y17_f10e8 {R : Type} (call : CallF R) (N : Nat) (y0 : Int) (J : KF R) (σ : St) : runK Try.prog call N f10c17 f10a17 J (f10e8 y0) σ = J .ret (f10e8 y0) σ := runK_ret' (by kernel_rfl) (by kernel_rfl)
theorem f10n15 {R : Type} (call : CallF R) (N : Nat) (J : KF R) (e : Env) (σ : St) : runK Try.prog call N f10c15 f10a15 J e σ = runK Try.prog call N f10c18 f10a18 (seqC (fun K e σ => runK Try.prog call N f10c19 f10a19 K e σ) f10a15 J) e σ := runK_seq' (by kernel_rfl) (by kernel_rfl) (by kernel_rfl)
theorem f10r18_f10e10 {R : Type} (call : CallF R) (N : Nat) (y0 : Option (Nat × Nat)) (y1 : Nat) (y2 : Bool) (J : KF R) (σ : St) :
    runK Try.prog call N f10c18 f10a18 J (f10e10 y0 y1 y2) σ =
J Ex.normal (f10e12 y0 y1 y2 (Option.isNone y0) y0 (Option.isNone y0)) σ := hide (by kernel_rfl)
theorem f10z15_f10e12 (y0 : Option (Nat × Nat)) (y1 : Nat) (y2 : Bool) (y3 : Bool) (y4 : Option (Nat × Nat)) (y5 : Bool) : Ann.clr f10a15 (f10e12 y0 y1 y2 y3 y4 y5) = f10e13 y0 y1 y3 := hide (by kernel_rfl)
theorem f10x19_f10e13 {R : Type} (call : CallF R) (N : Nat) (y0 : Option (Nat × Nat)) (y1 : Nat) (y2 : Bool) (J : KF R) (σ : St) : runK Try.prog call N f10c19 f10a19 J (f10e13 y0 y1 y2) σ = if y2 = true then runK Try.prog call N f10c20 f10a20 (condC f10a19 J) (f10e13 y0 y1 y2) σ else runK Try.prog call N f10c21 f10a21 (condC f10a19 J) (f10e13 y0 y1 y2) σ := runK_cond' (o := Operand.tmp (26 : Nat)) (by kernel_rfl) (by kernel_rfl) (by kernel_rfl) (by kernel_rfl)
theorem f10n20 {R : Type} (call : CallF R) (N : Nat) (J : KF R) (e : Env) (σ : St) : runK Try.prog call N f10c20 f10a20 J e σ = runK Try.prog call N f10c22 f10a22 (seqC (fun K e σ => runK Try.prog call N f10c23 f10a23 K e σ) f10a20 J) e σ := runK_seq' (by kernel_rfl) (by kernel_rfl) (by kernel_rfl)
theorem f10r22_f10e13 {R : Type} (call : CallF R) (N : Nat) (y0 : Option (Nat × Nat)) (y1 : Nat) (y2 : Bool) (J : KF R) (σ : St) :
    runK Try.prog call N f10c22 f10a22 J (f10e13 y0 y1 y2) σ =
J Ex.normal (f10e14 y0 y1 (5 : Int) y2) σ := hide (by kernel_rfl)
theorem f10z20_f10e14 (y0 : Option (Nat × Nat)) (y1 : Nat) (y2 : Int) (y3 : Bool) : Ann.clr f10a20 (f10e14 y0 y1 y2 y3) = f10e8 y2 := hide (by kernel_rfl)
theorem f10y23_f10e8 {R : Type} (call : CallF R) (N : Nat) (y0 : Int) (J : KF R) (σ : St) : runK Try.prog call N f10c23 f10a23 J (f10e8 y0) σ = J .ret (f10e8 y0) σ := runK_ret' (by kernel_rfl) (by kernel_rfl)
theorem f10n21 {R : Type} (call : CallF R) (N : Nat) (J : KF R) (e : Env) (σ : St) : runK Try.prog call N f10c21 f10a21 J e σ = runK Try.prog call N f10c24 f10a24 (seqC (fun K e σ => runK Try.prog call N f10c25 f10a25 K e σ) f10a21 J) e σ := runK_seq' (by kernel_rfl) (by kernel_rfl) (by kernel_rfl)
theorem f10r24_f10e13 {R : Type} (call : CallF R) (N : Nat) (y0 : Option (Nat × Nat)) (y1 : Nat) (y2 : Bool) (J : KF R) (σ : St) :
    runK Try.prog call N f10c24 f10a24 J (f10e13 y0 y1 y2) σ =
Option.bind y0 fun v0 =>
  Option.bind (St.ld σ (Prod.fst v0) (Prod.snd v0)) fun v1 =>
    Option.bind (AV.toSl (4 : Nat) v1) fun v2 =>
      J Ex.normal
        (f10e15 y0 y1 y2 ((↑(Sl.len v2) : Int) == (4096 : Int)) y0 (some v0) (some (Prod.fst v0, Prod.snd v0)) (Sl.o v2) (Sl.len v2) (Sl.cap v2)
          (↑(Sl.len v2) : Int) ((↑(Sl.len v2) : Int) == (4096 : Int)))
        σ := hide (by kernel_rfl)
theorem f10z21_f10e15 (y0 : Option (Nat × Nat)) (y1 : Nat) (y2 : Bool) (y3 : Bool) (y4 : Option (Nat × Nat)) (y5 : Option (Nat × Nat)) (y6 : Option (Nat × Nat)) (y7 : Option (Nat × Nat)) (y8 : Nat) (y9 : Option Nat) (y10 : Int) (y11 : Bool) : Ann.clr f10a21 (f10e15 y0 y1 y2 y3 y4 y5 y6 y7 y8 y9 y10 y11) = f10e16 y0 y1 y3 := hide (by kernel_rfl)
theorem f10x25_f10e16 {R : Type} (call : CallF R) (N : Nat) (y0 : Option (Nat × Nat)) (y1 : Nat) (y2 : Bool) (J : KF R) (σ : St) : runK Try.prog call N f10c25 f10a25 J (f10e16 y0 y1 y2) σ = if y2 = true then runK Try.prog call N f10c26 f10a26 (condC f10a25 J) (f10e16 y0 y1 y2) σ else runK Try.prog call N f10c27 f10a27 (condC f10a25 J) (f10e16 y0 y1 y2) σ := runK_cond' (o := Operand.tmp (29 : Nat)) (by kernel_rfl) (by kernel_rfl) (by kernel_rfl) (by kernel_rfl)
theorem f10n26 {R : Type} (call : CallF R) (N : Nat) (J : KF R) (e : Env) (σ : St) : runK Try.prog call N f10c26 f10a26 J e σ = runK Try.prog call N f10c28 f10a28 (seqC (fun K e σ => runK Try.prog call N f10c29 f10a29 K e σ) f10a26 J) e σ := runK_seq' (by kernel_rfl) (by kernel_rfl) (by kernel_rfl)
theorem f10r28_f10e16 {R : Type} (call : CallF R) (N : Nat) (y0 : Option (Nat × Nat)) (y1 : Nat) (y2 : Bool) (J : KF R) (σ : St) :
    runK Try.prog call N f10c28 f10a28 J (f10e16 y0 y1 y2) σ =
Option.bind y0 fun v0 =>
  Option.bind (St.ld σ (Prod.fst v0) (Prod.snd v0 + (1 : Nat))) fun v1 =>
    Option.bind (AV.toInt IntKind.i64 v1) fun v2 =>
      Option.bind y0 fun v3 =>
        Option.bind
          (St.st σ (Prod.fst v3) (Prod.snd v3 + (1 : Nat))
            [AV.int IntKind.i64
                (if (1099511627776 : Int) < IntKind.wrap IntKind.i64 (v2 + (1 : Int)) then (1099511627776 : Int)
                else IntKind.wrap IntKind.i64 (v2 + (1 : Int)))])
          fun v4 =>
          J Ex.normal
            (f10e17 y0 y1 y2 y0 y0 (some v0) (some (Prod.fst v0, Prod.snd v0 + (1 : Nat))) v2 (IntKind.wrap IntKind.i64 (v2 + (1 : Int)))
              (if (1099511627776 : Int) < IntKind.wrap IntKind.i64 (v2 + (1 : Int)) then (1099511627776 : Int)
              else IntKind.wrap IntKind.i64 (v2 + (1 : Int)))
              (some v3) (some (Prod.fst v3, Prod.snd v3 + (1 : Nat))))
            v4 := hide (by kernel_rfl)
theorem f10z26_f10e17 (y0 : Option (Nat × Nat)) (y1 : Nat) (y2 : Bool) (y3 : Option (Nat × Nat)) (y4 : Option (Nat × Nat)) (y5 : Option (Nat × Nat)) (y6 : Option (Nat × Nat)) (y7 : Int) (y8 : Int) (y9 : Int) (y10 : Option (Nat × Nat)) (y11 : Option (Nat × Nat)) : Ann.clr f10a26 (f10e17 y0 y1 y2 y3 y4 y5 y6 y7 y8 y9 y10 y11) = f10e18 := hide (by kernel_rfl)
theorem f10n29 {R : Type} (call : CallF R) (N : Nat) (J : KF R) (e : Env) (σ : St) : runK Try.prog call N f10c29 f10a29 J e σ = runK Try.prog call N f10c30 f10a30 (seqC (fun K e σ => runK Try.prog call N f10c31 f10a31 K e σ) f10a29 J) e σ := runK_seq' (by kernel_rfl) (by kernel_rfl) (by kernel_rfl)
theorem f10r30_f10e18 {R : Type} (call : CallF R) (N : Nat) (J : KF R) (σ : St) :
    runK Try.prog call N f10c30 f10a30 J (f10e18) σ =
J Ex.normal (f10e8 (5 : Int)) σ := hide (by kernel_rfl)
theorem f10z29_f10e8 (y0 : Int) : Ann.clr f10a29 (f10e8 y0) = f10e8 y0 := hide (by kernel_rfl)
theorem f10y31_f10e8 {R : Type} (call : CallF R) (N : Nat) (y0 : Int) (J : KF R) (σ : St) : runK Try.prog call N f10c31 f10a31 J (f10e8 y0) σ = J .ret (f10e8 y0) σ := runK_ret' (by kernel_rfl) (by kernel_rfl)
theorem f10n27 {R : Type} (call : CallF R) (N : Nat) (J : KF R) (e : Env) (σ : St) : runK Try.prog call N f10c27 f10a27 J e σ = J .normal e σ := runK_skip' (by kernel_rfl)
theorem f10z25_f10e16 (y0 : Option (Nat × Nat)) (y1 : Nat) (y2 : Bool) : Ann.clr f10a25 (f10e16 y0 y1 y2) = f10e2 y0 y1 := hide (by kernel_rfl)
theorem f10z19_f10e2 (y0 : Option (Nat × Nat)) (y1 : Nat) : Ann.clr f10a19 (f10e2 y0 y1) = f10e2 y0 y1 := hide (by kernel_rfl)
theorem f10z13_f10e2 (y0 : Option (Nat × Nat)) (y1 : Nat) : Ann.clr f10a13 (f10e2 y0 y1) = f10e2 y0 y1 := hide (by kernel_rfl)
theorem f10z7_f10e2 (y0 : Option (Nat × Nat)) (y1 : Nat) : Ann.clr f10a7 (f10e2 y0 y1) = f10e2 y0 y1 := hide (by kernel_rfl)
theorem f10z5_f10e4 (y0 : Option (Nat × Nat)) (y1 : Nat) (y2 : Bool) (y3 : Nat) (y4 : Int) (y5 : Bool) (y6 : Bool) (y7 : Bool) (y8 : Nat) (y9 : Int) (y10 : Bool) (y11 : Bool) (y12 : Bool) (y13 : Bool) (y14 : Bool) : Ann.clr f10a5 (f10e4 y0 y1 y2 y3 y4 y5 y6 y7 y8 y9 y10 y11 y12 y13 y14) = f10e6 y0 y1 y2 := hide (by kernel_rfl)
theorem f10z5_f10e5 (y0 : Option (Nat × Nat)) (y1 : Nat) (y2 : Bool) (y3 : Nat) (y4 : Int) (y5 : Bool) (y6 : Bool) (y7 : Bool) (y8 : Nat) (y9 : Int) (y10 : Bool) (y11 : Bool) (y12 : Bool) (y13 : Bool) (y14 : Nat) (y15 : Int) (y16 : Bool) (y17 : Bool) : Ann.clr f10a5 (f10e5 y0 y1 y2 y3 y4 y5 y6 y7 y8 y9 y10 y11 y12 y13 y14 y15 y16 y17) = f10e6 y0 y1 y2 := hide (by kernel_rfl)
theorem f10z3_f10e2 (y0 : Option (Nat × Nat)) (y1 : Nat) : Ann.clr f10a3 (f10e2 y0 y1) = f10e2 y0 y1 := hide (by kernel_rfl)
theorem f10z2_f10e2 (y0 : Option (Nat × Nat)) (y1 : Nat) : Ann.clr f10a2 (f10e2 y0 y1) = f10e2 y0 y1 := hide (by kernel_rfl)
theorem f10n4 {R : Type} (call : CallF R) (N : Nat) (J : KF R) (e : Env) (σ : St) : runK Try.prog call N f10c4 f10a4 J e σ = runK Try.prog call N f10c32 f10a32 (seqC (fun K e σ => runK Try.prog call N f10c33 f10a33 K e σ) f10a4 J) e σ := runK_seq' (by kernel_rfl) (by kernel_rfl) (by kernel_rfl)
theorem f10r32_f10e2 {R : Type} (call : CallF R) (N : Nat) (y0 : Option (Nat × Nat)) (y1 : Nat) (J : KF R) (σ : St) :
    runK Try.prog call N f10c32 f10a32 J (f10e2 y0 y1) σ =
Option.bind y0 fun v0 =>
  Option.bind (St.ld σ (Prod.fst v0) (Prod.snd v0)) fun v1 =>
    Option.bind (AV.toSl (4 : Nat) v1) fun v2 =>
      Option.bind (St.ld σ y1 (0 : Nat)) fun v3 =>
        Option.bind (AV.toInt IntKind.i64 v3) fun v4 =>
          Option.bind (St.ld σ y1 (1 : Nat)) fun v5 =>
            Option.bind (AV.toInt IntKind.i64 v5) fun v6 =>
              Option.bind (St.ld σ y1 (2 : Nat)) fun v7 =>
                Option.bind (AV.toInt IntKind.i64 v7) fun v8 =>
                  Option.bind (St.ld σ y1 (3 : Nat)) fun v9 =>
                    Option.bind (AV.toStr v9) fun v10 =>
                      if
                          St.same (St.new σ (Blk.cells [AV.int IntKind.i64 v4, AV.int IntKind.i64 v6, AV.int IntKind.i64 v8, AV.str v10] true))
                              (Prod.fst v0) (Prod.snd v0) [AV.slice (Sl.o v2) (Sl.len v2) (Sl.cap v2) (4 : Nat)] =
                            true then
                        Option.bind
                          (St.elems (St.new σ (Blk.cells [AV.int IntKind.i64 v4, AV.int IntKind.i64 v6, AV.int IntKind.i64 v8, AV.str v10] true))
                            (4 : Nat) (Sl.mk (some (St.next σ, (0 : Nat))) (1 : Nat) (some (1 : Nat))) (1 : Nat))
                          fun v11 =>
                          Option.bind
                            (St.app (St.new σ (Blk.cells [AV.int IntKind.i64 v4, AV.int IntKind.i64 v6, AV.int IntKind.i64 v8, AV.str v10] true))
                              (4 : Nat) (40 : Nat) (Sl.mk (Sl.o v2) (Sl.len v2) (Sl.cap v2)) (1 : Nat) v11)
                            fun v12 =>
                            Option.bind y0 fun v13 =>
                              Option.bind
                                (St.st (Prod.snd v12) (Prod.fst v13) (Prod.snd v13)
                                  [AV.slice (Sl.o (Prod.fst v12)) (Sl.len (Prod.fst v12)) (Sl.cap (Prod.fst v12)) (4 : Nat)])
                                fun v14 =>
                                J Ex.normal
                                  (f10e19 y0 y1 y0 y0 (some v0) (some (Prod.fst v0, Prod.snd v0)) (Sl.o v2) (Sl.len v2) (Sl.cap v2) v4 v6 v8 v10
                                    (some (St.next σ, (0 : Nat))) (1 : Nat) (some (1 : Nat)) (Sl.o (Prod.fst v12)) (Sl.len (Prod.fst v12))
                                    (Sl.cap (Prod.fst v12)) (some v13) (some (Prod.fst v13, Prod.snd v13)))
                                  v14
                      else none := hide (by kernel_rfl)
theorem f10z4_f10e19 (y0 : Option (Nat × Nat)) (y1 : Nat) (y2 : Option (Nat × Nat)) (y3 : Option (Nat × Nat)) (y4 : Option (Nat × Nat)) (y5 : Option (Nat × Nat)) (y6 : Option (Nat × Nat)) (y7 : Nat) (y8 : Option Nat) (y9 : Int) (y10 : Int) (y11 : Int) (y12 : ByteArray) (y13 : Option (Nat × Nat)) (y14 : Nat) (y15 : Option Nat) (y16 : Option (Nat × Nat)) (y17 : Nat) (y18 : Option Nat) (y19 : Option (Nat × Nat)) (y20 : Option (Nat × Nat)) : Ann.clr f10a4 (f10e19 y0 y1 y2 y3 y4 y5 y6 y7 y8 y9 y10 y11 y12 y13 y14 y15 y16 y17 y18 y19 y20) = f10e18 := hide (by kernel_rfl)
theorem f10n33 {R : Type} (call : CallF R) (N : Nat) (J : KF R) (e : Env) (σ : St) : runK Try.prog call N f10c33 f10a33 J e σ = runK Try.prog call N f10c34 f10a34 (seqC (fun K e σ => runK Try.prog call N f10c35 f10a35 K e σ) f10a33 J) e σ := runK_seq' (by kernel_rfl) (by kernel_rfl) (by kernel_rfl)
theorem f10r34_f10e18 {R : Type} (call : CallF R) (N : Nat) (J : KF R) (σ : St) :
    runK Try.prog call N f10c34 f10a34 J (f10e18) σ =
J Ex.normal (f10e8 (0 : Int)) σ := hide (by kernel_rfl)
theorem f10z33_f10e8 (y0 : Int) : Ann.clr f10a33 (f10e8 y0) = f10e8 y0 := hide (by kernel_rfl)
theorem f10y35_f10e8 {R : Type} (call : CallF R) (N : Nat) (y0 : Int) (J : KF R) (σ : St) : runK Try.prog call N f10c35 f10a35 J (f10e8 y0) σ = J .ret (f10e8 y0) σ := runK_ret' (by kernel_rfl) (by kernel_rfl)
theorem f10b_f10e8_r {R : Type} (y0 : Int) (σ : St) (K : AV → St → Option R) : bodyC Try.prog f10rs K (Ex.ret) (f10e8 y0) σ =
K (AV.int IntKind.i64 y0) σ := hide (by kernel_rfl)
attribute [go_sem] f10_eq f10n0 f10r1_f10e0 f10z0_f10e1 f10n2 f10n3 f10n5 f10r6_f10e2 f10z5_f10e3 f10x7_f10e6 f10n8 f10r10_f10e6 f10z8_f10e7 f10y11_f10e8 f10n9 f10r12_f10e6 f10z9_f10e9 f10x13_f10e10 f10n14 f10r16_f10e10 f10z14_f10e11 f10y17_f10e8 f10n15 f10r18_f10e10 f10z15_f10e12 f10x19_f10e13 f10n20 f10r22_f10e13 f10z20_f10e14 f10y23_f10e8 f10n21 f10r24_f10e13 f10z21_f10e15 f10x25_f10e16 f10n26 f10r28_f10e16 f10z26_f10e17 f10n29 f10r30_f10e18 f10z29_f10e8 f10y31_f10e8 f10n27 f10z25_f10e16 f10z19_f10e2 f10z13_f10e2 f10z7_f10e2 f10z5_f10e4 f10z5_f10e5 f10z3_f10e2 f10z2_f10e2 f10n4 f10r32_f10e2 f10z4_f10e19 f10n33 f10r34_f10e18 f10z33_f10e8 f10y35_f10e8 f10b_f10e8_r

noncomputable def f11rs : List ResultVar := [ResultVar.cell (4 : Nat) (30 : Nat), ResultVar.tmp (5 : Nat)]
noncomputable def f11c0 : Code := subCode [] (bodyOf Try.prog 11)
def f11a0 : Ann := subAnn [] ann11
noncomputable def f11c1 : Code := subCode [0] (bodyOf Try.prog 11)
def f11a1 : Ann := subAnn [0] ann11
noncomputable def f11c2 : Code := subCode [1] (bodyOf Try.prog 11)
def f11a2 : Ann := subAnn [1] ann11
noncomputable def f11c3 : Code := subCode [1, 0] (bodyOf Try.prog 11)
def f11a3 : Ann := subAnn [1, 0] ann11
noncomputable def f11c4 : Code := subCode [1, 1] (bodyOf Try.prog 11)
def f11a4 : Ann := subAnn [1, 1] ann11
noncomputable def f11c5 : Code := subCode [1, 1, 0] (bodyOf Try.prog 11)
def f11a5 : Ann := subAnn [1, 1, 0] ann11
noncomputable def f11c6 : Code := subCode [1, 1, 1] (bodyOf Try.prog 11)
def f11a6 : Ann := subAnn [1, 1, 1] ann11
noncomputable def f11c7 : Code := subCode [1, 1, 0, 0] (bodyOf Try.prog 11)
def f11a7 : Ann := subAnn [1, 1, 0, 0] ann11
noncomputable def f11c8 : Code := subCode [1, 1, 0, 1] (bodyOf Try.prog 11)
def f11a8 : Ann := subAnn [1, 1, 0, 1] ann11
noncomputable def f11c9 : Code := subCode [1, 1, 0, 1, 0] (bodyOf Try.prog 11)
def f11a9 : Ann := subAnn [1, 1, 0, 1, 0] ann11
noncomputable def f11c10 : Code := subCode [1, 1, 0, 1, 1] (bodyOf Try.prog 11)
def f11a10 : Ann := subAnn [1, 1, 0, 1, 1] ann11
noncomputable def f11c11 : Code := subCode [1, 1, 0, 1, 0, 0] (bodyOf Try.prog 11)
def f11a11 : Ann := subAnn [1, 1, 0, 1, 0, 0] ann11
noncomputable def f11c12 : Code := subCode [1, 1, 0, 1, 0, 1] (bodyOf Try.prog 11)
def f11a12 : Ann := subAnn [1, 1, 0, 1, 0, 1] ann11
noncomputable def f11c13 : Code := subCode [1, 1, 0, 1, 0, 1, 0] (bodyOf Try.prog 11)
def f11a13 : Ann := subAnn [1, 1, 0, 1, 0, 1, 0] ann11
noncomputable def f11c14 : Code := subCode [1, 1, 0, 1, 0, 1, 1] (bodyOf Try.prog 11)
def f11a14 : Ann := subAnn [1, 1, 0, 1, 0, 1, 1] ann11
noncomputable def f11c15 : Code := subCode [1, 1, 1, 0] (bodyOf Try.prog 11)
def f11a15 : Ann := subAnn [1, 1, 1, 0] ann11
noncomputable def f11c16 : Code := subCode [1, 1, 1, 1] (bodyOf Try.prog 11)
def f11a16 : Ann := subAnn [1, 1, 1, 1] ann11
def f11e0 (y0 : Option (Nat × Nat)) (y1 : Int) : Env := AV.ptr y0 :: AV.int IntKind.i64 y1 :: Env.sp 49 []
def f11e1 (y0 : Option (Nat × Nat)) (y1 : Int) (y2 : Nat) (y3 : Int) : Env := AV.ptr y0 :: AV.int IntKind.i64 y1 :: Env.sp 2 (AV.ptr (some (y2, (0 : Nat))) :: AV.int IntKind.i64 y3 :: Env.sp 45 [])
def f11e2 (y0 : Option (Nat × Nat)) (y1 : Int) (y2 : Nat) : Env := AV.ptr y0 :: AV.int IntKind.i64 y1 :: Env.sp 2 (AV.ptr (some (y2, (0 : Nat))) :: Env.sp 46 [])
def f11e3 (y0 : Option (Nat × Nat)) (y1 : Int) (y2 : Nat) (y3 : Nat) (y4 : Int) (y5 : Int) (y6 : Int) (y7 : Int) (y8 : ByteArray) (y9 : Int) (y10 : Option (Nat × Nat)) (y11 : Int) (y12 : Int) (y13 : Int) (y14 : Int) (y15 : ByteArray) (y16 : Int) (y17 : Int) (y18 : Int) (y19 : Int) (y20 : ByteArray) (y21 : Int) : Env := AV.ptr y0 :: AV.int IntKind.i64 y1 :: Env.sp 2 (AV.ptr (some (y2, (0 : Nat))) :: Env.sp 1 (AV.ptr (some (y3, (0 : Nat))) :: AV.int IntKind.i64 y4 :: Env.sp 1 (AV.tuple [AV.agg [AV.int IntKind.i64 y5, AV.int IntKind.i64 y6, AV.int IntKind.i64 y7, AV.str y8], AV.int IntKind.i64 y9] :: AV.ptr y10 :: AV.int IntKind.i64 y11 :: AV.tuple [AV.agg [AV.int IntKind.i64 y12, AV.int IntKind.i64 y13, AV.int IntKind.i64 y14, AV.str y15], AV.int IntKind.i64 y16] :: AV.agg [AV.int IntKind.i64 y17, AV.int IntKind.i64 y18, AV.int IntKind.i64 y19, AV.str y20] :: AV.int IntKind.i64 y21 :: Env.sp 36 [])))
def f11e4 (y0 : Option (Nat × Nat)) (y1 : Int) (y2 : Nat) (y3 : Nat) (y4 : Int) : Env := AV.ptr y0 :: AV.int IntKind.i64 y1 :: Env.sp 2 (AV.ptr (some (y2, (0 : Nat))) :: Env.sp 1 (AV.ptr (some (y3, (0 : Nat))) :: AV.int IntKind.i64 y4 :: Env.sp 43 []))
def f11e5 (y0 : Option (Nat × Nat)) (y1 : Int) (y2 : Nat) (y3 : Nat) (y4 : Int) (y5 : Int) (y6 : Bool) : Env := AV.ptr y0 :: AV.int IntKind.i64 y1 :: Env.sp 2 (AV.ptr (some (y2, (0 : Nat))) :: Env.sp 1 (AV.ptr (some (y3, (0 : Nat))) :: AV.int IntKind.i64 y4 :: Env.sp 7 (AV.int IntKind.i64 y5 :: AV.bool y6 :: Env.sp 34 [])))
def f11e6 (y0 : Option (Nat × Nat)) (y1 : Int) (y2 : Nat) (y3 : Nat) (y4 : Int) (y5 : Bool) : Env := AV.ptr y0 :: AV.int IntKind.i64 y1 :: Env.sp 2 (AV.ptr (some (y2, (0 : Nat))) :: Env.sp 1 (AV.ptr (some (y3, (0 : Nat))) :: AV.int IntKind.i64 y4 :: Env.sp 8 (AV.bool y5 :: Env.sp 34 [])))
def f11e7 (y0 : Option (Nat × Nat)) (y1 : Int) (y2 : Nat) (y3 : Nat) (y4 : Int) (y5 : Int) (y6 : Bool) (y7 : Int) (y8 : Option (Nat × Nat)) (y9 : Option (Nat × Nat)) (y10 : Option (Nat × Nat)) (y11 : Option (Nat × Nat)) (y12 : Nat) (y13 : Option Nat) (y14 : Int) (y15 : Option (Nat × Nat)) (y16 : Nat) (y17 : Option Nat) (y18 : Option (Nat × Nat)) (y19 : Option (Nat × Nat)) (y20 : Option (Nat × Nat)) (y21 : Option (Nat × Nat)) (y22 : Nat) (y23 : Option Nat) (y24 : Int) (y25 : Int) (y26 : Option (Nat × Nat)) (y27 : Nat) (y28 : Option Nat) (y29 : Int) (y30 : Int) : Env := AV.ptr y0 :: AV.int IntKind.i64 y1 :: Env.sp 2 (AV.ptr (some (y2, (0 : Nat))) :: Env.sp 1 (AV.ptr (some (y3, (0 : Nat))) :: AV.int IntKind.i64 y4 :: AV.int IntKind.i64 y5 :: Env.sp 7 (AV.bool y6 :: AV.int IntKind.i64 y7 :: AV.ptr y8 :: AV.ptr y9 :: AV.ptr y10 :: AV.slice y11 y12 y13 (4 : Nat) :: AV.int IntKind.i64 y14 :: AV.slice y15 y16 y17 (4 : Nat) :: AV.ptr y18 :: AV.ptr y19 :: AV.ptr y20 :: AV.slice y21 y22 y23 (4 : Nat) :: AV.int IntKind.i64 y24 :: AV.int IntKind.i64 y25 :: AV.slice y26 y27 y28 (4 : Nat) :: AV.int IntKind.i64 y29 :: AV.int IntKind.i64 y30 :: Env.sp 18 [])))
def f11e8 (y0 : Option (Nat × Nat)) (y1 : Nat) (y2 : Nat) (y3 : Int) (y4 : Int) : Env := AV.ptr y0 :: Env.sp 3 (AV.ptr (some (y1, (0 : Nat))) :: Env.sp 1 (AV.ptr (some (y2, (0 : Nat))) :: AV.int IntKind.i64 y3 :: AV.int IntKind.i64 y4 :: Env.sp 42 []))
def f11e9 (y0 : Option (Nat × Nat)) (y1 : Nat) (y2 : Nat) (y3 : Int) (y4 : Int) (y5 : Option (Nat × Nat)) (y6 : Option (Nat × Nat)) (y7 : Option (Nat × Nat)) (y8 : Option (Nat × Nat)) (y9 : Nat) (y10 : Option Nat) (y11 : Int) (y12 : Int) (y13 : Int) (y14 : Int) (y15 : ByteArray) (y16 : Option (Nat × Nat)) : Env := AV.ptr y0 :: Env.sp 3 (AV.ptr (some (y1, (0 : Nat))) :: Env.sp 1 (AV.ptr (some (y2, (0 : Nat))) :: AV.int IntKind.i64 y3 :: AV.int IntKind.i64 y4 :: Env.sp 24 (AV.ptr y5 :: AV.ptr y6 :: AV.ptr y7 :: AV.slice y8 y9 y10 (4 : Nat) :: AV.int IntKind.i64 y11 :: AV.agg [AV.int IntKind.i64 y12, AV.int IntKind.i64 y13, AV.int IntKind.i64 y14, AV.str y15] :: AV.ptr y16 :: Env.sp 11 [])))
def f11e10 (y0 : Option (Nat × Nat)) (y1 : Nat) (y2 : Nat) (y3 : Int) (y4 : Int) (y5 : Option (Nat × Nat)) (y6 : Option (Nat × Nat)) (y7 : Option (Nat × Nat)) (y8 : Option (Nat × Nat)) (y9 : Option (Nat × Nat)) (y10 : Nat) (y11 : Option Nat) (y12 : Int) (y13 : Option (Nat × Nat)) (y14 : Nat) (y15 : Option Nat) (y16 : Option (Nat × Nat)) (y17 : Option (Nat × Nat)) : Env := AV.ptr y0 :: Env.sp 3 (AV.ptr (some (y1, (0 : Nat))) :: Env.sp 1 (AV.ptr (some (y2, (0 : Nat))) :: AV.int IntKind.i64 y3 :: AV.int IntKind.i64 y4 :: Env.sp 31 (AV.ptr y5 :: AV.ptr y6 :: AV.ptr y7 :: AV.ptr y8 :: AV.slice y9 y10 y11 (4 : Nat) :: AV.int IntKind.i64 y12 :: AV.slice y13 y14 y15 (4 : Nat) :: AV.ptr y16 :: AV.ptr y17 :: Env.sp 2 [])))
def f11e11 (y0 : Nat) (y1 : Nat) (y2 : Int) : Env := Env.sp 4 (AV.ptr (some (y0, (0 : Nat))) :: Env.sp 1 (AV.ptr (some (y1, (0 : Nat))) :: AV.int IntKind.i64 y2 :: Env.sp 43 []))
def f11e12 (y0 : Nat) (y1 : Int) (y2 : Nat) (y3 : Int) (y4 : Int) (y5 : Int) (y6 : Int) (y7 : ByteArray) (y8 : Int) : Env := Env.sp 4 (AV.ptr (some (y0, (0 : Nat))) :: AV.int IntKind.i64 y1 :: AV.ptr (some (y2, (0 : Nat))) :: AV.int IntKind.i64 y3 :: Env.sp 41 (AV.agg [AV.int IntKind.i64 y4, AV.int IntKind.i64 y5, AV.int IntKind.i64 y6, AV.str y7] :: AV.int IntKind.i64 y8 :: []))
def f11e13 (y0 : Nat) (y1 : Int) : Env := Env.sp 4 (AV.ptr (some (y0, (0 : Nat))) :: AV.int IntKind.i64 y1 :: Env.sp 45 [])

/- function 11 -/
theorem f11_eq {R : Type} (call : CallF R) (N : Nat) (y0 : Option (Nat × Nat)) (y1 : Int) (σ : St) (K : AV → St → Option R) :
    bodyK Try.prog call N ann 11 [AV.ptr y0, AV.int IntKind.i64 y1] σ K = runK Try.prog call N f11c0 f11a0 (bodyC Try.prog f11rs K) (f11e0 y0 y1) σ := bodyK_of (fn := ((Try.prog.funcs[11]?).get rfl)) (by kernel_rfl) (by kernel_rfl) (by kernel_rfl) (by kernel_rfl) (by kernel_rfl) (by kernel_rfl)
theorem f11n0 {R : Type} (call : CallF R) (N : Nat) (J : KF R) (e : Env) (σ : St) : runK Try.prog call N f11c0 f11a0 J e σ = runK Try.prog call N f11c1 f11a1 (seqC (fun K e σ => runK Try.prog call N f11c2 f11a2 K e σ) f11a0 J) e σ := runK_seq' (by kernel_rfl) (by kernel_rfl) (by kernel_rfl)
theorem f11r1_f11e0 {R : Type} (call : CallF R) (N : Nat) (y0 : Option (Nat × Nat)) (y1 : Int) (J : KF R) (σ : St) :
    runK Try.prog call N f11c1 f11a1 J (f11e0 y0 y1) σ =
J Ex.normal (f11e1 y0 y1 (St.next σ) (0 : Int))
  (St.new σ (Blk.cells [AV.int IntKind.i64 (0 : Int), AV.int IntKind.i64 (0 : Int), AV.int IntKind.i64 (0 : Int), AV.str (ByteArray.mk #[])] true)) := hide (by kernel_rfl)
theorem f11z0_f11e1 (y0 : Option (Nat × Nat)) (y1 : Int) (y2 : Nat) (y3 : Int) : Ann.clr f11a0 (f11e1 y0 y1 y2 y3) = f11e2 y0 y1 y2 := hide (by kernel_rfl)
theorem f11n2 {R : Type} (call : CallF R) (N : Nat) (J : KF R) (e : Env) (σ : St) : runK Try.prog call N f11c2 f11a2 J e σ = runK Try.prog call N f11c3 f11a3 (seqC (fun K e σ => runK Try.prog call N f11c4 f11a4 K e σ) f11a2 J) e σ := runK_seq' (by kernel_rfl) (by kernel_rfl) (by kernel_rfl)
theorem f11r3_f11e2 {R : Type} (call : CallF R) (N : Nat) (y0 : Option (Nat × Nat)) (y1 : Int) (y2 : Nat) (J : KF R) (σ : St) :
    runK Try.prog call N f11c3 f11a3 J (f11e2 y0 y1 y2) σ =
call (12 : Nat) [AV.ptr y0, AV.int IntKind.i64 y1] σ fun v0 v1 =>
  Option.bind (AV.toTuple v0) fun v2 =>
    if List.length v2 = (2 : Nat) then
      Option.bind (List.head? v2) fun v3 =>
        Option.bind (AV.toAgg v3) fun v4 =>
          if List.length v4 = (4 : Nat) then
            Option.bind (List.head? v4) fun v5 =>
              Option.bind (AV.toInt IntKind.i64 v5) fun v6 =>
                Option.bind (List.head? (List.tail v4)) fun v7 =>
                  Option.bind (AV.toInt IntKind.i64 v7) fun v8 =>
                    Option.bind (List.head? (List.tail (List.tail v4))) fun v9 =>
                      Option.bind (AV.toInt IntKind.i64 v9) fun v10 =>
                        Option.bind (List.head? (List.tail (List.tail (List.tail v4)))) fun v11 =>
                          Option.bind (AV.toStr v11) fun v12 =>
                            Option.bind (List.head? (List.tail v2)) fun v13 =>
                              Option.bind (AV.toInt IntKind.i64 v13) fun v14 =>
                                Option.bind
                                  (St.st
                                    (St.new v1
                                      (Blk.cells
                                        [AV.int IntKind.i64 (0 : Int), AV.int IntKind.i64 (0 : Int), AV.int IntKind.i64 (0 : Int),
                                          AV.str (ByteArray.mk #[])]
                                        true))
                                    (St.next v1) (0 : Nat) [AV.int IntKind.i64 v6, AV.int IntKind.i64 v8, AV.int IntKind.i64 v10, AV.str v12])
                                  fun v15 =>
                                  J Ex.normal (f11e3 y0 y1 y2 (St.next v1) v14 v6 v8 v10 v12 v14 y0 y1 v6 v8 v10 v12 v14 v6 v8 v10 v12 v14) v15
          else none
    else none := hide (by kernel_rfl)
theorem f11z2_f11e3 (y0 : Option (Nat × Nat)) (y1 : Int) (y2 : Nat) (y3 : Nat) (y4 : Int) (y5 : Int) (y6 : Int) (y7 : Int) (y8 : ByteArray) (y9 : Int) (y10 : Option (Nat × Nat)) (y11 : Int) (y12 : Int) (y13 : Int) (y14 : Int) (y15 : ByteArray) (y16 : Int) (y17 : Int) (y18 : Int) (y19 : Int) (y20 : ByteArray) (y21 : Int) : Ann.clr f11a2 (f11e3 y0 y1 y2 y3 y4 y5 y6 y7 y8 y9 y10 y11 y12 y13 y14 y15 y16 y17 y18 y19 y20 y21) = f11e4 y0 y1 y2 y3 y4 := hide (by kernel_rfl)
theorem f11n4 {R : Type} (call : CallF R) (N : Nat) (J : KF R) (e : Env) (σ : St) : runK Try.prog call N f11c4 f11a4 J e σ = runK Try.prog call N f11c5 f11a5 (seqC (fun K e σ => runK Try.prog call N f11c6 f11a6 K e σ) f11a4 J) e σ := runK_seq' (by kernel_rfl) (by kernel_rfl) (by kernel_rfl)
theorem f11n5 {R : Type} (call : CallF R) (N : Nat) (J : KF R) (e : Env) (σ : St) : runK Try.prog call N f11c5 f11a5 J e σ = runK Try.prog call N f11c7 f11a7 (seqC (fun K e σ => runK Try.prog call N f11c8 f11a8 K e σ) f11a5 J) e σ := runK_seq' (by kernel_rfl) (by kernel_rfl) (by kernel_rfl)
theorem f11r7_f11e4 {R : Type} (call : CallF R) (N : Nat) (y0 : Option (Nat × Nat)) (y1 : Int) (y2 : Nat) (y3 : Nat) (y4 : Int) (J : KF R) (σ : St) :
    runK Try.prog call N f11c7 f11a7 J (f11e4 y0 y1 y2 y3 y4) σ =
J Ex.normal (f11e5 y0 y1 y2 y3 y4 y4 (y4 == (0 : Int))) σ := hide (by kernel_rfl)
theorem f11z5_f11e5 (y0 : Option (Nat × Nat)) (y1 : Int) (y2 : Nat) (y3 : Nat) (y4 : Int) (y5 : Int) (y6 : Bool) : Ann.clr f11a5 (f11e5 y0 y1 y2 y3 y4 y5 y6) = f11e6 y0 y1 y2 y3 y4 y6 := hide (by kernel_rfl)
theorem f11x8_f11e6 {R : Type} (call : CallF R) (N : Nat) (y0 : Option (Nat × Nat)) (y1 : Int) (y2 : Nat) (y3 : Nat) (y4 : Int) (y5 : Bool) (J : KF R) (σ : St) : runK Try.prog call N f11c8 f11a8 J (f11e6 y0 y1 y2 y3 y4 y5) σ = if y5 = true then runK Try.prog call N f11c9 f11a9 (condC f11a8 J) (f11e6 y0 y1 y2 y3 y4 y5) σ else runK Try.prog call N f11c10 f11a10 (condC f11a8 J) (f11e6 y0 y1 y2 y3 y4 y5) σ := runK_cond' (o := Operand.tmp (16 : Nat)) (by kernel_rfl) (by kernel_rfl) (by kernel_rfl) (by kernel_rfl)
theorem f11n9 {R : Type} (call : CallF R) (N : Nat) (J : KF R) (e : Env) (σ : St) : runK Try.prog call N f11c9 f11a9 J e σ = runK Try.prog call N f11c11 f11a11 (seqC (fun K e σ => runK Try.prog call N f11c12 f11a12 K e σ) f11a9 J) e σ := runK_seq' (by kernel_rfl) (by kernel_rfl) (by kernel_rfl)
theorem f11r11_f11e6 {R : Type} (call : CallF R) (N : Nat) (y0 : Option (Nat × Nat)) (y1 : Int) (y2 : Nat) (y3 : Nat) (y4 : Int) (y5 : Bool) (J : KF R) (σ : St) :
    runK Try.prog call N f11c11 f11a11 J (f11e6 y0 y1 y2 y3 y4 y5) σ =
Option.bind y0 fun v0 =>
  Option.bind (St.ld σ (Prod.fst v0) (Prod.snd v0)) fun v1 =>
    Option.bind (AV.toSl (4 : Nat) v1) fun v2 =>
      Option.bind (Sl.sub (4 : Nat) (Sl.mk (Sl.o v2) (Sl.len v2) (Sl.cap v2)) (some y1) none none) fun v3 =>
        Option.bind y0 fun v4 =>
          Option.bind (St.ld σ (Prod.fst v4) (Prod.snd v4)) fun v5 =>
            Option.bind (AV.toSl (4 : Nat) v5) fun v6 =>
              Option.bind (Sl.sub (4 : Nat) (Sl.mk (Sl.o v6) (Sl.len v6) (Sl.cap v6)) (some (IntKind.wrap IntKind.i64 (y1 + (1 : Int)))) none none)
                fun v7 =>
                Option.bind (St.copy σ (4 : Nat) (Sl.mk (Sl.o v3) (Sl.len v3) (Sl.cap v3)) (Sl.mk (Sl.o v7) (Sl.len v7) (Sl.cap v7))) fun v8 =>
                  J Ex.normal
                    (f11e7 y0 y1 y2 y3 y4 (IntKind.wrap IntKind.i64 (y1 + (↑(Prod.fst v8) : Int))) y5 y1 y0 (some v0)
                      (some (Prod.fst v0, Prod.snd v0)) (Sl.o v2) (Sl.len v2) (Sl.cap v2) y1 (Sl.o v3) (Sl.len v3) (Sl.cap v3) y0 (some v4)
                      (some (Prod.fst v4, Prod.snd v4)) (Sl.o v6) (Sl.len v6) (Sl.cap v6) y1 (IntKind.wrap IntKind.i64 (y1 + (1 : Int))) (Sl.o v7)
                      (Sl.len v7) (Sl.cap v7) (↑(Prod.fst v8) : Int) (IntKind.wrap IntKind.i64 (y1 + (↑(Prod.fst v8) : Int))))
                    (Prod.snd v8) := hide (by kernel_rfl)
theorem f11z9_f11e7 (y0 : Option (Nat × Nat)) (y1 : Int) (y2 : Nat) (y3 : Nat) (y4 : Int) (y5 : Int) (y6 : Bool) (y7 : Int) (y8 : Option (Nat × Nat)) (y9 : Option (Nat × Nat)) (y10 : Option (Nat × Nat)) (y11 : Option (Nat × Nat)) (y12 : Nat) (y13 : Option Nat) (y14 : Int) (y15 : Option (Nat × Nat)) (y16 : Nat) (y17 : Option Nat) (y18 : Option (Nat × Nat)) (y19 : Option (Nat × Nat)) (y20 : Option (Nat × Nat)) (y21 : Option (Nat × Nat)) (y22 : Nat) (y23 : Option Nat) (y24 : Int) (y25 : Int) (y26 : Option (Nat × Nat)) (y27 : Nat) (y28 : Option Nat) (y29 : Int) (y30 : Int) : Ann.clr f11a9 (f11e7 y0 y1 y2 y3 y4 y5 y6 y7 y8 y9 y10 y11 y12 y13 y14 y15 y16 y17 y18 y19 y20 y21 y22 y23 y24 y25 y26 y27 y28 y29 y30) = f11e8 y0 y2 y3 y4 y5 := hide (by kernel_rfl)
theorem f11n12 {R : Type} (call : CallF R) (N : Nat) (J : KF R) (e : Env) (σ : St) : runK Try.prog call N f11c12 f11a12 J e σ = runK Try.prog call N f11c13 f11a13 (seqC (fun K e σ => runK Try.prog call N f11c14 f11a14 K e σ) f11a12 J) e σ := runK_seq' (by kernel_rfl) (by kernel_rfl) (by kernel_rfl)
theorem f11r13_f11e8 {R : Type} (call : CallF R) (N : Nat) (y0 : Option (Nat × Nat)) (y1 : Nat) (y2 : Nat) (y3 : Int) (y4 : Int) (J : KF R) (σ : St) :
    runK Try.prog call N f11c13 f11a13 J (f11e8 y0 y1 y2 y3 y4) σ =
Option.bind y0 fun v0 =>
  Option.bind (St.ld σ (Prod.fst v0) (Prod.snd v0)) fun v1 =>
    Option.bind (AV.toSl (4 : Nat) v1) fun v2 =>
      if (0 : Int) ≤ y4 ∧ y4 < (↑(Sl.len v2) : Int) then
        Option.bind (Sl.o v2) fun v3 =>
          Option.bind
            (St.st σ (Prod.fst v3) (Prod.snd v3 + Int.toNat y4 * (4 : Nat))
              [AV.int IntKind.i64 (0 : Int), AV.int IntKind.i64 (0 : Int), AV.int IntKind.i64 (0 : Int), AV.str (ByteArray.mk #[])])
            fun v4 =>
            J Ex.normal
              (f11e9 y0 y1 y2 y3 y4 y0 (some v0) (some (Prod.fst v0, Prod.snd v0)) (Sl.o v2) (Sl.len v2) (Sl.cap v2) y4 (0 : Int) (0 : Int) (0 : Int)
                (ByteArray.mk #[]) (some (Prod.fst v3, Prod.snd v3 + Int.toNat y4 * (4 : Nat))))
              v4
      else none := hide (by kernel_rfl)
theorem f11z12_f11e9 (y0 : Option (Nat × Nat)) (y1 : Nat) (y2 : Nat) (y3 : Int) (y4 : Int) (y5 : Option (Nat × Nat)) (y6 : Option (Nat × Nat)) (y7 : Option (Nat × Nat)) (y8 : Option (Nat × Nat)) (y9 : Nat) (y10 : Option Nat) (y11 : Int) (y12 : Int) (y13 : Int) (y14 : Int) (y15 : ByteArray) (y16 : Option (Nat × Nat)) : Ann.clr f11a12 (f11e9 y0 y1 y2 y3 y4 y5 y6 y7 y8 y9 y10 y11 y12 y13 y14 y15 y16) = f11e8 y0 y1 y2 y3 y4 := hide (by kernel_rfl)
theorem f11r14_f11e8 {R : Type} (call : CallF R) (N : Nat) (y0 : Option (Nat × Nat)) (y1 : Nat) (y2 : Nat) (y3 : Int) (y4 : Int) (J : KF R) (σ : St) :
    runK Try.prog call N f11c14 f11a14 J (f11e8 y0 y1 y2 y3 y4) σ =
Option.bind y0 fun v0 =>
  Option.bind (St.ld σ (Prod.fst v0) (Prod.snd v0)) fun v1 =>
    Option.bind (AV.toSl (4 : Nat) v1) fun v2 =>
      Option.bind (Sl.sub (4 : Nat) (Sl.mk (Sl.o v2) (Sl.len v2) (Sl.cap v2)) none (some y4) none) fun v3 =>
        Option.bind y0 fun v4 =>
          Option.bind (St.st σ (Prod.fst v4) (Prod.snd v4) [AV.slice (Sl.o v3) (Sl.len v3) (Sl.cap v3) (4 : Nat)]) fun v5 =>
            J Ex.normal
              (f11e10 y0 y1 y2 y3 y4 y0 y0 (some v0) (some (Prod.fst v0, Prod.snd v0)) (Sl.o v2) (Sl.len v2) (Sl.cap v2) y4 (Sl.o v3) (Sl.len v3)
                (Sl.cap v3) (some v4) (some (Prod.fst v4, Prod.snd v4)))
              v5 := hide (by kernel_rfl)
theorem f11z8_f11e10 (y0 : Option (Nat × Nat)) (y1 : Nat) (y2 : Nat) (y3 : Int) (y4 : Int) (y5 : Option (Nat × Nat)) (y6 : Option (Nat × Nat)) (y7 : Option (Nat × Nat)) (y8 : Option (Nat × Nat)) (y9 : Option (Nat × Nat)) (y10 : Nat) (y11 : Option Nat) (y12 : Int) (y13 : Option (Nat × Nat)) (y14 : Nat) (y15 : Option Nat) (y16 : Option (Nat × Nat)) (y17 : Option (Nat × Nat)) : Ann.clr f11a8 (f11e10 y0 y1 y2 y3 y4 y5 y6 y7 y8 y9 y10 y11 y12 y13 y14 y15 y16 y17) = f11e11 y1 y2 y3 := hide (by kernel_rfl)
theorem f11n10 {R : Type} (call : CallF R) (N : Nat) (J : KF R) (e : Env) (σ : St) : runK Try.prog call N f11c10 f11a10 J e σ = J .normal e σ := runK_skip' (by kernel_rfl)
theorem f11z8_f11e6 (y0 : Option (Nat × Nat)) (y1 : Int) (y2 : Nat) (y3 : Nat) (y4 : Int) (y5 : Bool) : Ann.clr f11a8 (f11e6 y0 y1 y2 y3 y4 y5) = f11e11 y2 y3 y4 := hide (by kernel_rfl)
theorem f11z4_f11e11 (y0 : Nat) (y1 : Nat) (y2 : Int) : Ann.clr f11a4 (f11e11 y0 y1 y2) = f11e11 y0 y1 y2 := hide (by kernel_rfl)
theorem f11n6 {R : Type} (call : CallF R) (N : Nat) (J : KF R) (e : Env) (σ : St) : runK Try.prog call N f11c6 f11a6 J e σ = runK Try.prog call N f11c15 f11a15 (seqC (fun K e σ => runK Try.prog call N f11c16 f11a16 K e σ) f11a6 J) e σ := runK_seq' (by kernel_rfl) (by kernel_rfl) (by kernel_rfl)
theorem f11r15_f11e11 {R : Type} (call : CallF R) (N : Nat) (y0 : Nat) (y1 : Nat) (y2 : Int) (J : KF R) (σ : St) :
    runK Try.prog call N f11c15 f11a15 J (f11e11 y0 y1 y2) σ =
Option.bind (St.ld σ y1 (0 : Nat)) fun v0 =>
  Option.bind (AV.toInt IntKind.i64 v0) fun v1 =>
    Option.bind (St.ld σ y1 (1 : Nat)) fun v2 =>
      Option.bind (AV.toInt IntKind.i64 v2) fun v3 =>
        Option.bind (St.ld σ y1 (2 : Nat)) fun v4 =>
          Option.bind (AV.toInt IntKind.i64 v4) fun v5 =>
            Option.bind (St.ld σ y1 (3 : Nat)) fun v6 =>
              Option.bind (AV.toStr v6) fun v7 =>
                Option.bind (St.st σ y0 (0 : Nat) [AV.int IntKind.i64 v1, AV.int IntKind.i64 v3, AV.int IntKind.i64 v5, AV.str v7]) fun v8 =>
                  J Ex.normal (f11e12 y0 y2 y1 y2 v1 v3 v5 v7 y2) v8 := hide (by kernel_rfl)
theorem f11z6_f11e12 (y0 : Nat) (y1 : Int) (y2 : Nat) (y3 : Int) (y4 : Int) (y5 : Int) (y6 : Int) (y7 : ByteArray) (y8 : Int) : Ann.clr f11a6 (f11e12 y0 y1 y2 y3 y4 y5 y6 y7 y8) = f11e13 y0 y1 := hide (by kernel_rfl)
theorem f11y16_f11e13 {R : Type} (call : CallF R) (N : Nat) (y0 : Nat) (y1 : Int) (J : KF R) (σ : St) : runK Try.prog call N f11c16 f11a16 J (f11e13 y0 y1) σ = J .ret (f11e13 y0 y1) σ := runK_ret' (by kernel_rfl) (by kernel_rfl)
theorem f11b_f11e13_r {R : Type} (y0 : Nat) (y1 : Int) (σ : St) (K : AV → St → Option R) : bodyC Try.prog f11rs K (Ex.ret) (f11e13 y0 y1) σ =
Option.bind (St.ld σ y0 (0 : Nat)) fun v0 =>
  Option.bind (AV.toInt IntKind.i64 v0) fun v1 =>
    Option.bind (St.ld σ y0 (1 : Nat)) fun v2 =>
      Option.bind (AV.toInt IntKind.i64 v2) fun v3 =>
        Option.bind (St.ld σ y0 (2 : Nat)) fun v4 =>
          Option.bind (AV.toInt IntKind.i64 v4) fun v5 =>
            Option.bind (St.ld σ y0 (3 : Nat)) fun v6 =>
              Option.bind (AV.toStr v6) fun v7 =>
                K (AV.tuple [AV.agg [AV.int IntKind.i64 v1, AV.int IntKind.i64 v3, AV.int IntKind.i64 v5, AV.str v7], AV.int IntKind.i64 y1]) σ := hide (by kernel_rfl)
attribute [go_sem] f11_eq f11n0 f11r1_f11e0 f11z0_f11e1 f11n2 f11r3_f11e2 f11z2_f11e3 f11n4 f11n5 f11r7_f11e4 f11z5_f11e5 f11x8_f11e6 f11n9 f11r11_f11e6 f11z9_f11e7 f11n12 f11r13_f11e8 f11z12_f11e9 f11r14_f11e8 f11z8_f11e10 f11n10 f11z8_f11e6 f11z4_f11e11 f11n6 f11r15_f11e11 f11z6_f11e12 f11y16_f11e13 f11b_f11e13_r

noncomputable def f12rs : List ResultVar := [ResultVar.cell (4 : Nat) (30 : Nat), ResultVar.tmp (5 : Nat)]
noncomputable def f12c0 : Code := subCode [] (bodyOf Try.prog 12)
def f12a0 : Ann := subAnn [] ann12
noncomputable def f12c1 : Code := subCode [0] (bodyOf Try.prog 12)
def f12a1 : Ann := subAnn [0] ann12
noncomputable def f12c2 : Code := subCode [1] (bodyOf Try.prog 12)
def f12a2 : Ann := subAnn [1] ann12
noncomputable def f12c3 : Code := subCode [1, 0] (bodyOf Try.prog 12)
def f12a3 : Ann := subAnn [1, 0] ann12
noncomputable def f12c4 : Code := subCode [1, 1] (bodyOf Try.prog 12)
def f12a4 : Ann := subAnn [1, 1] ann12
noncomputable def f12c5 : Code := subCode [1, 0, 0] (bodyOf Try.prog 12)
def f12a5 : Ann := subAnn [1, 0, 0] ann12
noncomputable def f12c6 : Code := subCode [1, 0, 1] (bodyOf Try.prog 12)
def f12a6 : Ann := subAnn [1, 0, 1] ann12
noncomputable def f12c7 : Code := subCode [1, 0, 1, 0] (bodyOf Try.prog 12)
def f12a7 : Ann := subAnn [1, 0, 1, 0] ann12
noncomputable def f12c8 : Code := subCode [1, 0, 1, 1] (bodyOf Try.prog 12)
def f12a8 : Ann := subAnn [1, 0, 1, 1] ann12
noncomputable def f12c9 : Code := subCode [1, 0, 1, 0, 0] (bodyOf Try.prog 12)
def f12a9 : Ann := subAnn [1, 0, 1, 0, 0] ann12
noncomputable def f12c10 : Code := subCode [1, 0, 1, 0, 1] (bodyOf Try.prog 12)
def f12a10 : Ann := subAnn [1, 0, 1, 0, 1] ann12
noncomputable def f12c11 : Code := subCode [1, 1, 0] (bodyOf Try.prog 12)
def f12a11 : Ann := subAnn [1, 1, 0] ann12
noncomputable def f12c12 : Code := subCode [1, 1, 1] (bodyOf Try.prog 12)
def f12a12 : Ann := subAnn [1, 1, 1] ann12
def f12e0 (y0 : Option (Nat × Nat)) (y1 : Int) : Env := AV.ptr y0 :: AV.int IntKind.i64 y1 :: Env.sp 20 []
def f12e1 (y0 : Option (Nat × Nat)) (y1 : Int) (y2 : Nat) (y3 : Int) : Env := AV.ptr y0 :: AV.int IntKind.i64 y1 :: Env.sp 2 (AV.ptr (some (y2, (0 : Nat))) :: AV.int IntKind.i64 y3 :: Env.sp 16 [])
def f12e2 (y0 : Option (Nat × Nat)) (y1 : Int) (y2 : Nat) : Env := AV.ptr y0 :: AV.int IntKind.i64 y1 :: Env.sp 2 (AV.ptr (some (y2, (0 : Nat))) :: Env.sp 17 [])
def f12e3 (y0 : Option (Nat × Nat)) (y1 : Int) (y2 : Nat) (y3 : Int) (y4 : Bool) (y5 : Bool) (y6 : Bool) : Env := AV.ptr y0 :: AV.int IntKind.i64 y1 :: Env.sp 2 (AV.ptr (some (y2, (0 : Nat))) :: Env.sp 1 (AV.int IntKind.i64 y3 :: AV.bool y4 :: AV.bool y5 :: AV.tuple [] :: AV.tuple [] :: AV.tuple [] :: AV.tuple [] :: AV.bool y6 :: Env.sp 8 []))
def f12e4 (y0 : Option (Nat × Nat)) (y1 : Int) (y2 : Nat) (y3 : Int) (y4 : Bool) (y5 : Bool) (y6 : Int) (y7 : Option (Nat × Nat)) (y8 : Int) (y9 : Bool) (y10 : Bool) : Env := AV.ptr y0 :: AV.int IntKind.i64 y1 :: Env.sp 2 (AV.ptr (some (y2, (0 : Nat))) :: Env.sp 1 (AV.int IntKind.i64 y3 :: AV.bool y4 :: AV.bool y5 :: AV.int IntKind.i64 y6 :: AV.ptr y7 :: AV.int IntKind.i64 y8 :: AV.bool y9 :: AV.bool y10 :: Env.sp 8 []))
def f12e5 (y0 : Option (Nat × Nat)) (y1 : Int) (y2 : Nat) (y3 : Bool) : Env := AV.ptr y0 :: AV.int IntKind.i64 y1 :: Env.sp 2 (AV.ptr (some (y2, (0 : Nat))) :: Env.sp 8 (AV.bool y3 :: Env.sp 8 []))
def f12e6 (y0 : Option (Nat × Nat)) (y1 : Int) (y2 : Nat) (y3 : Int) (y4 : Bool) (y5 : Int) (y6 : Int) (y7 : Int) (y8 : ByteArray) : Env := AV.ptr y0 :: AV.int IntKind.i64 y1 :: Env.sp 2 (AV.ptr (some (y2, (0 : Nat))) :: AV.int IntKind.i64 y3 :: Env.sp 7 (AV.bool y4 :: AV.agg [AV.int IntKind.i64 y5, AV.int IntKind.i64 y6, AV.int IntKind.i64 y7, AV.str y8] :: Env.sp 7 []))
def f12e7 (y0 : Nat) (y1 : Int) : Env := Env.sp 4 (AV.ptr (some (y0, (0 : Nat))) :: AV.int IntKind.i64 y1 :: Env.sp 16 [])
def f12e8 (y0 : Option (Nat × Nat)) (y1 : Int) (y2 : Nat) (y3 : Int) (y4 : Option (Nat × Nat)) (y5 : Option (Nat × Nat)) (y6 : Option (Nat × Nat)) (y7 : Option (Nat × Nat)) (y8 : Nat) (y9 : Option Nat) (y10 : Int) (y11 : Option (Nat × Nat)) (y12 : Int) (y13 : Int) (y14 : Int) (y15 : ByteArray) : Env := AV.ptr y0 :: AV.int IntKind.i64 y1 :: Env.sp 2 (AV.ptr (some (y2, (0 : Nat))) :: AV.int IntKind.i64 y3 :: Env.sp 9 (AV.ptr y4 :: AV.ptr y5 :: AV.ptr y6 :: AV.slice y7 y8 y9 (4 : Nat) :: AV.int IntKind.i64 y10 :: AV.ptr y11 :: AV.agg [AV.int IntKind.i64 y12, AV.int IntKind.i64 y13, AV.int IntKind.i64 y14, AV.str y15] :: []))

/- function 12 -/
theorem f12_eq {R : Type} (call : CallF R) (N : Nat) (y0 : Option (Nat × Nat)) (y1 : Int) (σ : St) (K : AV → St → Option R) :
    bodyK Try.prog call N ann 12 [AV.ptr y0, AV.int IntKind.i64 y1] σ K = runK Try.prog call N f12c0 f12a0 (bodyC Try.prog f12rs K) (f12e0 y0 y1) σ := bodyK_of (fn := ((Try.prog.funcs[12]?).get rfl)) (by kernel_rfl) (by kernel_rfl) (by kernel_rfl) (by kernel_rfl) (by kernel_rfl) (by kernel_rfl)
theorem f12n0 {R : Type} (call : CallF R) (N : Nat) (J : KF R) (e : Env) (σ : St) : runK Try.prog call N f12c0 f12a0 J e σ = runK Try.prog call N f12c1 f12a1 (seqC (fun K e σ => runK Try.prog call N f12c2 f12a2 K e σ) f12a0 J) e σ := runK_seq' (by kernel_rfl) (by kernel_rfl) (by kernel_rfl)
theorem f12r1_f12e0 {R : Type} (call : CallF R) (N : Nat) (y0 : Option (Nat × Nat)) (y1 : Int) (J : KF R) (σ : St) :
    runK Try.prog call N f12c1 f12a1 J (f12e0 y0 y1) σ =
J Ex.normal (f12e1 y0 y1 (St.next σ) (0 : Int))
  (St.new σ (Blk.cells [AV.int IntKind.i64 (0 : Int), AV.int IntKind.i64 (0 : Int), AV.int IntKind.i64 (0 : Int), AV.str (ByteArray.mk #[])] true)) := hide (by kernel_rfl)
theorem f12z0_f12e1 (y0 : Option (Nat × Nat)) (y1 : Int) (y2 : Nat) (y3 : Int) : Ann.clr f12a0 (f12e1 y0 y1 y2 y3) = f12e2 y0 y1 y2 := hide (by kernel_rfl)
theorem f12n2 {R : Type} (call : CallF R) (N : Nat) (J : KF R) (e : Env) (σ : St) : runK Try.prog call N f12c2 f12a2 J e σ = runK Try.prog call N f12c3 f12a3 (seqC (fun K e σ => runK Try.prog call N f12c4 f12a4 K e σ) f12a2 J) e σ := runK_seq' (by kernel_rfl) (by kernel_rfl) (by kernel_rfl)
theorem f12n3 {R : Type} (call : CallF R) (N : Nat) (J : KF R) (e : Env) (σ : St) : runK Try.prog call N f12c3 f12a3 J e σ = runK Try.prog call N f12c5 f12a5 (seqC (fun K e σ => runK Try.prog call N f12c6 f12a6 K e σ) f12a3 J) e σ := runK_seq' (by kernel_rfl) (by kernel_rfl) (by kernel_rfl)
theorem f12r5_f12e2 {R : Type} (call : CallF R) (N : Nat) (y0 : Option (Nat × Nat)) (y1 : Int) (y2 : Nat) (J : KF R) (σ : St) :
    runK Try.prog call N f12c5 f12a5 J (f12e2 y0 y1 y2) σ =
if decide (y1 < (0 : Int)) = true then J Ex.normal (f12e3 y0 y1 y2 y1 (decide (y1 < (0 : Int))) true true) σ
else
  call (13 : Nat) [AV.ptr y0] σ fun v0 v1 =>
    Option.bind (AV.toInt IntKind.i64 v0) fun v2 =>
      J Ex.normal (f12e4 y0 y1 y2 y1 (decide (y1 < (0 : Int))) false y1 y0 v2 (decide (y1 ≥ v2)) (decide (y1 ≥ v2))) v1 := hide (by kernel_rfl)
theorem f12z3_f12e3 (y0 : Option (Nat × Nat)) (y1 : Int) (y2 : Nat) (y3 : Int) (y4 : Bool) (y5 : Bool) (y6 : Bool) : Ann.clr f12a3 (f12e3 y0 y1 y2 y3 y4 y5 y6) = f12e5 y0 y1 y2 y6 := hide (by kernel_rfl)
theorem f12x6_f12e5 {R : Type} (call : CallF R) (N : Nat) (y0 : Option (Nat × Nat)) (y1 : Int) (y2 : Nat) (y3 : Bool) (J : KF R) (σ : St) : runK Try.prog call N f12c6 f12a6 J (f12e5 y0 y1 y2 y3) σ = if y3 = true then runK Try.prog call N f12c7 f12a7 (condC f12a6 J) (f12e5 y0 y1 y2 y3) σ else runK Try.prog call N f12c8 f12a8 (condC f12a6 J) (f12e5 y0 y1 y2 y3) σ := runK_cond' (o := Operand.tmp (13 : Nat)) (by kernel_rfl) (by kernel_rfl) (by kernel_rfl) (by kernel_rfl)
theorem f12n7 {R : Type} (call : CallF R) (N : Nat) (J : KF R) (e : Env) (σ : St) : runK Try.prog call N f12c7 f12a7 J e σ = runK Try.prog call N f12c9 f12a9 (seqC (fun K e σ => runK Try.prog call N f12c10 f12a10 K e σ) f12a7 J) e σ := runK_seq' (by kernel_rfl) (by kernel_rfl) (by kernel_rfl)
theorem f12r9_f12e5 {R : Type} (call : CallF R) (N : Nat) (y0 : Option (Nat × Nat)) (y1 : Int) (y2 : Nat) (y3 : Bool) (J : KF R) (σ : St) :
    runK Try.prog call N f12c9 f12a9 J (f12e5 y0 y1 y2 y3) σ =
Option.bind
  (St.st σ y2 (0 : Nat) [AV.int IntKind.i64 (0 : Int), AV.int IntKind.i64 (0 : Int), AV.int IntKind.i64 (0 : Int), AV.str (ByteArray.mk #[])])
  fun v0 => J Ex.normal (f12e6 y0 y1 y2 (6 : Int) y3 (0 : Int) (0 : Int) (0 : Int) (ByteArray.mk #[])) v0 := hide (by kernel_rfl)
theorem f12z7_f12e6 (y0 : Option (Nat × Nat)) (y1 : Int) (y2 : Nat) (y3 : Int) (y4 : Bool) (y5 : Int) (y6 : Int) (y7 : Int) (y8 : ByteArray) : Ann.clr f12a7 (f12e6 y0 y1 y2 y3 y4 y5 y6 y7 y8) = f12e7 y2 y3 := hide (by kernel_rfl)
theorem f12y10_f12e7 {R : Type} (call : CallF R) (N : Nat) (y0 : Nat) (y1 : Int) (J : KF R) (σ : St) : runK Try.prog call N f12c10 f12a10 J (f12e7 y0 y1) σ = J .ret (f12e7 y0 y1) σ := runK_ret' (by kernel_rfl) (by kernel_rfl)
theorem f12n8 {R : Type} (call : CallF R) (N : Nat) (J : KF R) (e : Env) (σ : St) : runK Try.prog call N f12c8 f12a8 J e σ = J .normal e σ := runK_skip' (by kernel_rfl)
theorem f12z6_f12e5 (y0 : Option (Nat × Nat)) (y1 : Int) (y2 : Nat) (y3 : Bool) : Ann.clr f12a6 (f12e5 y0 y1 y2 y3) = f12e2 y0 y1 y2 := hide (by kernel_rfl)
theorem f12z3_f12e4 (y0 : Option (Nat × Nat)) (y1 : Int) (y2 : Nat) (y3 : Int) (y4 : Bool) (y5 : Bool) (y6 : Int) (y7 : Option (Nat × Nat)) (y8 : Int) (y9 : Bool) (y10 : Bool) : Ann.clr f12a3 (f12e4 y0 y1 y2 y3 y4 y5 y6 y7 y8 y9 y10) = f12e5 y0 y1 y2 y10 := hide (by kernel_rfl)
theorem f12z2_f12e2 (y0 : Option (Nat × Nat)) (y1 : Int) (y2 : Nat) : Ann.clr f12a2 (f12e2 y0 y1 y2) = f12e2 y0 y1 y2 := hide (by kernel_rfl)
theorem f12n4 {R : Type} (call : CallF R) (N : Nat) (J : KF R) (e : Env) (σ : St) : runK Try.prog call N f12c4 f12a4 J e σ = runK Try.prog call N f12c11 f12a11 (seqC (fun K e σ => runK Try.prog call N f12c12 f12a12 K e σ) f12a4 J) e σ := runK_seq' (by kernel_rfl) (by kernel_rfl) (by kernel_rfl)
theorem f12r11_f12e2 {R : Type} (call : CallF R) (N : Nat) (y0 : Option (Nat × Nat)) (y1 : Int) (y2 : Nat) (J : KF R) (σ : St) :
    runK Try.prog call N f12c11 f12a11 J (f12e2 y0 y1 y2) σ =
Option.bind y0 fun v0 =>
  Option.bind (St.ld σ (Prod.fst v0) (Prod.snd v0)) fun v1 =>
    Option.bind (AV.toSl (4 : Nat) v1) fun v2 =>
      if (0 : Int) ≤ y1 ∧ y1 < (↑(Sl.len v2) : Int) then
        Option.bind (Sl.o v2) fun v3 =>
          Option.bind (St.ld σ (Prod.fst v3) (Prod.snd v3 + Int.toNat y1 * (4 : Nat))) fun v4 =>
            Option.bind (AV.toInt IntKind.i64 v4) fun v5 =>
              Option.bind (St.ld σ (Prod.fst v3) (Prod.snd v3 + Int.toNat y1 * (4 : Nat) + (1 : Nat))) fun v6 =>
                Option.bind (AV.toInt IntKind.i64 v6) fun v7 =>
                  Option.bind (St.ld σ (Prod.fst v3) (Prod.snd v3 + Int.toNat y1 * (4 : Nat) + (2 : Nat))) fun v8 =>
                    Option.bind (AV.toInt IntKind.i64 v8) fun v9 =>
                      Option.bind (St.ld σ (Prod.fst v3) (Prod.snd v3 + Int.toNat y1 * (4 : Nat) + (3 : Nat))) fun v10 =>
                        Option.bind (AV.toStr v10) fun v11 =>
                          Option.bind (St.st σ y2 (0 : Nat) [AV.int IntKind.i64 v5, AV.int IntKind.i64 v7, AV.int IntKind.i64 v9, AV.str v11])
                            fun v12 =>
                            J Ex.normal
                              (f12e8 y0 y1 y2 (0 : Int) y0 (some v0) (some (Prod.fst v0, Prod.snd v0)) (Sl.o v2) (Sl.len v2) (Sl.cap v2) y1
                                (some (Prod.fst v3, Prod.snd v3 + Int.toNat y1 * (4 : Nat))) v5 v7 v9 v11)
                              v12
      else none := hide (by kernel_rfl)
theorem f12z4_f12e8 (y0 : Option (Nat × Nat)) (y1 : Int) (y2 : Nat) (y3 : Int) (y4 : Option (Nat × Nat)) (y5 : Option (Nat × Nat)) (y6 : Option (Nat × Nat)) (y7 : Option (Nat × Nat)) (y8 : Nat) (y9 : Option Nat) (y10 : Int) (y11 : Option (Nat × Nat)) (y12 : Int) (y13 : Int) (y14 : Int) (y15 : ByteArray) : Ann.clr f12a4 (f12e8 y0 y1 y2 y3 y4 y5 y6 y7 y8 y9 y10 y11 y12 y13 y14 y15) = f12e7 y2 y3 := hide (by kernel_rfl)
theorem f12y12_f12e7 {R : Type} (call : CallF R) (N : Nat) (y0 : Nat) (y1 : Int) (J : KF R) (σ : St) : runK Try.prog call N f12c12 f12a12 J (f12e7 y0 y1) σ = J .ret (f12e7 y0 y1) σ := runK_ret' (by kernel_rfl) (by kernel_rfl)
theorem f12b_f12e7_r {R : Type} (y0 : Nat) (y1 : Int) (σ : St) (K : AV → St → Option R) : bodyC Try.prog f12rs K (Ex.ret) (f12e7 y0 y1) σ =
Option.bind (St.ld σ y0 (0 : Nat)) fun v0 =>
  Option.bind (AV.toInt IntKind.i64 v0) fun v1 =>
    Option.bind (St.ld σ y0 (1 : Nat)) fun v2 =>
      Option.bind (AV.toInt IntKind.i64 v2) fun v3 =>
        Option.bind (St.ld σ y0 (2 : Nat)) fun v4 =>
          Option.bind (AV.toInt IntKind.i64 v4) fun v5 =>
            Option.bind (St.ld σ y0 (3 : Nat)) fun v6 =>
              Option.bind (AV.toStr v6) fun v7 =>
                K (AV.tuple [AV.agg [AV.int IntKind.i64 v1, AV.int IntKind.i64 v3, AV.int IntKind.i64 v5, AV.str v7], AV.int IntKind.i64 y1]) σ := hide (by kernel_rfl)
attribute [go_sem] f12_eq f12n0 f12r1_f12e0 f12z0_f12e1 f12n2 f12n3 f12r5_f12e2 f12z3_f12e3 f12x6_f12e5 f12n7 f12r9_f12e5 f12z7_f12e6 f12y10_f12e7 f12n8 f12z6_f12e5 f12z3_f12e4 f12z2_f12e2 f12n4 f12r11_f12e2 f12z4_f12e8 f12y12_f12e7 f12b_f12e7_r

noncomputable def f13rs : List ResultVar := [ResultVar.tmp (2 : Nat)]
noncomputable def f13c0 : Code := subCode [] (bodyOf Try.prog 13)
def f13a0 : Ann := subAnn [] ann13
noncomputable def f13c1 : Code := subCode [0] (bodyOf Try.prog 13)
def f13a1 : Ann := subAnn [0] ann13
noncomputable def f13c2 : Code := subCode [1] (bodyOf Try.prog 13)
def f13a2 : Ann := subAnn [1] ann13
noncomputable def f13c3 : Code := subCode [1, 0] (bodyOf Try.prog 13)
def f13a3 : Ann := subAnn [1, 0] ann13
noncomputable def f13c4 : Code := subCode [1, 1] (bodyOf Try.prog 13)
def f13a4 : Ann := subAnn [1, 1] ann13
noncomputable def f13c5 : Code := subCode [1, 0, 0] (bodyOf Try.prog 13)
def f13a5 : Ann := subAnn [1, 0, 0] ann13
noncomputable def f13c6 : Code := subCode [1, 0, 1] (bodyOf Try.prog 13)
def f13a6 : Ann := subAnn [1, 0, 1] ann13
noncomputable def f13c7 : Code := subCode [1, 0, 1, 0] (bodyOf Try.prog 13)
def f13a7 : Ann := subAnn [1, 0, 1, 0] ann13
noncomputable def f13c8 : Code := subCode [1, 0, 1, 1] (bodyOf Try.prog 13)
def f13a8 : Ann := subAnn [1, 0, 1, 1] ann13
noncomputable def f13c9 : Code := subCode [1, 0, 1, 0, 0] (bodyOf Try.prog 13)
def f13a9 : Ann := subAnn [1, 0, 1, 0, 0] ann13
noncomputable def f13c10 : Code := subCode [1, 0, 1, 0, 1] (bodyOf Try.prog 13)
def f13a10 : Ann := subAnn [1, 0, 1, 0, 1] ann13
noncomputable def f13c11 : Code := subCode [1, 1, 0] (bodyOf Try.prog 13)
def f13a11 : Ann := subAnn [1, 1, 0] ann13
noncomputable def f13c12 : Code := subCode [1, 1, 1] (bodyOf Try.prog 13)
def f13a12 : Ann := subAnn [1, 1, 1] ann13
def f13e0 (y0 : Option (Nat × Nat)) : Env := AV.ptr y0 :: Env.sp 9 []
def f13e1 (y0 : Option (Nat × Nat)) (y1 : Int) : Env := AV.ptr y0 :: Env.sp 1 (AV.int IntKind.i64 y1 :: Env.sp 7 [])
def f13e2 (y0 : Option (Nat × Nat)) (y1 : Option (Nat × Nat)) (y2 : Bool) : Env := AV.ptr y0 :: Env.sp 2 (AV.ptr y1 :: AV.bool y2 :: Env.sp 5 [])
def f13e3 (y0 : Option (Nat × Nat)) (y1 : Bool) : Env := AV.ptr y0 :: Env.sp 3 (AV.bool y1 :: Env.sp 5 [])
def f13e4 (y0 : Option (Nat × Nat)) (y1 : Int) (y2 : Bool) : Env := AV.ptr y0 :: Env.sp 1 (AV.int IntKind.i64 y1 :: Env.sp 1 (AV.bool y2 :: Env.sp 5 []))
def f13e5 (y0 : Int) : Env := Env.sp 2 (AV.int IntKind.i64 y0 :: Env.sp 7 [])
def f13e6 (y0 : Option (Nat × Nat)) (y1 : Int) (y2 : Option (Nat × Nat)) (y3 : Option (Nat × Nat)) (y4 : Option (Nat × Nat)) (y5 : Option (Nat × Nat)) (y6 : Nat) (y7 : Option Nat) (y8 : Int) : Env := AV.ptr y0 :: Env.sp 1 (AV.int IntKind.i64 y1 :: Env.sp 2 (AV.ptr y2 :: AV.ptr y3 :: AV.ptr y4 :: AV.slice y5 y6 y7 (4 : Nat) :: AV.int IntKind.i64 y8 :: []))

/- function 13 -/
theorem f13_eq {R : Type} (call : CallF R) (N : Nat) (y0 : Option (Nat × Nat)) (σ : St) (K : AV → St → Option R) :
    bodyK Try.prog call N ann 13 [AV.ptr y0] σ K = runK Try.prog call N f13c0 f13a0 (bodyC Try.prog f13rs K) (f13e0 y0) σ := bodyK_of (fn := ((Try.prog.funcs[13]?).get rfl)) (by kernel_rfl) (by kernel_rfl) (by kernel_rfl) (by kernel_rfl) (by kernel_rfl) (by kernel_rfl)
theorem f13n0 {R : Type} (call : CallF R) (N : Nat) (J : KF R) (e : Env) (σ : St) : runK Try.prog call N f13c0 f13a0 J e σ = runK Try.prog call N f13c1 f13a1 (seqC (fun K e σ => runK Try.prog call N f13c2 f13a2 K e σ) f13a0 J) e σ := runK_seq' (by kernel_rfl) (by kernel_rfl) (by kernel_rfl)
theorem f13r1_f13e0 {R : Type} (call : CallF R) (N : Nat) (y0 : Option (Nat × Nat)) (J : KF R) (σ : St) :
    runK Try.prog call N f13c1 f13a1 J (f13e0 y0) σ =
J Ex.normal (f13e1 y0 (0 : Int)) σ := hide (by kernel_rfl)
theorem f13z0_f13e1 (y0 : Option (Nat × Nat)) (y1 : Int) : Ann.clr f13a0 (f13e1 y0 y1) = f13e0 y0 := hide (by kernel_rfl)
theorem f13n2 {R : Type} (call : CallF R) (N : Nat) (J : KF R) (e : Env) (σ : St) : runK Try.prog call N f13c2 f13a2 J e σ = runK Try.prog call N f13c3 f13a3 (seqC (fun K e σ => runK Try.prog call N f13c4 f13a4 K e σ) f13a2 J) e σ := runK_seq' (by kernel_rfl) (by kernel_rfl) (by kernel_rfl)
theorem f13n3 {R : Type} (call : CallF R) (N : Nat) (J : KF R) (e : Env) (σ : St) : runK Try.prog call N f13c3 f13a3 J e σ = runK Try.prog call N f13c5 f13a5 (seqC (fun K e σ => runK Try.prog call N f13c6 f13a6 K e σ) f13a3 J) e σ := runK_seq' (by kernel_rfl) (by kernel_rfl) (by kernel_rfl)
theorem f13r5_f13e0 {R : Type} (call : CallF R) (N : Nat) (y0 : Option (Nat × Nat)) (J : KF R) (σ : St) :
    runK Try.prog call N f13c5 f13a5 J (f13e0 y0) σ =
J Ex.normal (f13e2 y0 y0 (Option.isNone y0)) σ := hide (by kernel_rfl)
theorem f13z3_f13e2 (y0 : Option (Nat × Nat)) (y1 : Option (Nat × Nat)) (y2 : Bool) : Ann.clr f13a3 (f13e2 y0 y1 y2) = f13e3 y0 y2 := hide (by kernel_rfl)
theorem f13x6_f13e3 {R : Type} (call : CallF R) (N : Nat) (y0 : Option (Nat × Nat)) (y1 : Bool) (J : KF R) (σ : St) : runK Try.prog call N f13c6 f13a6 J (f13e3 y0 y1) σ = if y1 = true then runK Try.prog call N f13c7 f13a7 (condC f13a6 J) (f13e3 y0 y1) σ else runK Try.prog call N f13c8 f13a8 (condC f13a6 J) (f13e3 y0 y1) σ := runK_cond' (o := Operand.tmp (4 : Nat)) (by kernel_rfl) (by kernel_rfl) (by kernel_rfl) (by kernel_rfl)
theorem f13n7 {R : Type} (call : CallF R) (N : Nat) (J : KF R) (e : Env) (σ : St) : runK Try.prog call N f13c7 f13a7 J e σ = runK Try.prog call N f13c9 f13a9 (seqC (fun K e σ => runK Try.prog call N f13c10 f13a10 K e σ) f13a7 J) e σ := runK_seq' (by kernel_rfl) (by kernel_rfl) (by kernel_rfl)
theorem f13r9_f13e3 {R : Type} (call : CallF R) (N : Nat) (y0 : Option (Nat × Nat)) (y1 : Bool) (J : KF R) (σ : St) :
    runK Try.prog call N f13c9 f13a9 J (f13e3 y0 y1) σ =
J Ex.normal (f13e4 y0 (0 : Int) y1) σ := hide (by kernel_rfl)
theorem f13z7_f13e4 (y0 : Option (Nat × Nat)) (y1 : Int) (y2 : Bool) : Ann.clr f13a7 (f13e4 y0 y1 y2) = f13e5 y1 := hide (by kernel_rfl)
theorem f13y10_f13e5 {R : Type} (call : CallF R) (N : Nat) (y0 : Int) (J : KF R) (σ : St) : runK Try.prog call N f13c10 f13a10 J (f13e5 y0) σ = J .ret (f13e5 y0) σ := runK_ret' (by kernel_rfl) (by kernel_rfl)
theorem f13n8 {R : Type} (call : CallF R) (N : Nat) (J : KF R) (e : Env) (σ : St) : runK Try.prog call N f13c8 f13a8 J e σ = J .normal e σ := runK_skip' (by kernel_rfl)
theorem f13z6_f13e3 (y0 : Option (Nat × Nat)) (y1 : Bool) : Ann.clr f13a6 (f13e3 y0 y1) = f13e0 y0 := hide (by kernel_rfl)
theorem f13z2_f13e0 (y0 : Option (Nat × Nat)) : Ann.clr f13a2 (f13e0 y0) = f13e0 y0 := hide (by kernel_rfl)
theorem f13n4 {R : Type} (call : CallF R) (N : Nat) (J : KF R) (e : Env) (σ : St) : runK Try.prog call N f13c4 f13a4 J e σ = runK Try.prog call N f13c11 f13a11 (seqC (fun K e σ => runK Try.prog call N f13c12 f13a12 K e σ) f13a4 J) e σ := runK_seq' (by kernel_rfl) (by kernel_rfl) (by kernel_rfl)
theorem f13r11_f13e0 {R : Type} (call : CallF R) (N : Nat) (y0 : Option (Nat × Nat)) (J : KF R) (σ : St) :
    runK Try.prog call N f13c11 f13a11 J (f13e0 y0) σ =
Option.bind y0 fun v0 =>
  Option.bind (St.ld σ (Prod.fst v0) (Prod.snd v0)) fun v1 =>
    Option.bind (AV.toSl (4 : Nat) v1) fun v2 =>
      J Ex.normal
        (f13e6 y0 (↑(Sl.len v2) : Int) y0 (some v0) (some (Prod.fst v0, Prod.snd v0)) (Sl.o v2) (Sl.len v2) (Sl.cap v2) (↑(Sl.len v2) : Int)) σ := hide (by kernel_rfl)
theorem f13z4_f13e6 (y0 : Option (Nat × Nat)) (y1 : Int) (y2 : Option (Nat × Nat)) (y3 : Option (Nat × Nat)) (y4 : Option (Nat × Nat)) (y5 : Option (Nat × Nat)) (y6 : Nat) (y7 : Option Nat) (y8 : Int) : Ann.clr f13a4 (f13e6 y0 y1 y2 y3 y4 y5 y6 y7 y8) = f13e5 y1 := hide (by kernel_rfl)
theorem f13y12_f13e5 {R : Type} (call : CallF R) (N : Nat) (y0 : Int) (J : KF R) (σ : St) : runK Try.prog call N f13c12 f13a12 J (f13e5 y0) σ = J .ret (f13e5 y0) σ := runK_ret' (by kernel_rfl) (by kernel_rfl)
theorem f13b_f13e5_r {R : Type} (y0 : Int) (σ : St) (K : AV → St → Option R) : bodyC Try.prog f13rs K (Ex.ret) (f13e5 y0) σ =
K (AV.int IntKind.i64 y0) σ := hide (by kernel_rfl)
attribute [go_sem] f13_eq f13n0 f13r1_f13e0 f13z0_f13e1 f13n2 f13n3 f13r5_f13e0 f13z3_f13e2 f13x6_f13e3 f13n7 f13r9_f13e3 f13z7_f13e4 f13y10_f13e5 f13n8 f13z6_f13e3 f13z2_f13e0 f13n4 f13r11_f13e0 f13z4_f13e6 f13y12_f13e5 f13b_f13e5_r

noncomputable def f14rs : List ResultVar := [ResultVar.tmp (4 : Nat)]
noncomputable def f14c0 : Code := subCode [] (bodyOf Try.prog 14)
def f14a0 : Ann := subAnn [] ann14
noncomputable def f14c1 : Code := subCode [0] (bodyOf Try.prog 14)
def f14a1 : Ann := subAnn [0] ann14
noncomputable def f14c2 : Code := subCode [1] (bodyOf Try.prog 14)
def f14a2 : Ann := subAnn [1] ann14
noncomputable def f14c3 : Code := subCode [1, 0] (bodyOf Try.prog 14)
def f14a3 : Ann := subAnn [1, 0] ann14
noncomputable def f14c4 : Code := subCode [1, 1] (bodyOf Try.prog 14)
def f14a4 : Ann := subAnn [1, 1] ann14
noncomputable def f14c5 : Code := subCode [1, 1, 0] (bodyOf Try.prog 14)
def f14a5 : Ann := subAnn [1, 1, 0] ann14
noncomputable def f14c6 : Code := subCode [1, 1, 1] (bodyOf Try.prog 14)
def f14a6 : Ann := subAnn [1, 1, 1] ann14
noncomputable def f14c7 : Code := subCode [1, 1, 0, 0] (bodyOf Try.prog 14)
def f14a7 : Ann := subAnn [1, 1, 0, 0] ann14
noncomputable def f14c8 : Code := subCode [1, 1, 0, 1] (bodyOf Try.prog 14)
def f14a8 : Ann := subAnn [1, 1, 0, 1] ann14
noncomputable def f14c9 : Code := subCode [1, 1, 0, 1, 0] (bodyOf Try.prog 14)
def f14a9 : Ann := subAnn [1, 1, 0, 1, 0] ann14
noncomputable def f14c10 : Code := subCode [1, 1, 0, 1, 1] (bodyOf Try.prog 14)
def f14a10 : Ann := subAnn [1, 1, 0, 1, 1] ann14
noncomputable def f14c11 : Code := subCode [1, 1, 0, 1, 0, 0] (bodyOf Try.prog 14)
def f14a11 : Ann := subAnn [1, 1, 0, 1, 0, 0] ann14
noncomputable def f14c12 : Code := subCode [1, 1, 0, 1, 0, 1] (bodyOf Try.prog 14)
def f14a12 : Ann := subAnn [1, 1, 0, 1, 0, 1] ann14
noncomputable def f14c13 : Code := subCode [1, 1, 1, 0] (bodyOf Try.prog 14)
def f14a13 : Ann := subAnn [1, 1, 1, 0] ann14
noncomputable def f14c14 : Code := subCode [1, 1, 1, 1] (bodyOf Try.prog 14)
def f14a14 : Ann := subAnn [1, 1, 1, 1] ann14
def f14e0 (y0 : Option (Nat × Nat)) (y1 : Int) : Env := AV.ptr y0 :: AV.int IntKind.i64 y1 :: Env.sp 17 []
def f14e1 (y0 : Option (Nat × Nat)) (y1 : Int) (y2 : Int) : Env := AV.ptr y0 :: AV.int IntKind.i64 y1 :: Env.sp 2 (AV.int IntKind.i64 y2 :: Env.sp 14 [])
def f14e2 (y0 : Option (Nat × Nat)) (y1 : Int) (y2 : Nat) (y3 : Int) (y4 : Int) (y5 : Int) (y6 : Int) (y7 : ByteArray) (y8 : Int) (y9 : Option (Nat × Nat)) (y10 : Int) (y11 : Int) (y12 : Int) (y13 : Int) (y14 : ByteArray) (y15 : Int) (y16 : Int) (y17 : Int) (y18 : Int) (y19 : ByteArray) (y20 : Int) : Env := AV.ptr y0 :: AV.int IntKind.i64 y1 :: Env.sp 3 (AV.ptr (some (y2, (0 : Nat))) :: AV.int IntKind.i64 y3 :: AV.tuple [AV.agg [AV.int IntKind.i64 y4, AV.int IntKind.i64 y5, AV.int IntKind.i64 y6, AV.str y7], AV.int IntKind.i64 y8] :: AV.ptr y9 :: AV.int IntKind.i64 y10 :: AV.tuple [AV.agg [AV.int IntKind.i64 y11, AV.int IntKind.i64 y12, AV.int IntKind.i64 y13, AV.str y14], AV.int IntKind.i64 y15] :: AV.agg [AV.int IntKind.i64 y16, AV.int IntKind.i64 y17, AV.int IntKind.i64 y18, AV.str y19] :: AV.int IntKind.i64 y20 :: Env.sp 6 [])
def f14e3 (y0 : Option (Nat × Nat)) (y1 : Nat) (y2 : Int) : Env := AV.ptr y0 :: Env.sp 4 (AV.ptr (some (y1, (0 : Nat))) :: AV.int IntKind.i64 y2 :: Env.sp 12 [])
def f14e4 (y0 : Option (Nat × Nat)) (y1 : Nat) (y2 : Int) (y3 : Int) (y4 : Bool) : Env := AV.ptr y0 :: Env.sp 4 (AV.ptr (some (y1, (0 : Nat))) :: AV.int IntKind.i64 y2 :: Env.sp 6 (AV.int IntKind.i64 y3 :: AV.bool y4 :: Env.sp 4 []))
def f14e5 (y0 : Option (Nat × Nat)) (y1 : Nat) (y2 : Int) (y3 : Bool) : Env := AV.ptr y0 :: Env.sp 4 (AV.ptr (some (y1, (0 : Nat))) :: AV.int IntKind.i64 y2 :: Env.sp 7 (AV.bool y3 :: Env.sp 4 []))
def f14e6 (y0 : Option (Nat × Nat)) (y1 : Int) (y2 : Nat) (y3 : Int) (y4 : Bool) (y5 : Int) : Env := AV.ptr y0 :: Env.sp 3 (AV.int IntKind.i64 y1 :: AV.ptr (some (y2, (0 : Nat))) :: AV.int IntKind.i64 y3 :: Env.sp 7 (AV.bool y4 :: AV.int IntKind.i64 y5 :: Env.sp 3 []))
def f14e7 (y0 : Int) : Env := Env.sp 4 (AV.int IntKind.i64 y0 :: Env.sp 14 [])
def f14e8 (y0 : Option (Nat × Nat)) (y1 : Nat) : Env := AV.ptr y0 :: Env.sp 4 (AV.ptr (some (y1, (0 : Nat))) :: Env.sp 13 [])
def f14e9 (y0 : Option (Nat × Nat)) (y1 : Int) (y2 : Nat) (y3 : Option (Nat × Nat)) (y4 : Int) (y5 : Int) (y6 : Int) (y7 : ByteArray) (y8 : Int) : Env := AV.ptr y0 :: Env.sp 3 (AV.int IntKind.i64 y1 :: AV.ptr (some (y2, (0 : Nat))) :: Env.sp 10 (AV.ptr y3 :: AV.agg [AV.int IntKind.i64 y4, AV.int IntKind.i64 y5, AV.int IntKind.i64 y6, AV.str y7] :: AV.int IntKind.i64 y8 :: []))

/- function 14 -/
theorem f14_eq {R : Type} (call : CallF R) (N : Nat) (y0 : Option (Nat × Nat)) (y1 : Int) (σ : St) (K : AV → St → Option R) :
    bodyK Try.prog call N ann 14 [AV.ptr y0, AV.int IntKind.i64 y1] σ K = runK Try.prog call N f14c0 f14a0 (bodyC Try.prog f14rs K) (f14e0 y0 y1) σ := bodyK_of (fn := ((Try.prog.funcs[14]?).get rfl)) (by kernel_rfl) (by kernel_rfl) (by kernel_rfl) (by kernel_rfl) (by kernel_rfl) (by kernel_rfl)
theorem f14n0 {R : Type} (call : CallF R) (N : Nat) (J : KF R) (e : Env) (σ : St) : runK Try.prog call N f14c0 f14a0 J e σ = runK Try.prog call N f14c1 f14a1 (seqC (fun K e σ => runK Try.prog call N f14c2 f14a2 K e σ) f14a0 J) e σ := runK_seq' (by kernel_rfl) (by kernel_rfl) (by kernel_rfl)
theorem f14r1_f14e0 {R : Type} (call : CallF R) (N : Nat) (y0 : Option (Nat × Nat)) (y1 : Int) (J : KF R) (σ : St) :
    runK Try.prog call N f14c1 f14a1 J (f14e0 y0 y1) σ =
J Ex.normal (f14e1 y0 y1 (0 : Int)) σ := hide (by kernel_rfl)
theorem f14z0_f14e1 (y0 : Option (Nat × Nat)) (y1 : Int) (y2 : Int) : Ann.clr f14a0 (f14e1 y0 y1 y2) = f14e0 y0 y1 := hide (by kernel_rfl)
theorem f14n2 {R : Type} (call : CallF R) (N : Nat) (J : KF R) (e : Env) (σ : St) : runK Try.prog call N f14c2 f14a2 J e σ = runK Try.prog call N f14c3 f14a3 (seqC (fun K e σ => runK Try.prog call N f14c4 f14a4 K e σ) f14a2 J) e σ := runK_seq' (by kernel_rfl) (by kernel_rfl) (by kernel_rfl)
theorem f14r3_f14e0 {R : Type} (call : CallF R) (N : Nat) (y0 : Option (Nat × Nat)) (y1 : Int) (J : KF R) (σ : St) :
    runK Try.prog call N f14c3 f14a3 J (f14e0 y0 y1) σ =
call (12 : Nat) [AV.ptr y0, AV.int IntKind.i64 y1] σ fun v0 v1 =>
  Option.bind (AV.toTuple v0) fun v2 =>
    if List.length v2 = (2 : Nat) then
      Option.bind (List.head? v2) fun v3 =>
        Option.bind (AV.toAgg v3) fun v4 =>
          if List.length v4 = (4 : Nat) then
            Option.bind (List.head? v4) fun v5 =>
              Option.bind (AV.toInt IntKind.i64 v5) fun v6 =>
                Option.bind (List.head? (List.tail v4)) fun v7 =>
                  Option.bind (AV.toInt IntKind.i64 v7) fun v8 =>
                    Option.bind (List.head? (List.tail (List.tail v4))) fun v9 =>
                      Option.bind (AV.toInt IntKind.i64 v9) fun v10 =>
                        Option.bind (List.head? (List.tail (List.tail (List.tail v4)))) fun v11 =>
                          Option.bind (AV.toStr v11) fun v12 =>
                            Option.bind (List.head? (List.tail v2)) fun v13 =>
                              Option.bind (AV.toInt IntKind.i64 v13) fun v14 =>
                                Option.bind
                                  (St.st
                                    (St.new v1
                                      (Blk.cells
                                        [AV.int IntKind.i64 (0 : Int), AV.int IntKind.i64 (0 : Int), AV.int IntKind.i64 (0 : Int),
                                          AV.str (ByteArray.mk #[])]
                                        true))
                                    (St.next v1) (0 : Nat) [AV.int IntKind.i64 v6, AV.int IntKind.i64 v8, AV.int IntKind.i64 v10, AV.str v12])
                                  fun v15 =>
                                  J Ex.normal (f14e2 y0 y1 (St.next v1) v14 v6 v8 v10 v12 v14 y0 y1 v6 v8 v10 v12 v14 v6 v8 v10 v12 v14) v15
          else none
    else none := hide (by kernel_rfl)
theorem f14z2_f14e2 (y0 : Option (Nat × Nat)) (y1 : Int) (y2 : Nat) (y3 : Int) (y4 : Int) (y5 : Int) (y6 : Int) (y7 : ByteArray) (y8 : Int) (y9 : Option (Nat × Nat)) (y10 : Int) (y11 : Int) (y12 : Int) (y13 : Int) (y14 : ByteArray) (y15 : Int) (y16 : Int) (y17 : Int) (y18 : Int) (y19 : ByteArray) (y20 : Int) : Ann.clr f14a2 (f14e2 y0 y1 y2 y3 y4 y5 y6 y7 y8 y9 y10 y11 y12 y13 y14 y15 y16 y17 y18 y19 y20) = f14e3 y0 y2 y3 := hide (by kernel_rfl)
theorem f14n4 {R : Type} (call : CallF R) (N : Nat) (J : KF R) (e : Env) (σ : St) : runK Try.prog call N f14c4 f14a4 J e σ = runK Try.prog call N f14c5 f14a5 (seqC (fun K e σ => runK Try.prog call N f14c6 f14a6 K e σ) f14a4 J) e σ := runK_seq' (by kernel_rfl) (by kernel_rfl) (by kernel_rfl)
theorem f14n5 {R : Type} (call : CallF R) (N : Nat) (J : KF R) (e : Env) (σ : St) : runK Try.prog call N f14c5 f14a5 J e σ = runK Try.prog call N f14c7 f14a7 (seqC (fun K e σ => runK Try.prog call N f14c8 f14a8 K e σ) f14a5 J) e σ := runK_seq' (by kernel_rfl) (by kernel_rfl) (by kernel_rfl)
theorem f14r7_f14e3 {R : Type} (call : CallF R) (N : Nat) (y0 : Option (Nat × Nat)) (y1 : Nat) (y2 : Int) (J : KF R) (σ : St) :
    runK Try.prog call N f14c7 f14a7 J (f14e3 y0 y1 y2) σ =
J Ex.normal (f14e4 y0 y1 y2 y2 (y2 != (0 : Int))) σ := hide (by kernel_rfl)
theorem f14z5_f14e4 (y0 : Option (Nat × Nat)) (y1 : Nat) (y2 : Int) (y3 : Int) (y4 : Bool) : Ann.clr f14a5 (f14e4 y0 y1 y2 y3 y4) = f14e5 y0 y1 y2 y4 := hide (by kernel_rfl)
theorem f14x8_f14e5 {R : Type} (call : CallF R) (N : Nat) (y0 : Option (Nat × Nat)) (y1 : Nat) (y2 : Int) (y3 : Bool) (J : KF R) (σ : St) : runK Try.prog call N f14c8 f14a8 J (f14e5 y0 y1 y2 y3) σ = if y3 = true then runK Try.prog call N f14c9 f14a9 (condC f14a8 J) (f14e5 y0 y1 y2 y3) σ else runK Try.prog call N f14c10 f14a10 (condC f14a8 J) (f14e5 y0 y1 y2 y3) σ := runK_cond' (o := Operand.tmp (14 : Nat)) (by kernel_rfl) (by kernel_rfl) (by kernel_rfl) (by kernel_rfl)
theorem f14n9 {R : Type} (call : CallF R) (N : Nat) (J : KF R) (e : Env) (σ : St) : runK Try.prog call N f14c9 f14a9 J e σ = runK Try.prog call N f14c11 f14a11 (seqC (fun K e σ => runK Try.prog call N f14c12 f14a12 K e σ) f14a9 J) e σ := runK_seq' (by kernel_rfl) (by kernel_rfl) (by kernel_rfl)
theorem f14r11_f14e5 {R : Type} (call : CallF R) (N : Nat) (y0 : Option (Nat × Nat)) (y1 : Nat) (y2 : Int) (y3 : Bool) (J : KF R) (σ : St) :
    runK Try.prog call N f14c11 f14a11 J (f14e5 y0 y1 y2 y3) σ =
J Ex.normal (f14e6 y0 y2 y1 y2 y3 y2) σ := hide (by kernel_rfl)
theorem f14z9_f14e6 (y0 : Option (Nat × Nat)) (y1 : Int) (y2 : Nat) (y3 : Int) (y4 : Bool) (y5 : Int) : Ann.clr f14a9 (f14e6 y0 y1 y2 y3 y4 y5) = f14e7 y1 := hide (by kernel_rfl)
theorem f14y12_f14e7 {R : Type} (call : CallF R) (N : Nat) (y0 : Int) (J : KF R) (σ : St) : runK Try.prog call N f14c12 f14a12 J (f14e7 y0) σ = J .ret (f14e7 y0) σ := runK_ret' (by kernel_rfl) (by kernel_rfl)
theorem f14n10 {R : Type} (call : CallF R) (N : Nat) (J : KF R) (e : Env) (σ : St) : runK Try.prog call N f14c10 f14a10 J e σ = J .normal e σ := runK_skip' (by kernel_rfl)
theorem f14z8_f14e5 (y0 : Option (Nat × Nat)) (y1 : Nat) (y2 : Int) (y3 : Bool) : Ann.clr f14a8 (f14e5 y0 y1 y2 y3) = f14e8 y0 y1 := hide (by kernel_rfl)
theorem f14z4_f14e8 (y0 : Option (Nat × Nat)) (y1 : Nat) : Ann.clr f14a4 (f14e8 y0 y1) = f14e8 y0 y1 := hide (by kernel_rfl)
theorem f14n6 {R : Type} (call : CallF R) (N : Nat) (J : KF R) (e : Env) (σ : St) : runK Try.prog call N f14c6 f14a6 J e σ = runK Try.prog call N f14c13 f14a13 (seqC (fun K e σ => runK Try.prog call N f14c14 f14a14 K e σ) f14a6 J) e σ := runK_seq' (by kernel_rfl) (by kernel_rfl) (by kernel_rfl)
theorem f14r13_f14e8 {R : Type} (call : CallF R) (N : Nat) (y0 : Option (Nat × Nat)) (y1 : Nat) (J : KF R) (σ : St) :
    runK Try.prog call N f14c13 f14a13 J (f14e8 y0 y1) σ =
Option.bind (St.ld σ y1 (0 : Nat)) fun v0 =>
  Option.bind (AV.toInt IntKind.i64 v0) fun v1 =>
    Option.bind (St.ld σ y1 (1 : Nat)) fun v2 =>
      Option.bind (AV.toInt IntKind.i64 v2) fun v3 =>
        Option.bind (St.ld σ y1 (2 : Nat)) fun v4 =>
          Option.bind (AV.toInt IntKind.i64 v4) fun v5 =>
            Option.bind (St.ld σ y1 (3 : Nat)) fun v6 =>
              Option.bind (AV.toStr v6) fun v7 =>
                call (10 : Nat) [AV.ptr y0, AV.agg [AV.int IntKind.i64 v1, AV.int IntKind.i64 v3, AV.int IntKind.i64 v5, AV.str v7]] σ fun v8 v9 =>
                  Option.bind (AV.toInt IntKind.i64 v8) fun v10 => J Ex.normal (f14e9 y0 v10 y1 y0 v1 v3 v5 v7 v10) v9 := hide (by kernel_rfl)
theorem f14z6_f14e9 (y0 : Option (Nat × Nat)) (y1 : Int) (y2 : Nat) (y3 : Option (Nat × Nat)) (y4 : Int) (y5 : Int) (y6 : Int) (y7 : ByteArray) (y8 : Int) : Ann.clr f14a6 (f14e9 y0 y1 y2 y3 y4 y5 y6 y7 y8) = f14e7 y1 := hide (by kernel_rfl)
theorem f14y14_f14e7 {R : Type} (call : CallF R) (N : Nat) (y0 : Int) (J : KF R) (σ : St) : runK Try.prog call N f14c14 f14a14 J (f14e7 y0) σ = J .ret (f14e7 y0) σ := runK_ret' (by kernel_rfl) (by kernel_rfl)
theorem f14b_f14e7_r {R : Type} (y0 : Int) (σ : St) (K : AV → St → Option R) : bodyC Try.prog f14rs K (Ex.ret) (f14e7 y0) σ =
K (AV.int IntKind.i64 y0) σ := hide (by kernel_rfl)
attribute [go_sem] f14_eq f14n0 f14r1_f14e0 f14z0_f14e1 f14n2 f14r3_f14e0 f14z2_f14e2 f14n4 f14n5 f14r7_f14e3 f14z5_f14e4 f14x8_f14e5 f14n9 f14r11_f14e5 f14z9_f14e6 f14y12_f14e7 f14n10 f14z8_f14e5 f14z4_f14e8 f14n6 f14r13_f14e8 f14z6_f14e9 f14y14_f14e7 f14b_f14e7_r

noncomputable def f15rs : List ResultVar := [ResultVar.tmp (2 : Nat)]
noncomputable def f15c0 : Code := subCode [] (bodyOf Try.prog 15)
def f15a0 : Ann := subAnn [] ann15
noncomputable def f15c1 : Code := subCode [0] (bodyOf Try.prog 15)
def f15a1 : Ann := subAnn [0] ann15
noncomputable def f15c2 : Code := subCode [1] (bodyOf Try.prog 15)
def f15a2 : Ann := subAnn [1] ann15
noncomputable def f15c3 : Code := subCode [1, 0] (bodyOf Try.prog 15)
def f15a3 : Ann := subAnn [1, 0] ann15
noncomputable def f15c4 : Code := subCode [1, 1] (bodyOf Try.prog 15)
def f15a4 : Ann := subAnn [1, 1] ann15
noncomputable def f15c5 : Code := subCode [1, 0, 0] (bodyOf Try.prog 15)
def f15a5 : Ann := subAnn [1, 0, 0] ann15
noncomputable def f15c6 : Code := subCode [1, 0, 1] (bodyOf Try.prog 15)
def f15a6 : Ann := subAnn [1, 0, 1] ann15
noncomputable def f15c7 : Code := subCode [1, 0, 1, 0] (bodyOf Try.prog 15)
def f15a7 : Ann := subAnn [1, 0, 1, 0] ann15
noncomputable def f15c8 : Code := subCode [1, 0, 1, 1] (bodyOf Try.prog 15)
def f15a8 : Ann := subAnn [1, 0, 1, 1] ann15
noncomputable def f15c9 : Code := subCode [1, 0, 1, 0, 0] (bodyOf Try.prog 15)
def f15a9 : Ann := subAnn [1, 0, 1, 0, 0] ann15
noncomputable def f15c10 : Code := subCode [1, 0, 1, 0, 1] (bodyOf Try.prog 15)
def f15a10 : Ann := subAnn [1, 0, 1, 0, 1] ann15
noncomputable def f15c11 : Code := subCode [1, 1, 0] (bodyOf Try.prog 15)
def f15a11 : Ann := subAnn [1, 1, 0] ann15
noncomputable def f15c12 : Code := subCode [1, 1, 1] (bodyOf Try.prog 15)
def f15a12 : Ann := subAnn [1, 1, 1] ann15
def f15e0 (y0 : Option (Nat × Nat)) : Env := AV.ptr y0 :: Env.sp 8 []
def f15e1 (y0 : Option (Nat × Nat)) (y1 : Int) : Env := AV.ptr y0 :: Env.sp 1 (AV.int IntKind.i64 y1 :: Env.sp 6 [])
def f15e2 (y0 : Option (Nat × Nat)) (y1 : Option (Nat × Nat)) (y2 : Bool) : Env := AV.ptr y0 :: Env.sp 2 (AV.ptr y1 :: AV.bool y2 :: Env.sp 4 [])
def f15e3 (y0 : Option (Nat × Nat)) (y1 : Bool) : Env := AV.ptr y0 :: Env.sp 3 (AV.bool y1 :: Env.sp 4 [])
def f15e4 (y0 : Option (Nat × Nat)) (y1 : Int) (y2 : Bool) : Env := AV.ptr y0 :: Env.sp 1 (AV.int IntKind.i64 y1 :: Env.sp 1 (AV.bool y2 :: Env.sp 4 []))
def f15e5 (y0 : Int) : Env := Env.sp 2 (AV.int IntKind.i64 y0 :: Env.sp 6 [])
def f15e6 (y0 : Option (Nat × Nat)) (y1 : Int) (y2 : Option (Nat × Nat)) (y3 : Option (Nat × Nat)) (y4 : Option (Nat × Nat)) (y5 : Int) : Env := AV.ptr y0 :: Env.sp 1 (AV.int IntKind.i64 y1 :: Env.sp 2 (AV.ptr y2 :: AV.ptr y3 :: AV.ptr y4 :: AV.int IntKind.i64 y5 :: []))

/- function 15 -/
theorem f15_eq {R : Type} (call : CallF R) (N : Nat) (y0 : Option (Nat × Nat)) (σ : St) (K : AV → St → Option R) :
    bodyK Try.prog call N ann 15 [AV.ptr y0] σ K = runK Try.prog call N f15c0 f15a0 (bodyC Try.prog f15rs K) (f15e0 y0) σ := bodyK_of (fn := ((Try.prog.funcs[15]?).get rfl)) (by kernel_rfl) (by kernel_rfl) (by kernel_rfl) (by kernel_rfl) (by kernel_rfl) (by kernel_rfl)
theorem f15n0 {R : Type} (call : CallF R) (N : Nat) (J : KF R) (e : Env) (σ : St) : runK Try.prog call N f15c0 f15a0 J e σ = runK Try.prog call N f15c1 f15a1 (seqC (fun K e σ => runK Try.prog call N f15c2 f15a2 K e σ) f15a0 J) e σ := runK_seq' (by kernel_rfl) (by kernel_rfl) (by kernel_rfl)
theorem f15r1_f15e0 {R : Type} (call : CallF R) (N : Nat) (y0 : Option (Nat × Nat)) (J : KF R) (σ : St) :
    runK Try.prog call N f15c1 f15a1 J (f15e0 y0) σ =
J Ex.normal (f15e1 y0 (0 : Int)) σ := hide (by kernel_rfl)
theorem f15z0_f15e1 (y0 : Option (Nat × Nat)) (y1 : Int) : Ann.clr f15a0 (f15e1 y0 y1) = f15e0 y0 := hide (by kernel_rfl)
theorem f15n2 {R : Type} (call : CallF R) (N : Nat) (J : KF R) (e : Env) (σ : St) : runK Try.prog call N f15c2 f15a2 J e σ = runK Try.prog call N f15c3 f15a3 (seqC (fun K e σ => runK Try.prog call N f15c4 f15a4 K e σ) f15a2 J) e σ := runK_seq' (by kernel_rfl) (by kernel_rfl) (by kernel_rfl)
theorem f15n3 {R : Type} (call : CallF R) (N : Nat) (J : KF R) (e : Env) (σ : St) : runK Try.prog call N f15c3 f15a3 J e σ = runK Try.prog call N f15c5 f15a5 (seqC (fun K e σ => runK Try.prog call N f15c6 f15a6 K e σ) f15a3 J) e σ := runK_seq' (by kernel_rfl) (by kernel_rfl) (by kernel_rfl)
theorem f15r5_f15e0 {R : Type} (call : CallF R) (N : Nat) (y0 : Option (Nat × Nat)) (J : KF R) (σ : St) :
    runK Try.prog call N f15c5 f15a5 J (f15e0 y0) σ =
J Ex.normal (f15e2 y0 y0 (Option.isNone y0)) σ := hide (by kernel_rfl)
theorem f15z3_f15e2 (y0 : Option (Nat × Nat)) (y1 : Option (Nat × Nat)) (y2 : Bool) : Ann.clr f15a3 (f15e2 y0 y1 y2) = f15e3 y0 y2 := hide (by kernel_rfl)
theorem f15x6_f15e3 {R : Type} (call : CallF R) (N : Nat) (y0 : Option (Nat × Nat)) (y1 : Bool) (J : KF R) (σ : St) : runK Try.prog call N f15c6 f15a6 J (f15e3 y0 y1) σ = if y1 = true then runK Try.prog call N f15c7 f15a7 (condC f15a6 J) (f15e3 y0 y1) σ else runK Try.prog call N f15c8 f15a8 (condC f15a6 J) (f15e3 y0 y1) σ := runK_cond' (o := Operand.tmp (4 : Nat)) (by kernel_rfl) (by kernel_rfl) (by kernel_rfl) (by kernel_rfl)
theorem f15n7 {R : Type} (call : CallF R) (N : Nat) (J : KF R) (e : Env) (σ : St) : runK Try.prog call N f15c7 f15a7 J e σ = runK Try.prog call N f15c9 f15a9 (seqC (fun K e σ => runK Try.prog call N f15c10 f15a10 K e σ) f15a7 J) e σ := runK_seq' (by kernel_rfl) (by kernel_rfl) (by kernel_rfl)
theorem f15r9_f15e3 {R : Type} (call : CallF R) (N : Nat) (y0 : Option (Nat × Nat)) (y1 : Bool) (J : KF R) (σ : St) :
    runK Try.prog call N f15c9 f15a9 J (f15e3 y0 y1) σ =
J Ex.normal (f15e4 y0 (0 : Int) y1) σ := hide (by kernel_rfl)
theorem f15z7_f15e4 (y0 : Option (Nat × Nat)) (y1 : Int) (y2 : Bool) : Ann.clr f15a7 (f15e4 y0 y1 y2) = f15e5 y1 := hide (by kernel_rfl)
theorem f15y10_f15e5 {R : Type} (call : CallF R) (N : Nat) (y0 : Int) (J : KF R) (σ : St) : runK Try.prog call N f15c10 f15a10 J (f15e5 y0) σ = J .ret (f15e5 y0) σ := runK_ret' (by kernel_rfl) (by kernel_rfl)
theorem f15n8 {R : Type} (call : CallF R) (N : Nat) (J : KF R) (e : Env) (σ : St) : runK Try.prog call N f15c8 f15a8 J e σ = J .normal e σ := runK_skip' (by kernel_rfl)
theorem f15z6_f15e3 (y0 : Option (Nat × Nat)) (y1 : Bool) : Ann.clr f15a6 (f15e3 y0 y1) = f15e0 y0 := hide (by kernel_rfl)
theorem f15z2_f15e0 (y0 : Option (Nat × Nat)) : Ann.clr f15a2 (f15e0 y0) = f15e0 y0 := hide (by kernel_rfl)
theorem f15n4 {R : Type} (call : CallF R) (N : Nat) (J : KF R) (e : Env) (σ : St) : runK Try.prog call N f15c4 f15a4 J e σ = runK Try.prog call N f15c11 f15a11 (seqC (fun K e σ => runK Try.prog call N f15c12 f15a12 K e σ) f15a4 J) e σ := runK_seq' (by kernel_rfl) (by kernel_rfl) (by kernel_rfl)
theorem f15r11_f15e0 {R : Type} (call : CallF R) (N : Nat) (y0 : Option (Nat × Nat)) (J : KF R) (σ : St) :
    runK Try.prog call N f15c11 f15a11 J (f15e0 y0) σ =
Option.bind y0 fun v0 =>
  Option.bind (St.ld σ (Prod.fst v0) (Prod.snd v0 + (1 : Nat))) fun v1 =>
    Option.bind (AV.toInt IntKind.i64 v1) fun v2 => J Ex.normal (f15e6 y0 v2 y0 (some v0) (some (Prod.fst v0, Prod.snd v0 + (1 : Nat))) v2) σ := hide (by kernel_rfl)
theorem f15z4_f15e6 (y0 : Option (Nat × Nat)) (y1 : Int) (y2 : Option (Nat × Nat)) (y3 : Option (Nat × Nat)) (y4 : Option (Nat × Nat)) (y5 : Int) : Ann.clr f15a4 (f15e6 y0 y1 y2 y3 y4 y5) = f15e5 y1 := hide (by kernel_rfl)
theorem f15y12_f15e5 {R : Type} (call : CallF R) (N : Nat) (y0 : Int) (J : KF R) (σ : St) : runK Try.prog call N f15c12 f15a12 J (f15e5 y0) σ = J .ret (f15e5 y0) σ := runK_ret' (by kernel_rfl) (by kernel_rfl)
theorem f15b_f15e5_r {R : Type} (y0 : Int) (σ : St) (K : AV → St → Option R) : bodyC Try.prog f15rs K (Ex.ret) (f15e5 y0) σ =
K (AV.int IntKind.i64 y0) σ := hide (by kernel_rfl)
attribute [go_sem] f15_eq f15n0 f15r1_f15e0 f15z0_f15e1 f15n2 f15n3 f15r5_f15e0 f15z3_f15e2 f15x6_f15e3 f15n7 f15r9_f15e3 f15z7_f15e4 f15y10_f15e5 f15n8 f15z6_f15e3 f15z2_f15e0 f15n4 f15r11_f15e0 f15z4_f15e6 f15y12_f15e5 f15b_f15e5_r

noncomputable def f21rs : List ResultVar := [ResultVar.tmp (2 : Nat)]
noncomputable def f21c0 : Code := subCode [] (bodyOf Try.prog 21)
def f21a0 : Ann := subAnn [] ann21
noncomputable def f21c1 : Code := subCode [0] (bodyOf Try.prog 21)
def f21a1 : Ann := subAnn [0] ann21
noncomputable def f21c2 : Code := subCode [1] (bodyOf Try.prog 21)
def f21a2 : Ann := subAnn [1] ann21
noncomputable def f21c3 : Code := subCode [1, 0] (bodyOf Try.prog 21)
def f21a3 : Ann := subAnn [1, 0] ann21
noncomputable def f21c4 : Code := subCode [1, 1] (bodyOf Try.prog 21)
def f21a4 : Ann := subAnn [1, 1] ann21
def f21e0 (y0 : Int) : Env := AV.int IntKind.i64 y0 :: Env.sp 8 []
def f21e1 (y0 : Int) (y1 : Bool) : Env := AV.int IntKind.i64 y0 :: Env.sp 1 (AV.bool y1 :: Env.sp 6 [])
def f21e2 (y0 : Int) (y1 : Bool) (y2 : Int) (y3 : Bool) (y4 : Bool) (y5 : Int) (y6 : Bool) (y7 : Bool) : Env := AV.int IntKind.i64 y0 :: Env.sp 1 (AV.bool y1 :: AV.int IntKind.i64 y2 :: AV.bool y3 :: AV.bool y4 :: AV.int IntKind.i64 y5 :: AV.bool y6 :: AV.bool y7 :: [])
def f21e3 (y0 : Int) (y1 : Bool) (y2 : Int) (y3 : Bool) (y4 : Bool) (y5 : Bool) : Env := AV.int IntKind.i64 y0 :: Env.sp 1 (AV.bool y1 :: AV.int IntKind.i64 y2 :: AV.bool y3 :: AV.bool y4 :: AV.tuple [] :: AV.tuple [] :: AV.bool y5 :: [])
def f21e4 (y0 : Bool) : Env := Env.sp 2 (AV.bool y0 :: Env.sp 6 [])

/- function 21 -/
theorem f21_eq {R : Type} (call : CallF R) (N : Nat) (y0 : Int) (σ : St) (K : AV → St → Option R) :
    bodyK Try.prog call N ann 21 [AV.int IntKind.i64 y0] σ K = runK Try.prog call N f21c0 f21a0 (bodyC Try.prog f21rs K) (f21e0 y0) σ := bodyK_of (fn := ((Try.prog.funcs[21]?).get rfl)) (by kernel_rfl) (by kernel_rfl) (by kernel_rfl) (by kernel_rfl) (by kernel_rfl) (by kernel_rfl)
theorem f21n0 {R : Type} (call : CallF R) (N : Nat) (J : KF R) (e : Env) (σ : St) : runK Try.prog call N f21c0 f21a0 J e σ = runK Try.prog call N f21c1 f21a1 (seqC (fun K e σ => runK Try.prog call N f21c2 f21a2 K e σ) f21a0 J) e σ := runK_seq' (by kernel_rfl) (by kernel_rfl) (by kernel_rfl)
theorem f21r1_f21e0 {R : Type} (call : CallF R) (N : Nat) (y0 : Int) (J : KF R) (σ : St) :
    runK Try.prog call N f21c1 f21a1 J (f21e0 y0) σ =
J Ex.normal (f21e1 y0 false) σ := hide (by kernel_rfl)
theorem f21z0_f21e1 (y0 : Int) (y1 : Bool) : Ann.clr f21a0 (f21e1 y0 y1) = f21e0 y0 := hide (by kernel_rfl)
theorem f21n2 {R : Type} (call : CallF R) (N : Nat) (J : KF R) (e : Env) (σ : St) : runK Try.prog call N f21c2 f21a2 J e σ = runK Try.prog call N f21c3 f21a3 (seqC (fun K e σ => runK Try.prog call N f21c4 f21a4 K e σ) f21a2 J) e σ := runK_seq' (by kernel_rfl) (by kernel_rfl) (by kernel_rfl)
theorem f21r3_f21e0 {R : Type} (call : CallF R) (N : Nat) (y0 : Int) (J : KF R) (σ : St) :
    runK Try.prog call N f21c3 f21a3 J (f21e0 y0) σ =
if decide (y0 ≥ (0 : Int)) = true then
  J Ex.normal (f21e2 y0 (decide (y0 ≤ (63 : Int))) y0 (decide (y0 ≥ (0 : Int))) true y0 (decide (y0 ≤ (63 : Int))) (decide (y0 ≤ (63 : Int)))) σ
else J Ex.normal (f21e3 y0 false y0 (decide (y0 ≥ (0 : Int))) false false) σ := hide (by kernel_rfl)
theorem f21z2_f21e2 (y0 : Int) (y1 : Bool) (y2 : Int) (y3 : Bool) (y4 : Bool) (y5 : Int) (y6 : Bool) (y7 : Bool) : Ann.clr f21a2 (f21e2 y0 y1 y2 y3 y4 y5 y6 y7) = f21e4 y1 := hide (by kernel_rfl)
theorem f21y4_f21e4 {R : Type} (call : CallF R) (N : Nat) (y0 : Bool) (J : KF R) (σ : St) : runK Try.prog call N f21c4 f21a4 J (f21e4 y0) σ = J .ret (f21e4 y0) σ := runK_ret' (by kernel_rfl) (by kernel_rfl)
theorem f21z2_f21e3 (y0 : Int) (y1 : Bool) (y2 : Int) (y3 : Bool) (y4 : Bool) (y5 : Bool) : Ann.clr f21a2 (f21e3 y0 y1 y2 y3 y4 y5) = f21e4 y1 := hide (by kernel_rfl)
theorem f21b_f21e4_r {R : Type} (y0 : Bool) (σ : St) (K : AV → St → Option R) : bodyC Try.prog f21rs K (Ex.ret) (f21e4 y0) σ =
K (AV.bool y0) σ := hide (by kernel_rfl)
attribute [go_sem] f21_eq f21n0 f21r1_f21e0 f21z0_f21e1 f21n2 f21r3_f21e0 f21z2_f21e2 f21y4_f21e4 f21z2_f21e3 f21b_f21e4_r

end Go.Proofs.Ytdebkakkeaanaaa
