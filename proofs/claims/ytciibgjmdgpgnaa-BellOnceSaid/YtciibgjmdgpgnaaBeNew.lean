/- What the machine does with each piece of code, in plain text. PRINTED by a program of this workplace; Lean checks it. -/
import Derived.Test.YtciibgjmdgpgnaaBeAnn
import Derived.Test.YtciibgjmdgpgnaaProg
import Derived.KernelRfl
import Derived.Attr
namespace Go.Proofs.Ytciibgjmdgpgnaa
open Go.AM
set_option maxRecDepth 100000
set_option linter.unusedVariables false
noncomputable def f7rs : List ResultVar := [ResultVar.tmp (0 : Nat)]
noncomputable def f7c0 : Code := subCode [] (bodyOf Try.prog 7)
def f7a0 : Ann := subAnn [] ann7
noncomputable def f7c1 : Code := subCode [0] (bodyOf Try.prog 7)
def f7a1 : Ann := subAnn [0] ann7
noncomputable def f7c2 : Code := subCode [1] (bodyOf Try.prog 7)
def f7a2 : Ann := subAnn [1] ann7
noncomputable def f7c3 : Code := subCode [1, 0] (bodyOf Try.prog 7)
def f7a3 : Ann := subAnn [1, 0] ann7
noncomputable def f7c4 : Code := subCode [1, 1] (bodyOf Try.prog 7)
def f7a4 : Ann := subAnn [1, 1] ann7
def f7e0 : Env := Env.sp 3 []
def f7e1 (y0 : Option (Nat × Nat)) : Env := AV.ptr y0 :: Env.sp 2 []
def f7e2 (y0 : Nat) (y1 : Int) (y2 : Int) (y3 : Option (Nat × Nat)) (y4 : Nat) (y5 : Option Nat) (y6 : Int) (y7 : Int) (y8 : Int) (y9 : Int) (y10 : Int) (y11 : Int) (y12 : Int) (y13 : Int) (y14 : Int) (y15 : Int) (y16 : Int) (y17 : Int) (y18 : Int) (y19 : Int) (y20 : Int) (y21 : Int) (y22 : Int) (y23 : Int) (y24 : Int) (y25 : Int) (y26 : Int) (y27 : Int) (y28 : Int) (y29 : Int) (y30 : Int) (y31 : Int) (y32 : Int) (y33 : Int) (y34 : Int) (y35 : Int) (y36 : Int) (y37 : Int) (y38 : Int) (y39 : Int) (y40 : Int) (y41 : Int) (y42 : Int) (y43 : Int) (y44 : Int) (y45 : Int) (y46 : Int) (y47 : Int) (y48 : Int) (y49 : Int) (y50 : Int) (y51 : Int) (y52 : Int) (y53 : Int) (y54 : Int) (y55 : Int) (y56 : Int) (y57 : Int) (y58 : Int) (y59 : Int) (y60 : Int) (y61 : Int) (y62 : Int) (y63 : Int) (y64 : Int) (y65 : Int) (y66 : Int) (y67 : Int) (y68 : Int) (y69 : Int) (y70 : Nat) : Env := AV.ptr (some (y0, (0 : Nat))) :: AV.agg
  [AV.int IntKind.i64 y1, AV.int IntKind.i64 y2, AV.slice y3 y4 y5 (4 : Nat), AV.int IntKind.i64 y6, AV.int IntKind.i64 y7, AV.int IntKind.i64 y8,
    AV.int IntKind.i64 y9, AV.int IntKind.i64 y10, AV.int IntKind.i64 y11, AV.int IntKind.i64 y12, AV.int IntKind.i64 y13, AV.int IntKind.i64 y14,
    AV.int IntKind.i64 y15, AV.int IntKind.i64 y16, AV.int IntKind.i64 y17, AV.int IntKind.i64 y18, AV.int IntKind.i64 y19, AV.int IntKind.i64 y20,
    AV.int IntKind.i64 y21, AV.int IntKind.i64 y22, AV.int IntKind.i64 y23, AV.int IntKind.i64 y24, AV.int IntKind.i64 y25, AV.int IntKind.i64 y26,
    AV.int IntKind.i64 y27, AV.int IntKind.i64 y28, AV.int IntKind.i64 y29, AV.int IntKind.i64 y30, AV.int IntKind.i64 y31, AV.int IntKind.i64 y32,
    AV.int IntKind.i64 y33, AV.int IntKind.i64 y34, AV.int IntKind.i64 y35, AV.int IntKind.i64 y36, AV.int IntKind.i64 y37, AV.int IntKind.i64 y38,
    AV.int IntKind.i64 y39, AV.int IntKind.i64 y40, AV.int IntKind.i64 y41, AV.int IntKind.i64 y42, AV.int IntKind.i64 y43, AV.int IntKind.i64 y44,
    AV.int IntKind.i64 y45, AV.int IntKind.i64 y46, AV.int IntKind.i64 y47, AV.int IntKind.i64 y48, AV.int IntKind.i64 y49, AV.int IntKind.i64 y50,
    AV.int IntKind.i64 y51, AV.int IntKind.i64 y52, AV.int IntKind.i64 y53, AV.int IntKind.i64 y54, AV.int IntKind.i64 y55, AV.int IntKind.i64 y56,
    AV.int IntKind.i64 y57, AV.int IntKind.i64 y58, AV.int IntKind.i64 y59, AV.int IntKind.i64 y60, AV.int IntKind.i64 y61, AV.int IntKind.i64 y62,
    AV.int IntKind.i64 y63, AV.int IntKind.i64 y64, AV.int IntKind.i64 y65, AV.int IntKind.i64 y66, AV.int IntKind.i64 y67, AV.int IntKind.i64 y68,
    AV.int IntKind.i64 y69] :: AV.ptr (some (y70, (0 : Nat))) :: []
def f7e3 (y0 : Nat) : Env := AV.ptr (some (y0, (0 : Nat))) :: Env.sp 2 []

/- function 7 -/
theorem f7_eq {R : Type} (call : Bool → CallF R) (dem : Bool) (N : Nat) (σ : St) (K : AV → St → Option R) :
    bodyK Try.prog call dem N ann 7 [] σ K = runK Try.prog call dem N f7c0 f7a0 (bodyC Try.prog f7rs K) (f7e0) σ := bodyK_of (fn := ((Try.prog.funcs[7]?).get rfl)) (by kernel_rfl) (by kernel_rfl) (by kernel_rfl) (by kernel_rfl) (by kernel_rfl) (by kernel_rfl)
theorem f7n0 {R : Type} (call : Bool → CallF R) (dem : Bool) (N : Nat) (J : KF R) (e : Env) (σ : St) : runK Try.prog call dem N f7c0 f7a0 J e σ = runK Try.prog call dem N f7c1 f7a1 (seqC (fun K e σ => runK Try.prog call dem N f7c2 f7a2 K e σ) f7a0 J) e σ := runK_seq' (by kernel_rfl) (by kernel_rfl) (by kernel_rfl)
theorem f7r1_f7e0 {R : Type} (call : Bool → CallF R) (dem : Bool) (N : Nat) (J : KF R) (σ : St) :
    runK Try.prog call dem N f7c1 f7a1 J (f7e0) σ =
J Ex.normal (f7e1 none) σ := hide (by kernel_rfl)
theorem f7z0_f7e1 (y0 : Option (Nat × Nat)) : Ann.clr f7a0 (f7e1 y0) = f7e0 := hide (by kernel_rfl)
theorem f7n2 {R : Type} (call : Bool → CallF R) (dem : Bool) (N : Nat) (J : KF R) (e : Env) (σ : St) : runK Try.prog call dem N f7c2 f7a2 J e σ = runK Try.prog call dem N f7c3 f7a3 (seqC (fun K e σ => runK Try.prog call dem N f7c4 f7a4 K e σ) f7a2 J) e σ := runK_seq' (by kernel_rfl) (by kernel_rfl) (by kernel_rfl)
theorem f7r3_f7e0 {R : Type} (call : Bool → CallF R) (dem : Bool) (N : Nat) (J : KF R) (σ : St) :
    runK Try.prog call dem N f7c3 f7a3 J (f7e0) σ =
J Ex.normal
  (f7e2 (St.next σ) (0 : Int) (0 : Int) none (0 : Nat) (some (0 : Nat)) (0 : Int) (0 : Int) (0 : Int) (0 : Int) (0 : Int) (0 : Int) (0 : Int)
    (0 : Int) (0 : Int) (0 : Int) (0 : Int) (0 : Int) (0 : Int) (0 : Int) (0 : Int) (0 : Int) (0 : Int) (0 : Int) (0 : Int) (0 : Int) (0 : Int)
    (0 : Int) (0 : Int) (0 : Int) (0 : Int) (0 : Int) (0 : Int) (0 : Int) (0 : Int) (0 : Int) (0 : Int) (0 : Int) (0 : Int) (0 : Int) (0 : Int)
    (0 : Int) (0 : Int) (0 : Int) (0 : Int) (0 : Int) (0 : Int) (0 : Int) (0 : Int) (0 : Int) (0 : Int) (0 : Int) (0 : Int) (0 : Int) (0 : Int)
    (0 : Int) (0 : Int) (0 : Int) (0 : Int) (0 : Int) (0 : Int) (0 : Int) (0 : Int) (0 : Int) (0 : Int) (0 : Int) (0 : Int) (0 : Int) (0 : Int)
    (0 : Int) (St.next σ))
  (St.new σ
    (Blk.cells
      [AV.int IntKind.i64 (0 : Int), AV.int IntKind.i64 (0 : Int), AV.slice none (0 : Nat) (some (0 : Nat)) (4 : Nat), AV.int IntKind.i64 (0 : Int),
        AV.int IntKind.i64 (0 : Int), AV.int IntKind.i64 (0 : Int), AV.int IntKind.i64 (0 : Int), AV.int IntKind.i64 (0 : Int),
        AV.int IntKind.i64 (0 : Int), AV.int IntKind.i64 (0 : Int), AV.int IntKind.i64 (0 : Int), AV.int IntKind.i64 (0 : Int),
        AV.int IntKind.i64 (0 : Int), AV.int IntKind.i64 (0 : Int), AV.int IntKind.i64 (0 : Int), AV.int IntKind.i64 (0 : Int),
        AV.int IntKind.i64 (0 : Int), AV.int IntKind.i64 (0 : Int), AV.int IntKind.i64 (0 : Int), AV.int IntKind.i64 (0 : Int),
        AV.int IntKind.i64 (0 : Int), AV.int IntKind.i64 (0 : Int), AV.int IntKind.i64 (0 : Int), AV.int IntKind.i64 (0 : Int),
        AV.int IntKind.i64 (0 : Int), AV.int IntKind.i64 (0 : Int), AV.int IntKind.i64 (0 : Int), AV.int IntKind.i64 (0 : Int),
        AV.int IntKind.i64 (0 : Int), AV.int IntKind.i64 (0 : Int), AV.int IntKind.i64 (0 : Int), AV.int IntKind.i64 (0 : Int),
        AV.int IntKind.i64 (0 : Int), AV.int IntKind.i64 (0 : Int), AV.int IntKind.i64 (0 : Int), AV.int IntKind.i64 (0 : Int),
        AV.int IntKind.i64 (0 : Int), AV.int IntKind.i64 (0 : Int), AV.int IntKind.i64 (0 : Int), AV.int IntKind.i64 (0 : Int),
        AV.int IntKind.i64 (0 : Int), AV.int IntKind.i64 (0 : Int), AV.int IntKind.i64 (0 : Int), AV.int IntKind.i64 (0 : Int),
        AV.int IntKind.i64 (0 : Int), AV.int IntKind.i64 (0 : Int), AV.int IntKind.i64 (0 : Int), AV.int IntKind.i64 (0 : Int),
        AV.int IntKind.i64 (0 : Int), AV.int IntKind.i64 (0 : Int), AV.int IntKind.i64 (0 : Int), AV.int IntKind.i64 (0 : Int),
        AV.int IntKind.i64 (0 : Int), AV.int IntKind.i64 (0 : Int), AV.int IntKind.i64 (0 : Int), AV.int IntKind.i64 (0 : Int),
        AV.int IntKind.i64 (0 : Int), AV.int IntKind.i64 (0 : Int), AV.int IntKind.i64 (0 : Int), AV.int IntKind.i64 (0 : Int),
        AV.int IntKind.i64 (0 : Int), AV.int IntKind.i64 (0 : Int), AV.int IntKind.i64 (0 : Int), AV.int IntKind.i64 (0 : Int),
        AV.int IntKind.i64 (0 : Int), AV.int IntKind.i64 (0 : Int), AV.int IntKind.i64 (0 : Int)]
      true)) := hide (by kernel_rfl)
theorem f7z2_f7e2 (y0 : Nat) (y1 : Int) (y2 : Int) (y3 : Option (Nat × Nat)) (y4 : Nat) (y5 : Option Nat) (y6 : Int) (y7 : Int) (y8 : Int) (y9 : Int) (y10 : Int) (y11 : Int) (y12 : Int) (y13 : Int) (y14 : Int) (y15 : Int) (y16 : Int) (y17 : Int) (y18 : Int) (y19 : Int) (y20 : Int) (y21 : Int) (y22 : Int) (y23 : Int) (y24 : Int) (y25 : Int) (y26 : Int) (y27 : Int) (y28 : Int) (y29 : Int) (y30 : Int) (y31 : Int) (y32 : Int) (y33 : Int) (y34 : Int) (y35 : Int) (y36 : Int) (y37 : Int) (y38 : Int) (y39 : Int) (y40 : Int) (y41 : Int) (y42 : Int) (y43 : Int) (y44 : Int) (y45 : Int) (y46 : Int) (y47 : Int) (y48 : Int) (y49 : Int) (y50 : Int) (y51 : Int) (y52 : Int) (y53 : Int) (y54 : Int) (y55 : Int) (y56 : Int) (y57 : Int) (y58 : Int) (y59 : Int) (y60 : Int) (y61 : Int) (y62 : Int) (y63 : Int) (y64 : Int) (y65 : Int) (y66 : Int) (y67 : Int) (y68 : Int) (y69 : Int) (y70 : Nat) : Ann.clr f7a2 (f7e2 y0 y1 y2 y3 y4 y5 y6 y7 y8 y9 y10 y11 y12 y13 y14 y15 y16 y17 y18 y19 y20 y21 y22 y23 y24 y25 y26 y27 y28 y29 y30 y31 y32 y33 y34 y35 y36 y37 y38
  y39 y40 y41 y42 y43 y44 y45 y46 y47 y48 y49 y50 y51 y52 y53 y54 y55 y56 y57 y58 y59 y60 y61 y62 y63 y64 y65 y66 y67 y68 y69 y70) = f7e3 y0 := hide (by kernel_rfl)
theorem f7y4_f7e3 {R : Type} (call : Bool → CallF R) (dem : Bool) (N : Nat) (y0 : Nat) (J : KF R) (σ : St) : runK Try.prog call dem N f7c4 f7a4 J (f7e3 y0) σ = J .ret (f7e3 y0) σ := runK_ret' (by kernel_rfl) (by kernel_rfl)
theorem f7b_f7e3_r {R : Type} (y0 : Nat) (σ : St) (K : AV → St → Option R) : bodyC Try.prog f7rs K (Ex.ret) (f7e3 y0) σ =
K (AV.ptr (some (y0, (0 : Nat)))) σ := hide (by kernel_rfl)
attribute [go_sem] f7_eq f7n0 f7r1_f7e0 f7z0_f7e1 f7n2 f7r3_f7e0 f7z2_f7e2 f7y4_f7e3 f7b_f7e3_r

noncomputable def f12rs : List ResultVar := [ResultVar.tmp (2 : Nat)]
noncomputable def f12c0 : Code := subCode [] (bodyOf Try.prog 12)
def f12a0 : Ann := subAnn [] ann12
noncomputable def f12c1 : Code := subCode [0] (bodyOf Try.prog 12)
def f12a1 : Ann := subAnn [0] ann12
noncomputable def f12c2 : Code := subCode [1] (bodyOf Try.prog 12)
def f12a2 : Ann := subAnn [1] ann12
noncomputable def f12c3 : Code := subCode [1, 0] (bodyOf Try.prog 12)
def f12a3 : Ann := subAnn [1, 0] ann12
noncomputable def f12c4 : Code := subCode [1, 1] (bodyOf Try.prog 12)
def f12a4 : Ann := subAnn [1, 1] ann12
noncomputable def f12c5 : Code := subCode [1, 0, 0] (bodyOf Try.prog 12)
def f12a5 : Ann := subAnn [1, 0, 0] ann12
noncomputable def f12c6 : Code := subCode [1, 0, 1] (bodyOf Try.prog 12)
def f12a6 : Ann := subAnn [1, 0, 1] ann12
noncomputable def f12c7 : Code := subCode [1, 0, 1, 0] (bodyOf Try.prog 12)
def f12a7 : Ann := subAnn [1, 0, 1, 0] ann12
noncomputable def f12c8 : Code := subCode [1, 0, 1, 1] (bodyOf Try.prog 12)
def f12a8 : Ann := subAnn [1, 0, 1, 1] ann12
noncomputable def f12c9 : Code := subCode [1, 0, 1, 0, 0] (bodyOf Try.prog 12)
def f12a9 : Ann := subAnn [1, 0, 1, 0, 0] ann12
noncomputable def f12c10 : Code := subCode [1, 0, 1, 0, 1] (bodyOf Try.prog 12)
def f12a10 : Ann := subAnn [1, 0, 1, 0, 1] ann12
noncomputable def f12c11 : Code := subCode [1, 1, 0] (bodyOf Try.prog 12)
def f12a11 : Ann := subAnn [1, 1, 0] ann12
noncomputable def f12c12 : Code := subCode [1, 1, 1] (bodyOf Try.prog 12)
def f12a12 : Ann := subAnn [1, 1, 1] ann12
def f12e0 (y0 : Option (Nat × Nat)) : Env := AV.ptr y0 :: Env.sp 8 []
def f12e1 (y0 : Option (Nat × Nat)) (y1 : Int) : Env := AV.ptr y0 :: Env.sp 1 (AV.int IntKind.i64 y1 :: Env.sp 6 [])
def f12e2 (y0 : Option (Nat × Nat)) (y1 : Option (Nat × Nat)) (y2 : Bool) : Env := AV.ptr y0 :: Env.sp 2 (AV.ptr y1 :: AV.bool y2 :: Env.sp 4 [])
def f12e3 (y0 : Option (Nat × Nat)) (y1 : Bool) : Env := AV.ptr y0 :: Env.sp 3 (AV.bool y1 :: Env.sp 4 [])
def f12e4 (y0 : Option (Nat × Nat)) (y1 : Int) (y2 : Bool) : Env := AV.ptr y0 :: Env.sp 1 (AV.int IntKind.i64 y1 :: Env.sp 1 (AV.bool y2 :: Env.sp 4 []))
def f12e5 (y0 : Int) : Env := Env.sp 2 (AV.int IntKind.i64 y0 :: Env.sp 6 [])
def f12e6 (y0 : Option (Nat × Nat)) (y1 : Int) (y2 : Option (Nat × Nat)) (y3 : Option (Nat × Nat)) (y4 : Option (Nat × Nat)) (y5 : Int) : Env := AV.ptr y0 :: Env.sp 1 (AV.int IntKind.i64 y1 :: Env.sp 2 (AV.ptr y2 :: AV.ptr y3 :: AV.ptr y4 :: AV.int IntKind.i64 y5 :: []))

/- function 12 -/
theorem f12_eq {R : Type} (call : Bool → CallF R) (dem : Bool) (N : Nat) (y0 : Option (Nat × Nat)) (σ : St) (K : AV → St → Option R) :
    bodyK Try.prog call dem N ann 12 [AV.ptr y0] σ K = runK Try.prog call dem N f12c0 f12a0 (bodyC Try.prog f12rs K) (f12e0 y0) σ := bodyK_of (fn := ((Try.prog.funcs[12]?).get rfl)) (by kernel_rfl) (by kernel_rfl) (by kernel_rfl) (by kernel_rfl) (by kernel_rfl) (by kernel_rfl)
theorem f12n0 {R : Type} (call : Bool → CallF R) (dem : Bool) (N : Nat) (J : KF R) (e : Env) (σ : St) : runK Try.prog call dem N f12c0 f12a0 J e σ = runK Try.prog call dem N f12c1 f12a1 (seqC (fun K e σ => runK Try.prog call dem N f12c2 f12a2 K e σ) f12a0 J) e σ := runK_seq' (by kernel_rfl) (by kernel_rfl) (by kernel_rfl)
theorem f12r1_f12e0 {R : Type} (call : Bool → CallF R) (dem : Bool) (N : Nat) (y0 : Option (Nat × Nat)) (J : KF R) (σ : St) :
    runK Try.prog call dem N f12c1 f12a1 J (f12e0 y0) σ =
J Ex.normal (f12e1 y0 (0 : Int)) σ := hide (by kernel_rfl)
theorem f12z0_f12e1 (y0 : Option (Nat × Nat)) (y1 : Int) : Ann.clr f12a0 (f12e1 y0 y1) = f12e0 y0 := hide (by kernel_rfl)
theorem f12n2 {R : Type} (call : Bool → CallF R) (dem : Bool) (N : Nat) (J : KF R) (e : Env) (σ : St) : runK Try.prog call dem N f12c2 f12a2 J e σ = runK Try.prog call dem N f12c3 f12a3 (seqC (fun K e σ => runK Try.prog call dem N f12c4 f12a4 K e σ) f12a2 J) e σ := runK_seq' (by kernel_rfl) (by kernel_rfl) (by kernel_rfl)
theorem f12n3 {R : Type} (call : Bool → CallF R) (dem : Bool) (N : Nat) (J : KF R) (e : Env) (σ : St) : runK Try.prog call dem N f12c3 f12a3 J e σ = runK Try.prog call dem N f12c5 f12a5 (seqC (fun K e σ => runK Try.prog call dem N f12c6 f12a6 K e σ) f12a3 J) e σ := runK_seq' (by kernel_rfl) (by kernel_rfl) (by kernel_rfl)
theorem f12r5_f12e0 {R : Type} (call : Bool → CallF R) (dem : Bool) (N : Nat) (y0 : Option (Nat × Nat)) (J : KF R) (σ : St) :
    runK Try.prog call dem N f12c5 f12a5 J (f12e0 y0) σ =
J Ex.normal (f12e2 y0 y0 (Option.isNone y0)) σ := hide (by kernel_rfl)
theorem f12z3_f12e2 (y0 : Option (Nat × Nat)) (y1 : Option (Nat × Nat)) (y2 : Bool) : Ann.clr f12a3 (f12e2 y0 y1 y2) = f12e3 y0 y2 := hide (by kernel_rfl)
theorem f12x6_f12e3 {R : Type} (call : Bool → CallF R) (dem : Bool) (N : Nat) (y0 : Option (Nat × Nat)) (y1 : Bool) (J : KF R) (σ : St) : runK Try.prog call dem N f12c6 f12a6 J (f12e3 y0 y1) σ = if y1 = true then runK Try.prog call dem N f12c7 f12a7 (condC f12a6 J) (f12e3 y0 y1) σ else runK Try.prog call dem N f12c8 f12a8 (condC f12a6 J) (f12e3 y0 y1) σ := runK_cond' (o := Operand.tmp (4 : Nat)) (by kernel_rfl) (by kernel_rfl) (by kernel_rfl) (by kernel_rfl)
theorem f12n7 {R : Type} (call : Bool → CallF R) (dem : Bool) (N : Nat) (J : KF R) (e : Env) (σ : St) : runK Try.prog call dem N f12c7 f12a7 J e σ = runK Try.prog call dem N f12c9 f12a9 (seqC (fun K e σ => runK Try.prog call dem N f12c10 f12a10 K e σ) f12a7 J) e σ := runK_seq' (by kernel_rfl) (by kernel_rfl) (by kernel_rfl)
theorem f12r9_f12e3 {R : Type} (call : Bool → CallF R) (dem : Bool) (N : Nat) (y0 : Option (Nat × Nat)) (y1 : Bool) (J : KF R) (σ : St) :
    runK Try.prog call dem N f12c9 f12a9 J (f12e3 y0 y1) σ =
J Ex.normal (f12e4 y0 (0 : Int) y1) σ := hide (by kernel_rfl)
theorem f12z7_f12e4 (y0 : Option (Nat × Nat)) (y1 : Int) (y2 : Bool) : Ann.clr f12a7 (f12e4 y0 y1 y2) = f12e5 y1 := hide (by kernel_rfl)
theorem f12y10_f12e5 {R : Type} (call : Bool → CallF R) (dem : Bool) (N : Nat) (y0 : Int) (J : KF R) (σ : St) : runK Try.prog call dem N f12c10 f12a10 J (f12e5 y0) σ = J .ret (f12e5 y0) σ := runK_ret' (by kernel_rfl) (by kernel_rfl)
theorem f12n8 {R : Type} (call : Bool → CallF R) (dem : Bool) (N : Nat) (J : KF R) (e : Env) (σ : St) : runK Try.prog call dem N f12c8 f12a8 J e σ = J .normal e σ := runK_skip' (by kernel_rfl)
theorem f12z6_f12e3 (y0 : Option (Nat × Nat)) (y1 : Bool) : Ann.clr f12a6 (f12e3 y0 y1) = f12e0 y0 := hide (by kernel_rfl)
theorem f12z2_f12e0 (y0 : Option (Nat × Nat)) : Ann.clr f12a2 (f12e0 y0) = f12e0 y0 := hide (by kernel_rfl)
theorem f12n4 {R : Type} (call : Bool → CallF R) (dem : Bool) (N : Nat) (J : KF R) (e : Env) (σ : St) : runK Try.prog call dem N f12c4 f12a4 J e σ = runK Try.prog call dem N f12c11 f12a11 (seqC (fun K e σ => runK Try.prog call dem N f12c12 f12a12 K e σ) f12a4 J) e σ := runK_seq' (by kernel_rfl) (by kernel_rfl) (by kernel_rfl)
theorem f12r11_f12e0 {R : Type} (call : Bool → CallF R) (dem : Bool) (N : Nat) (y0 : Option (Nat × Nat)) (J : KF R) (σ : St) :
    runK Try.prog call dem N f12c11 f12a11 J (f12e0 y0) σ =
Option.bind y0 fun v0 =>
  Option.bind (St.ld σ (Prod.fst v0) (Prod.snd v0)) fun v1 =>
    Option.bind (AV.toInt IntKind.i64 v1) fun v2 => J Ex.normal (f12e6 y0 v2 y0 (some v0) (some (Prod.fst v0, Prod.snd v0)) v2) σ := hide (by kernel_rfl)
theorem f12z4_f12e6 (y0 : Option (Nat × Nat)) (y1 : Int) (y2 : Option (Nat × Nat)) (y3 : Option (Nat × Nat)) (y4 : Option (Nat × Nat)) (y5 : Int) : Ann.clr f12a4 (f12e6 y0 y1 y2 y3 y4 y5) = f12e5 y1 := hide (by kernel_rfl)
theorem f12y12_f12e5 {R : Type} (call : Bool → CallF R) (dem : Bool) (N : Nat) (y0 : Int) (J : KF R) (σ : St) : runK Try.prog call dem N f12c12 f12a12 J (f12e5 y0) σ = J .ret (f12e5 y0) σ := runK_ret' (by kernel_rfl) (by kernel_rfl)
theorem f12b_f12e5_r {R : Type} (y0 : Int) (σ : St) (K : AV → St → Option R) : bodyC Try.prog f12rs K (Ex.ret) (f12e5 y0) σ =
K (AV.int IntKind.i64 y0) σ := hide (by kernel_rfl)
attribute [go_sem] f12_eq f12n0 f12r1_f12e0 f12z0_f12e1 f12n2 f12n3 f12r5_f12e0 f12z3_f12e2 f12x6_f12e3 f12n7 f12r9_f12e3 f12z7_f12e4 f12y10_f12e5 f12n8 f12z6_f12e3 f12z2_f12e0 f12n4 f12r11_f12e0 f12z4_f12e6 f12y12_f12e5 f12b_f12e5_r

noncomputable def f20rs : List ResultVar := [ResultVar.tmp (2 : Nat)]
noncomputable def f20c0 : Code := subCode [] (bodyOf Try.prog 20)
def f20a0 : Ann := subAnn [] ann20
noncomputable def f20c1 : Code := subCode [0] (bodyOf Try.prog 20)
def f20a1 : Ann := subAnn [0] ann20
noncomputable def f20c2 : Code := subCode [1] (bodyOf Try.prog 20)
def f20a2 : Ann := subAnn [1] ann20
noncomputable def f20c3 : Code := subCode [1, 0] (bodyOf Try.prog 20)
def f20a3 : Ann := subAnn [1, 0] ann20
noncomputable def f20c4 : Code := subCode [1, 1] (bodyOf Try.prog 20)
def f20a4 : Ann := subAnn [1, 1] ann20
def f20e0 (y0 : Int) : Env := AV.int IntKind.i64 y0 :: Env.sp 8 []
def f20e1 (y0 : Int) (y1 : Bool) : Env := AV.int IntKind.i64 y0 :: Env.sp 1 (AV.bool y1 :: Env.sp 6 [])
def f20e2 (y0 : Int) (y1 : Bool) (y2 : Int) (y3 : Bool) (y4 : Bool) (y5 : Int) (y6 : Bool) (y7 : Bool) : Env := AV.int IntKind.i64 y0 :: Env.sp 1 (AV.bool y1 :: AV.int IntKind.i64 y2 :: AV.bool y3 :: AV.bool y4 :: AV.int IntKind.i64 y5 :: AV.bool y6 :: AV.bool y7 :: [])
def f20e3 (y0 : Int) (y1 : Bool) (y2 : Int) (y3 : Bool) (y4 : Bool) (y5 : Bool) : Env := AV.int IntKind.i64 y0 :: Env.sp 1 (AV.bool y1 :: AV.int IntKind.i64 y2 :: AV.bool y3 :: AV.bool y4 :: AV.tuple [] :: AV.tuple [] :: AV.bool y5 :: [])
def f20e4 (y0 : Bool) : Env := Env.sp 2 (AV.bool y0 :: Env.sp 6 [])

/- function 20 -/
theorem f20_eq {R : Type} (call : Bool → CallF R) (dem : Bool) (N : Nat) (y0 : Int) (σ : St) (K : AV → St → Option R) :
    bodyK Try.prog call dem N ann 20 [AV.int IntKind.i64 y0] σ K = runK Try.prog call dem N f20c0 f20a0 (bodyC Try.prog f20rs K) (f20e0 y0) σ := bodyK_of (fn := ((Try.prog.funcs[20]?).get rfl)) (by kernel_rfl) (by kernel_rfl) (by kernel_rfl) (by kernel_rfl) (by kernel_rfl) (by kernel_rfl)
theorem f20n0 {R : Type} (call : Bool → CallF R) (dem : Bool) (N : Nat) (J : KF R) (e : Env) (σ : St) : runK Try.prog call dem N f20c0 f20a0 J e σ = runK Try.prog call dem N f20c1 f20a1 (seqC (fun K e σ => runK Try.prog call dem N f20c2 f20a2 K e σ) f20a0 J) e σ := runK_seq' (by kernel_rfl) (by kernel_rfl) (by kernel_rfl)
theorem f20r1_f20e0 {R : Type} (call : Bool → CallF R) (dem : Bool) (N : Nat) (y0 : Int) (J : KF R) (σ : St) :
    runK Try.prog call dem N f20c1 f20a1 J (f20e0 y0) σ =
J Ex.normal (f20e1 y0 false) σ := hide (by kernel_rfl)
theorem f20z0_f20e1 (y0 : Int) (y1 : Bool) : Ann.clr f20a0 (f20e1 y0 y1) = f20e0 y0 := hide (by kernel_rfl)
theorem f20n2 {R : Type} (call : Bool → CallF R) (dem : Bool) (N : Nat) (J : KF R) (e : Env) (σ : St) : runK Try.prog call dem N f20c2 f20a2 J e σ = runK Try.prog call dem N f20c3 f20a3 (seqC (fun K e σ => runK Try.prog call dem N f20c4 f20a4 K e σ) f20a2 J) e σ := runK_seq' (by kernel_rfl) (by kernel_rfl) (by kernel_rfl)
theorem f20r3_f20e0 {R : Type} (call : Bool → CallF R) (dem : Bool) (N : Nat) (y0 : Int) (J : KF R) (σ : St) :
    runK Try.prog call dem N f20c3 f20a3 J (f20e0 y0) σ =
if decide (y0 ≥ (0 : Int)) = true then
  J Ex.normal (f20e2 y0 (decide (y0 ≤ (15 : Int))) y0 (decide (y0 ≥ (0 : Int))) true y0 (decide (y0 ≤ (15 : Int))) (decide (y0 ≤ (15 : Int)))) σ
else J Ex.normal (f20e3 y0 false y0 (decide (y0 ≥ (0 : Int))) false false) σ := hide (by kernel_rfl)
theorem f20z2_f20e2 (y0 : Int) (y1 : Bool) (y2 : Int) (y3 : Bool) (y4 : Bool) (y5 : Int) (y6 : Bool) (y7 : Bool) : Ann.clr f20a2 (f20e2 y0 y1 y2 y3 y4 y5 y6 y7) = f20e4 y1 := hide (by kernel_rfl)
theorem f20y4_f20e4 {R : Type} (call : Bool → CallF R) (dem : Bool) (N : Nat) (y0 : Bool) (J : KF R) (σ : St) : runK Try.prog call dem N f20c4 f20a4 J (f20e4 y0) σ = J .ret (f20e4 y0) σ := runK_ret' (by kernel_rfl) (by kernel_rfl)
theorem f20z2_f20e3 (y0 : Int) (y1 : Bool) (y2 : Int) (y3 : Bool) (y4 : Bool) (y5 : Bool) : Ann.clr f20a2 (f20e3 y0 y1 y2 y3 y4 y5) = f20e4 y1 := hide (by kernel_rfl)
theorem f20b_f20e4_r {R : Type} (y0 : Bool) (σ : St) (K : AV → St → Option R) : bodyC Try.prog f20rs K (Ex.ret) (f20e4 y0) σ =
K (AV.bool y0) σ := hide (by kernel_rfl)
attribute [go_sem] f20_eq f20n0 f20r1_f20e0 f20z0_f20e1 f20n2 f20r3_f20e0 f20z2_f20e2 f20y4_f20e4 f20z2_f20e3 f20b_f20e4_r

noncomputable def f22rs : List ResultVar := [ResultVar.tmp (4 : Nat)]
noncomputable def f22c0 : Code := subCode [] (bodyOf Try.prog 22)
def f22a0 : Ann := subAnn [] ann22
noncomputable def f22c1 : Code := subCode [0] (bodyOf Try.prog 22)
def f22a1 : Ann := subAnn [0] ann22
noncomputable def f22c2 : Code := subCode [1] (bodyOf Try.prog 22)
def f22a2 : Ann := subAnn [1] ann22
noncomputable def f22c3 : Code := subCode [1, 0] (bodyOf Try.prog 22)
def f22a3 : Ann := subAnn [1, 0] ann22
noncomputable def f22c4 : Code := subCode [1, 1] (bodyOf Try.prog 22)
def f22a4 : Ann := subAnn [1, 1] ann22
def f22e0 (y0 : Option (Nat × Nat)) (y1 : Int) : Env := AV.ptr y0 :: AV.int IntKind.i64 y1 :: Env.sp 19 []
def f22e1 (y0 : Option (Nat × Nat)) (y1 : Int) (y2 : Bool) : Env := AV.ptr y0 :: AV.int IntKind.i64 y1 :: Env.sp 2 (AV.bool y2 :: Env.sp 16 [])
def f22e2 (y0 : Option (Nat × Nat)) (y1 : Int) (y2 : Bool) (y3 : Option (Nat × Nat)) (y4 : Bool) (y5 : Bool) (y6 : Int) (y7 : Bool) (y8 : Bool) (y9 : Bool) (y10 : Option (Nat × Nat)) (y11 : Int) (y12 : Option (Nat × Nat)) (y13 : Option (Nat × Nat)) (y14 : Option (Nat × Nat)) (y15 : Option (Nat × Nat)) (y16 : Int) (y17 : Bool) (y18 : Bool) : Env := AV.ptr y0 :: AV.int IntKind.i64 y1 :: Env.sp 2 (AV.bool y2 :: AV.ptr y3 :: AV.bool y4 :: AV.bool y5 :: AV.int IntKind.i64 y6 :: AV.bool y7 :: AV.bool y8 :: AV.bool y9 :: AV.ptr y10 :: AV.int IntKind.i64 y11 :: AV.ptr y12 :: AV.ptr y13 :: AV.ptr y14 :: AV.ptr y15 :: AV.int IntKind.i64 y16 :: AV.bool y17 :: AV.bool y18 :: [])
def f22e3 (y0 : Option (Nat × Nat)) (y1 : Int) (y2 : Bool) (y3 : Option (Nat × Nat)) (y4 : Bool) (y5 : Bool) (y6 : Int) (y7 : Bool) (y8 : Bool) (y9 : Bool) (y10 : Bool) : Env := AV.ptr y0 :: AV.int IntKind.i64 y1 :: Env.sp 2 (AV.bool y2 :: AV.ptr y3 :: AV.bool y4 :: AV.bool y5 :: AV.int IntKind.i64 y6 :: AV.bool y7 :: AV.bool y8 :: AV.bool y9 :: AV.tuple [] :: AV.tuple [] :: AV.tuple [] :: AV.tuple [] :: AV.tuple [] :: AV.tuple [] :: AV.tuple [] :: AV.tuple [] :: AV.bool y10 :: [])
def f22e4 (y0 : Option (Nat × Nat)) (y1 : Int) (y2 : Bool) (y3 : Option (Nat × Nat)) (y4 : Bool) (y5 : Bool) (y6 : Bool) (y7 : Bool) (y8 : Bool) : Env := AV.ptr y0 :: AV.int IntKind.i64 y1 :: Env.sp 2 (AV.bool y2 :: AV.ptr y3 :: AV.bool y4 :: AV.bool y5 :: AV.tuple [] :: AV.tuple [] :: AV.bool y6 :: AV.bool y7 :: AV.tuple [] :: AV.tuple [] :: AV.tuple [] :: AV.tuple [] :: AV.tuple [] :: AV.tuple [] :: AV.tuple [] :: AV.tuple [] :: AV.bool y8 :: [])
def f22e5 (y0 : Bool) : Env := Env.sp 4 (AV.bool y0 :: Env.sp 16 [])

/- function 22 -/
theorem f22_eq {R : Type} (call : Bool → CallF R) (dem : Bool) (N : Nat) (y0 : Option (Nat × Nat)) (y1 : Int) (σ : St) (K : AV → St → Option R) :
    bodyK Try.prog call dem N ann 22 [AV.ptr y0, AV.int IntKind.i64 y1] σ K = runK Try.prog call dem N f22c0 f22a0 (bodyC Try.prog f22rs K) (f22e0 y0 y1) σ := bodyK_of (fn := ((Try.prog.funcs[22]?).get rfl)) (by kernel_rfl) (by kernel_rfl) (by kernel_rfl) (by kernel_rfl) (by kernel_rfl) (by kernel_rfl)
theorem f22n0 {R : Type} (call : Bool → CallF R) (dem : Bool) (N : Nat) (J : KF R) (e : Env) (σ : St) : runK Try.prog call dem N f22c0 f22a0 J e σ = runK Try.prog call dem N f22c1 f22a1 (seqC (fun K e σ => runK Try.prog call dem N f22c2 f22a2 K e σ) f22a0 J) e σ := runK_seq' (by kernel_rfl) (by kernel_rfl) (by kernel_rfl)
theorem f22r1_f22e0 {R : Type} (call : Bool → CallF R) (dem : Bool) (N : Nat) (y0 : Option (Nat × Nat)) (y1 : Int) (J : KF R) (σ : St) :
    runK Try.prog call dem N f22c1 f22a1 J (f22e0 y0 y1) σ =
J Ex.normal (f22e1 y0 y1 false) σ := hide (by kernel_rfl)
theorem f22z0_f22e1 (y0 : Option (Nat × Nat)) (y1 : Int) (y2 : Bool) : Ann.clr f22a0 (f22e1 y0 y1 y2) = f22e0 y0 y1 := hide (by kernel_rfl)
theorem f22n2 {R : Type} (call : Bool → CallF R) (dem : Bool) (N : Nat) (J : KF R) (e : Env) (σ : St) : runK Try.prog call dem N f22c2 f22a2 J e σ = runK Try.prog call dem N f22c3 f22a3 (seqC (fun K e σ => runK Try.prog call dem N f22c4 f22a4 K e σ) f22a2 J) e σ := runK_seq' (by kernel_rfl) (by kernel_rfl) (by kernel_rfl)
theorem f22r3_f22e0 {R : Type} (call : Bool → CallF R) (dem : Bool) (N : Nat) (y0 : Option (Nat × Nat)) (y1 : Int) (J : KF R) (σ : St) :
    runK Try.prog call dem N f22c3 f22a3 J (f22e0 y0 y1) σ =
if (!Option.isNone y0) = true then
  call dem (20 : Nat) [AV.int IntKind.i64 y1] σ fun v0 v1 =>
    Option.bind (AV.toBool v0) fun v2 =>
      if v2 = true then
        Option.bind y0 fun v3 =>
          if (0 : Nat) < (4 : Nat) ∧ (0 : Int) ≤ y1 ∧ y1 < (16 : Int) then
            Option.bind (St.ld v1 (Prod.fst v3) (Prod.snd v3 + (3 : Nat) + Int.toNat y1 * (4 : Nat) + (2 : Nat))) fun v4 =>
              Option.bind (AV.toInt IntKind.i64 v4) fun v5 =>
                J Ex.normal
                  (f22e2 y0 y1 (decide (v5 > (0 : Int))) y0 (!Option.isNone y0) true y1 v2 v2 true y0 y1 (some v3)
                    (some (Prod.fst v3, Prod.snd v3 + (3 : Nat))) (some (Prod.fst v3, Prod.snd v3 + (3 : Nat) + Int.toNat y1 * (4 : Nat)))
                    (some (Prod.fst v3, Prod.snd v3 + (3 : Nat) + Int.toNat y1 * (4 : Nat) + (2 : Nat))) v5 (decide (v5 > (0 : Int)))
                    (decide (v5 > (0 : Int))))
                  v1
          else none
      else J Ex.normal (f22e3 y0 y1 false y0 (!Option.isNone y0) true y1 v2 v2 false false) v1
else J Ex.normal (f22e4 y0 y1 false y0 (!Option.isNone y0) false false false false) σ := hide (by kernel_rfl)
theorem f22z2_f22e2 (y0 : Option (Nat × Nat)) (y1 : Int) (y2 : Bool) (y3 : Option (Nat × Nat)) (y4 : Bool) (y5 : Bool) (y6 : Int) (y7 : Bool) (y8 : Bool) (y9 : Bool) (y10 : Option (Nat × Nat)) (y11 : Int) (y12 : Option (Nat × Nat)) (y13 : Option (Nat × Nat)) (y14 : Option (Nat × Nat)) (y15 : Option (Nat × Nat)) (y16 : Int) (y17 : Bool) (y18 : Bool) : Ann.clr f22a2 (f22e2 y0 y1 y2 y3 y4 y5 y6 y7 y8 y9 y10 y11 y12 y13 y14 y15 y16 y17 y18) = f22e5 y2 := hide (by kernel_rfl)
theorem f22y4_f22e5 {R : Type} (call : Bool → CallF R) (dem : Bool) (N : Nat) (y0 : Bool) (J : KF R) (σ : St) : runK Try.prog call dem N f22c4 f22a4 J (f22e5 y0) σ = J .ret (f22e5 y0) σ := runK_ret' (by kernel_rfl) (by kernel_rfl)
theorem f22z2_f22e3 (y0 : Option (Nat × Nat)) (y1 : Int) (y2 : Bool) (y3 : Option (Nat × Nat)) (y4 : Bool) (y5 : Bool) (y6 : Int) (y7 : Bool) (y8 : Bool) (y9 : Bool) (y10 : Bool) : Ann.clr f22a2 (f22e3 y0 y1 y2 y3 y4 y5 y6 y7 y8 y9 y10) = f22e5 y2 := hide (by kernel_rfl)
theorem f22z2_f22e4 (y0 : Option (Nat × Nat)) (y1 : Int) (y2 : Bool) (y3 : Option (Nat × Nat)) (y4 : Bool) (y5 : Bool) (y6 : Bool) (y7 : Bool) (y8 : Bool) : Ann.clr f22a2 (f22e4 y0 y1 y2 y3 y4 y5 y6 y7 y8) = f22e5 y2 := hide (by kernel_rfl)
theorem f22b_f22e5_r {R : Type} (y0 : Bool) (σ : St) (K : AV → St → Option R) : bodyC Try.prog f22rs K (Ex.ret) (f22e5 y0) σ =
K (AV.bool y0) σ := hide (by kernel_rfl)
attribute [go_sem] f22_eq f22n0 f22r1_f22e0 f22z0_f22e1 f22n2 f22r3_f22e0 f22z2_f22e2 f22y4_f22e5 f22z2_f22e3 f22z2_f22e4 f22b_f22e5_r

noncomputable def f11rs : List ResultVar := [ResultVar.tmp (4 : Nat), ResultVar.tmp (5 : Nat)]
noncomputable def f11c0 : Code := subCode [] (bodyOf Try.prog 11)
def f11a0 : Ann := subAnn [] ann11
noncomputable def f11c1 : Code := subCode [0] (bodyOf Try.prog 11)
def f11a1 : Ann := subAnn [0] ann11
noncomputable def f11c2 : Code := subCode [1] (bodyOf Try.prog 11)
def f11a2 : Ann := subAnn [1] ann11
noncomputable def f11c3 : Code := subCode [1, 0] (bodyOf Try.prog 11)
def f11a3 : Ann := subAnn [1, 0] ann11
noncomputable def f11c4 : Code := subCode [1, 1] (bodyOf Try.prog 11)
def f11a4 : Ann := subAnn [1, 1] ann11
noncomputable def f11c5 : Code := subCode [1, 0, 0] (bodyOf Try.prog 11)
def f11a5 : Ann := subAnn [1, 0, 0] ann11
noncomputable def f11c6 : Code := subCode [1, 0, 1] (bodyOf Try.prog 11)
def f11a6 : Ann := subAnn [1, 0, 1] ann11
noncomputable def f11c7 : Code := subCode [1, 0, 1, 0] (bodyOf Try.prog 11)
def f11a7 : Ann := subAnn [1, 0, 1, 0] ann11
noncomputable def f11c8 : Code := subCode [1, 0, 1, 1] (bodyOf Try.prog 11)
def f11a8 : Ann := subAnn [1, 0, 1, 1] ann11
noncomputable def f11c9 : Code := subCode [1, 0, 1, 0, 0] (bodyOf Try.prog 11)
def f11a9 : Ann := subAnn [1, 0, 1, 0, 0] ann11
noncomputable def f11c10 : Code := subCode [1, 0, 1, 0, 1] (bodyOf Try.prog 11)
def f11a10 : Ann := subAnn [1, 0, 1, 0, 1] ann11
noncomputable def f11c11 : Code := subCode [1, 1, 0] (bodyOf Try.prog 11)
def f11a11 : Ann := subAnn [1, 1, 0] ann11
noncomputable def f11c12 : Code := subCode [1, 1, 1] (bodyOf Try.prog 11)
def f11a12 : Ann := subAnn [1, 1, 1] ann11
def f11e0 (y0 : Option (Nat × Nat)) (y1 : Int) : Env := AV.ptr y0 :: AV.int IntKind.i64 y1 :: Env.sp 15 []
def f11e1 (y0 : Option (Nat × Nat)) (y1 : Int) (y2 : Int) (y3 : Bool) : Env := AV.ptr y0 :: AV.int IntKind.i64 y1 :: Env.sp 2 (AV.int IntKind.i64 y2 :: AV.bool y3 :: Env.sp 11 [])
def f11e2 (y0 : Option (Nat × Nat)) (y1 : Int) (y2 : Option (Nat × Nat)) (y3 : Int) (y4 : Bool) (y5 : Bool) : Env := AV.ptr y0 :: AV.int IntKind.i64 y1 :: Env.sp 4 (AV.ptr y2 :: AV.int IntKind.i64 y3 :: AV.bool y4 :: AV.bool y5 :: Env.sp 7 [])
def f11e3 (y0 : Option (Nat × Nat)) (y1 : Int) (y2 : Bool) : Env := AV.ptr y0 :: AV.int IntKind.i64 y1 :: Env.sp 7 (AV.bool y2 :: Env.sp 7 [])
def f11e4 (y0 : Option (Nat × Nat)) (y1 : Int) (y2 : Int) (y3 : Bool) (y4 : Bool) : Env := AV.ptr y0 :: AV.int IntKind.i64 y1 :: Env.sp 2 (AV.int IntKind.i64 y2 :: AV.bool y3 :: Env.sp 3 (AV.bool y4 :: Env.sp 7 []))
def f11e5 (y0 : Int) (y1 : Bool) : Env := Env.sp 4 (AV.int IntKind.i64 y0 :: AV.bool y1 :: Env.sp 11 [])
def f11e6 (y0 : Option (Nat × Nat)) (y1 : Int) (y2 : Int) (y3 : Bool) (y4 : Option (Nat × Nat)) (y5 : Int) (y6 : Option (Nat × Nat)) (y7 : Option (Nat × Nat)) (y8 : Option (Nat × Nat)) (y9 : Option (Nat × Nat)) (y10 : Int) : Env := AV.ptr y0 :: AV.int IntKind.i64 y1 :: Env.sp 2 (AV.int IntKind.i64 y2 :: AV.bool y3 :: Env.sp 4 (AV.ptr y4 :: AV.int IntKind.i64 y5 :: AV.ptr y6 :: AV.ptr y7 :: AV.ptr y8 :: AV.ptr y9 :: AV.int IntKind.i64 y10 :: []))

/- function 11 -/
theorem f11_eq {R : Type} (call : Bool → CallF R) (dem : Bool) (N : Nat) (y0 : Option (Nat × Nat)) (y1 : Int) (σ : St) (K : AV → St → Option R) :
    bodyK Try.prog call dem N ann 11 [AV.ptr y0, AV.int IntKind.i64 y1] σ K = runK Try.prog call dem N f11c0 f11a0 (bodyC Try.prog f11rs K) (f11e0 y0 y1) σ := bodyK_of (fn := ((Try.prog.funcs[11]?).get rfl)) (by kernel_rfl) (by kernel_rfl) (by kernel_rfl) (by kernel_rfl) (by kernel_rfl) (by kernel_rfl)
theorem f11n0 {R : Type} (call : Bool → CallF R) (dem : Bool) (N : Nat) (J : KF R) (e : Env) (σ : St) : runK Try.prog call dem N f11c0 f11a0 J e σ = runK Try.prog call dem N f11c1 f11a1 (seqC (fun K e σ => runK Try.prog call dem N f11c2 f11a2 K e σ) f11a0 J) e σ := runK_seq' (by kernel_rfl) (by kernel_rfl) (by kernel_rfl)
theorem f11r1_f11e0 {R : Type} (call : Bool → CallF R) (dem : Bool) (N : Nat) (y0 : Option (Nat × Nat)) (y1 : Int) (J : KF R) (σ : St) :
    runK Try.prog call dem N f11c1 f11a1 J (f11e0 y0 y1) σ =
J Ex.normal (f11e1 y0 y1 (0 : Int) false) σ := hide (by kernel_rfl)
theorem f11z0_f11e1 (y0 : Option (Nat × Nat)) (y1 : Int) (y2 : Int) (y3 : Bool) : Ann.clr f11a0 (f11e1 y0 y1 y2 y3) = f11e0 y0 y1 := hide (by kernel_rfl)
theorem f11n2 {R : Type} (call : Bool → CallF R) (dem : Bool) (N : Nat) (J : KF R) (e : Env) (σ : St) : runK Try.prog call dem N f11c2 f11a2 J e σ = runK Try.prog call dem N f11c3 f11a3 (seqC (fun K e σ => runK Try.prog call dem N f11c4 f11a4 K e σ) f11a2 J) e σ := runK_seq' (by kernel_rfl) (by kernel_rfl) (by kernel_rfl)
theorem f11n3 {R : Type} (call : Bool → CallF R) (dem : Bool) (N : Nat) (J : KF R) (e : Env) (σ : St) : runK Try.prog call dem N f11c3 f11a3 J e σ = runK Try.prog call dem N f11c5 f11a5 (seqC (fun K e σ => runK Try.prog call dem N f11c6 f11a6 K e σ) f11a3 J) e σ := runK_seq' (by kernel_rfl) (by kernel_rfl) (by kernel_rfl)
theorem f11r5_f11e0 {R : Type} (call : Bool → CallF R) (dem : Bool) (N : Nat) (y0 : Option (Nat × Nat)) (y1 : Int) (J : KF R) (σ : St) :
    runK Try.prog call dem N f11c5 f11a5 J (f11e0 y0 y1) σ =
call dem (22 : Nat) [AV.ptr y0, AV.int IntKind.i64 y1] σ fun v0 v1 => Option.bind (AV.toBool v0) fun v2 => J Ex.normal (f11e2 y0 y1 y0 y1 v2 !v2) v1 := hide (by kernel_rfl)
theorem f11z3_f11e2 (y0 : Option (Nat × Nat)) (y1 : Int) (y2 : Option (Nat × Nat)) (y3 : Int) (y4 : Bool) (y5 : Bool) : Ann.clr f11a3 (f11e2 y0 y1 y2 y3 y4 y5) = f11e3 y0 y1 y5 := hide (by kernel_rfl)
theorem f11x6_f11e3 {R : Type} (call : Bool → CallF R) (dem : Bool) (N : Nat) (y0 : Option (Nat × Nat)) (y1 : Int) (y2 : Bool) (J : KF R) (σ : St) : runK Try.prog call dem N f11c6 f11a6 J (f11e3 y0 y1 y2) σ = if y2 = true then runK Try.prog call dem N f11c7 f11a7 (condC f11a6 J) (f11e3 y0 y1 y2) σ else runK Try.prog call dem N f11c8 f11a8 (condC f11a6 J) (f11e3 y0 y1 y2) σ := runK_cond' (o := Operand.tmp (9 : Nat)) (by kernel_rfl) (by kernel_rfl) (by kernel_rfl) (by kernel_rfl)
theorem f11n7 {R : Type} (call : Bool → CallF R) (dem : Bool) (N : Nat) (J : KF R) (e : Env) (σ : St) : runK Try.prog call dem N f11c7 f11a7 J e σ = runK Try.prog call dem N f11c9 f11a9 (seqC (fun K e σ => runK Try.prog call dem N f11c10 f11a10 K e σ) f11a7 J) e σ := runK_seq' (by kernel_rfl) (by kernel_rfl) (by kernel_rfl)
theorem f11r9_f11e3 {R : Type} (call : Bool → CallF R) (dem : Bool) (N : Nat) (y0 : Option (Nat × Nat)) (y1 : Int) (y2 : Bool) (J : KF R) (σ : St) :
    runK Try.prog call dem N f11c9 f11a9 J (f11e3 y0 y1 y2) σ =
J Ex.normal (f11e4 y0 y1 (0 : Int) false y2) σ := hide (by kernel_rfl)
theorem f11z7_f11e4 (y0 : Option (Nat × Nat)) (y1 : Int) (y2 : Int) (y3 : Bool) (y4 : Bool) : Ann.clr f11a7 (f11e4 y0 y1 y2 y3 y4) = f11e5 y2 y3 := hide (by kernel_rfl)
theorem f11y10_f11e5 {R : Type} (call : Bool → CallF R) (dem : Bool) (N : Nat) (y0 : Int) (y1 : Bool) (J : KF R) (σ : St) : runK Try.prog call dem N f11c10 f11a10 J (f11e5 y0 y1) σ = J .ret (f11e5 y0 y1) σ := runK_ret' (by kernel_rfl) (by kernel_rfl)
theorem f11n8 {R : Type} (call : Bool → CallF R) (dem : Bool) (N : Nat) (J : KF R) (e : Env) (σ : St) : runK Try.prog call dem N f11c8 f11a8 J e σ = J .normal e σ := runK_skip' (by kernel_rfl)
theorem f11z6_f11e3 (y0 : Option (Nat × Nat)) (y1 : Int) (y2 : Bool) : Ann.clr f11a6 (f11e3 y0 y1 y2) = f11e0 y0 y1 := hide (by kernel_rfl)
theorem f11z2_f11e0 (y0 : Option (Nat × Nat)) (y1 : Int) : Ann.clr f11a2 (f11e0 y0 y1) = f11e0 y0 y1 := hide (by kernel_rfl)
theorem f11n4 {R : Type} (call : Bool → CallF R) (dem : Bool) (N : Nat) (J : KF R) (e : Env) (σ : St) : runK Try.prog call dem N f11c4 f11a4 J e σ = runK Try.prog call dem N f11c11 f11a11 (seqC (fun K e σ => runK Try.prog call dem N f11c12 f11a12 K e σ) f11a4 J) e σ := runK_seq' (by kernel_rfl) (by kernel_rfl) (by kernel_rfl)
theorem f11r11_f11e0 {R : Type} (call : Bool → CallF R) (dem : Bool) (N : Nat) (y0 : Option (Nat × Nat)) (y1 : Int) (J : KF R) (σ : St) :
    runK Try.prog call dem N f11c11 f11a11 J (f11e0 y0 y1) σ =
Option.bind y0 fun v0 =>
  if (0 : Nat) < (4 : Nat) ∧ (0 : Int) ≤ y1 ∧ y1 < (16 : Int) then
    Option.bind (St.ld σ (Prod.fst v0) (Prod.snd v0 + (3 : Nat) + Int.toNat y1 * (4 : Nat) + (1 : Nat))) fun v1 =>
      Option.bind (AV.toInt IntKind.i64 v1) fun v2 =>
        J Ex.normal
          (f11e6 y0 y1 v2 true y0 y1 (some v0) (some (Prod.fst v0, Prod.snd v0 + (3 : Nat)))
            (some (Prod.fst v0, Prod.snd v0 + (3 : Nat) + Int.toNat y1 * (4 : Nat)))
            (some (Prod.fst v0, Prod.snd v0 + (3 : Nat) + Int.toNat y1 * (4 : Nat) + (1 : Nat))) v2)
          σ
  else none := hide (by kernel_rfl)
theorem f11z4_f11e6 (y0 : Option (Nat × Nat)) (y1 : Int) (y2 : Int) (y3 : Bool) (y4 : Option (Nat × Nat)) (y5 : Int) (y6 : Option (Nat × Nat)) (y7 : Option (Nat × Nat)) (y8 : Option (Nat × Nat)) (y9 : Option (Nat × Nat)) (y10 : Int) : Ann.clr f11a4 (f11e6 y0 y1 y2 y3 y4 y5 y6 y7 y8 y9 y10) = f11e5 y2 y3 := hide (by kernel_rfl)
theorem f11y12_f11e5 {R : Type} (call : Bool → CallF R) (dem : Bool) (N : Nat) (y0 : Int) (y1 : Bool) (J : KF R) (σ : St) : runK Try.prog call dem N f11c12 f11a12 J (f11e5 y0 y1) σ = J .ret (f11e5 y0 y1) σ := runK_ret' (by kernel_rfl) (by kernel_rfl)
theorem f11b_f11e5_r {R : Type} (y0 : Int) (y1 : Bool) (σ : St) (K : AV → St → Option R) : bodyC Try.prog f11rs K (Ex.ret) (f11e5 y0 y1) σ =
K (AV.tuple [AV.int IntKind.i64 y0, AV.bool y1]) σ := hide (by kernel_rfl)
attribute [go_sem] f11_eq f11n0 f11r1_f11e0 f11z0_f11e1 f11n2 f11n3 f11r5_f11e0 f11z3_f11e2 f11x6_f11e3 f11n7 f11r9_f11e3 f11z7_f11e4 f11y10_f11e5 f11n8 f11z6_f11e3 f11z2_f11e0 f11n4 f11r11_f11e0 f11z4_f11e6 f11y12_f11e5 f11b_f11e5_r

noncomputable def f14rs : List ResultVar := [ResultVar.tmp (4 : Nat), ResultVar.tmp (5 : Nat)]
noncomputable def f14c0 : Code := subCode [] (bodyOf Try.prog 14)
def f14a0 : Ann := subAnn [] ann14
noncomputable def f14c1 : Code := subCode [0] (bodyOf Try.prog 14)
def f14a1 : Ann := subAnn [0] ann14
noncomputable def f14c2 : Code := subCode [1] (bodyOf Try.prog 14)
def f14a2 : Ann := subAnn [1] ann14
noncomputable def f14c3 : Code := subCode [1, 0] (bodyOf Try.prog 14)
def f14a3 : Ann := subAnn [1, 0] ann14
noncomputable def f14c4 : Code := subCode [1, 1] (bodyOf Try.prog 14)
def f14a4 : Ann := subAnn [1, 1] ann14
noncomputable def f14c5 : Code := subCode [1, 0, 0] (bodyOf Try.prog 14)
def f14a5 : Ann := subAnn [1, 0, 0] ann14
noncomputable def f14c6 : Code := subCode [1, 0, 1] (bodyOf Try.prog 14)
def f14a6 : Ann := subAnn [1, 0, 1] ann14
noncomputable def f14c7 : Code := subCode [1, 0, 1, 0] (bodyOf Try.prog 14)
def f14a7 : Ann := subAnn [1, 0, 1, 0] ann14
noncomputable def f14c8 : Code := subCode [1, 0, 1, 1] (bodyOf Try.prog 14)
def f14a8 : Ann := subAnn [1, 0, 1, 1] ann14
noncomputable def f14c9 : Code := subCode [1, 0, 1, 0, 0] (bodyOf Try.prog 14)
def f14a9 : Ann := subAnn [1, 0, 1, 0, 0] ann14
noncomputable def f14c10 : Code := subCode [1, 0, 1, 0, 1] (bodyOf Try.prog 14)
def f14a10 : Ann := subAnn [1, 0, 1, 0, 1] ann14
noncomputable def f14c11 : Code := subCode [1, 1, 0] (bodyOf Try.prog 14)
def f14a11 : Ann := subAnn [1, 1, 0] ann14
noncomputable def f14c12 : Code := subCode [1, 1, 1] (bodyOf Try.prog 14)
def f14a12 : Ann := subAnn [1, 1, 1] ann14
noncomputable def f14c13 : Code := subCode [1, 1, 0, 0] (bodyOf Try.prog 14)
def f14a13 : Ann := subAnn [1, 1, 0, 0] ann14
noncomputable def f14c14 : Code := subCode [1, 1, 0, 1] (bodyOf Try.prog 14)
def f14a14 : Ann := subAnn [1, 1, 0, 1] ann14
noncomputable def f14c15 : Code := subCode [1, 1, 0, 1, 0] (bodyOf Try.prog 14)
def f14a15 : Ann := subAnn [1, 1, 0, 1, 0] ann14
noncomputable def f14c16 : Code := subCode [1, 1, 0, 1, 1] (bodyOf Try.prog 14)
def f14a16 : Ann := subAnn [1, 1, 0, 1, 1] ann14
noncomputable def f14c17 : Code := subCode [1, 1, 0, 1, 0, 0] (bodyOf Try.prog 14)
def f14a17 : Ann := subAnn [1, 1, 0, 1, 0, 0] ann14
noncomputable def f14c18 : Code := subCode [1, 1, 0, 1, 0, 1] (bodyOf Try.prog 14)
def f14a18 : Ann := subAnn [1, 1, 0, 1, 0, 1] ann14
noncomputable def f14c19 : Code := subCode [1, 1, 1, 0] (bodyOf Try.prog 14)
def f14a19 : Ann := subAnn [1, 1, 1, 0] ann14
noncomputable def f14c20 : Code := subCode [1, 1, 1, 1] (bodyOf Try.prog 14)
def f14a20 : Ann := subAnn [1, 1, 1, 1] ann14
noncomputable def f14c21 : Code := subCode [1, 1, 1, 1, 0] (bodyOf Try.prog 14)
def f14a21 : Ann := subAnn [1, 1, 1, 1, 0] ann14
noncomputable def f14c22 : Code := subCode [1, 1, 1, 1, 1] (bodyOf Try.prog 14)
def f14a22 : Ann := subAnn [1, 1, 1, 1, 1] ann14
def f14e0 (y0 : Option (Nat × Nat)) (y1 : Int) : Env := AV.ptr y0 :: AV.int IntKind.i64 y1 :: Env.sp 17 []
def f14e1 (y0 : Option (Nat × Nat)) (y1 : Int) (y2 : Bool) (y3 : Int) : Env := AV.ptr y0 :: AV.int IntKind.i64 y1 :: Env.sp 2 (AV.bool y2 :: AV.int IntKind.i64 y3 :: Env.sp 13 [])
def f14e2 (y0 : Option (Nat × Nat)) (y1 : Int) (y2 : Int) (y3 : Bool) (y4 : Bool) : Env := AV.ptr y0 :: AV.int IntKind.i64 y1 :: Env.sp 4 (AV.int IntKind.i64 y2 :: AV.bool y3 :: AV.bool y4 :: Env.sp 10 [])
def f14e3 (y0 : Option (Nat × Nat)) (y1 : Int) (y2 : Bool) : Env := AV.ptr y0 :: AV.int IntKind.i64 y1 :: Env.sp 6 (AV.bool y2 :: Env.sp 10 [])
def f14e4 (y0 : Option (Nat × Nat)) (y1 : Int) (y2 : Bool) (y3 : Int) (y4 : Bool) : Env := AV.ptr y0 :: AV.int IntKind.i64 y1 :: Env.sp 2 (AV.bool y2 :: AV.int IntKind.i64 y3 :: Env.sp 2 (AV.bool y4 :: Env.sp 10 []))
def f14e5 (y0 : Bool) (y1 : Int) : Env := Env.sp 4 (AV.bool y0 :: AV.int IntKind.i64 y1 :: Env.sp 13 [])
def f14e6 (y0 : Option (Nat × Nat)) (y1 : Int) (y2 : Option (Nat × Nat)) (y3 : Int) (y4 : Bool) (y5 : Bool) : Env := AV.ptr y0 :: AV.int IntKind.i64 y1 :: Env.sp 7 (AV.ptr y2 :: AV.int IntKind.i64 y3 :: AV.bool y4 :: AV.bool y5 :: Env.sp 6 [])
def f14e7 (y0 : Option (Nat × Nat)) (y1 : Int) (y2 : Bool) : Env := AV.ptr y0 :: AV.int IntKind.i64 y1 :: Env.sp 10 (AV.bool y2 :: Env.sp 6 [])
def f14e8 (y0 : Option (Nat × Nat)) (y1 : Int) (y2 : Bool) (y3 : Int) (y4 : Bool) : Env := AV.ptr y0 :: AV.int IntKind.i64 y1 :: Env.sp 2 (AV.bool y2 :: AV.int IntKind.i64 y3 :: Env.sp 6 (AV.bool y4 :: Env.sp 6 []))
def f14e9 (y0 : Option (Nat × Nat)) (y1 : Int) (y2 : Option (Nat × Nat)) (y3 : Int) (y4 : Int) (y5 : Int) (y6 : Int) (y7 : Int) (y8 : Option (Nat × Nat)) (y9 : Option (Nat × Nat)) (y10 : Option (Nat × Nat)) : Env := AV.ptr y0 :: AV.int IntKind.i64 y1 :: Env.sp 11 (AV.ptr y2 :: AV.int IntKind.i64 y3 :: AV.agg [AV.int IntKind.i64 y4, AV.int IntKind.i64 y5, AV.int IntKind.i64 y6, AV.int IntKind.i64 y7] :: AV.ptr y8 :: AV.ptr y9 :: AV.ptr y10 :: [])
def f14e10 : Env := Env.sp 19 []

/- function 14 -/
theorem f14_eq {R : Type} (call : Bool → CallF R) (dem : Bool) (N : Nat) (y0 : Option (Nat × Nat)) (y1 : Int) (σ : St) (K : AV → St → Option R) :
    bodyK Try.prog call dem N ann 14 [AV.ptr y0, AV.int IntKind.i64 y1] σ K = runK Try.prog call dem N f14c0 f14a0 (bodyC Try.prog f14rs K) (f14e0 y0 y1) σ := bodyK_of (fn := ((Try.prog.funcs[14]?).get rfl)) (by kernel_rfl) (by kernel_rfl) (by kernel_rfl) (by kernel_rfl) (by kernel_rfl) (by kernel_rfl)
theorem f14n0 {R : Type} (call : Bool → CallF R) (dem : Bool) (N : Nat) (J : KF R) (e : Env) (σ : St) : runK Try.prog call dem N f14c0 f14a0 J e σ = runK Try.prog call dem N f14c1 f14a1 (seqC (fun K e σ => runK Try.prog call dem N f14c2 f14a2 K e σ) f14a0 J) e σ := runK_seq' (by kernel_rfl) (by kernel_rfl) (by kernel_rfl)
theorem f14r1_f14e0 {R : Type} (call : Bool → CallF R) (dem : Bool) (N : Nat) (y0 : Option (Nat × Nat)) (y1 : Int) (J : KF R) (σ : St) :
    runK Try.prog call dem N f14c1 f14a1 J (f14e0 y0 y1) σ =
J Ex.normal (f14e1 y0 y1 false (0 : Int)) σ := hide (by kernel_rfl)
theorem f14z0_f14e1 (y0 : Option (Nat × Nat)) (y1 : Int) (y2 : Bool) (y3 : Int) : Ann.clr f14a0 (f14e1 y0 y1 y2 y3) = f14e0 y0 y1 := hide (by kernel_rfl)
theorem f14n2 {R : Type} (call : Bool → CallF R) (dem : Bool) (N : Nat) (J : KF R) (e : Env) (σ : St) : runK Try.prog call dem N f14c2 f14a2 J e σ = runK Try.prog call dem N f14c3 f14a3 (seqC (fun K e σ => runK Try.prog call dem N f14c4 f14a4 K e σ) f14a2 J) e σ := runK_seq' (by kernel_rfl) (by kernel_rfl) (by kernel_rfl)
theorem f14n3 {R : Type} (call : Bool → CallF R) (dem : Bool) (N : Nat) (J : KF R) (e : Env) (σ : St) : runK Try.prog call dem N f14c3 f14a3 J e σ = runK Try.prog call dem N f14c5 f14a5 (seqC (fun K e σ => runK Try.prog call dem N f14c6 f14a6 K e σ) f14a3 J) e σ := runK_seq' (by kernel_rfl) (by kernel_rfl) (by kernel_rfl)
theorem f14r5_f14e0 {R : Type} (call : Bool → CallF R) (dem : Bool) (N : Nat) (y0 : Option (Nat × Nat)) (y1 : Int) (J : KF R) (σ : St) :
    runK Try.prog call dem N f14c5 f14a5 J (f14e0 y0 y1) σ =
call dem (20 : Nat) [AV.int IntKind.i64 y1] σ fun v0 v1 => Option.bind (AV.toBool v0) fun v2 => J Ex.normal (f14e2 y0 y1 y1 v2 !v2) v1 := hide (by kernel_rfl)
theorem f14z3_f14e2 (y0 : Option (Nat × Nat)) (y1 : Int) (y2 : Int) (y3 : Bool) (y4 : Bool) : Ann.clr f14a3 (f14e2 y0 y1 y2 y3 y4) = f14e3 y0 y1 y4 := hide (by kernel_rfl)
theorem f14x6_f14e3 {R : Type} (call : Bool → CallF R) (dem : Bool) (N : Nat) (y0 : Option (Nat × Nat)) (y1 : Int) (y2 : Bool) (J : KF R) (σ : St) : runK Try.prog call dem N f14c6 f14a6 J (f14e3 y0 y1 y2) σ = if y2 = true then runK Try.prog call dem N f14c7 f14a7 (condC f14a6 J) (f14e3 y0 y1 y2) σ else runK Try.prog call dem N f14c8 f14a8 (condC f14a6 J) (f14e3 y0 y1 y2) σ := runK_cond' (o := Operand.tmp (8 : Nat)) (by kernel_rfl) (by kernel_rfl) (by kernel_rfl) (by kernel_rfl)
theorem f14n7 {R : Type} (call : Bool → CallF R) (dem : Bool) (N : Nat) (J : KF R) (e : Env) (σ : St) : runK Try.prog call dem N f14c7 f14a7 J e σ = runK Try.prog call dem N f14c9 f14a9 (seqC (fun K e σ => runK Try.prog call dem N f14c10 f14a10 K e σ) f14a7 J) e σ := runK_seq' (by kernel_rfl) (by kernel_rfl) (by kernel_rfl)
theorem f14r9_f14e3 {R : Type} (call : Bool → CallF R) (dem : Bool) (N : Nat) (y0 : Option (Nat × Nat)) (y1 : Int) (y2 : Bool) (J : KF R) (σ : St) :
    runK Try.prog call dem N f14c9 f14a9 J (f14e3 y0 y1 y2) σ =
J Ex.normal (f14e4 y0 y1 false (1 : Int) y2) σ := hide (by kernel_rfl)
theorem f14z7_f14e4 (y0 : Option (Nat × Nat)) (y1 : Int) (y2 : Bool) (y3 : Int) (y4 : Bool) : Ann.clr f14a7 (f14e4 y0 y1 y2 y3 y4) = f14e5 y2 y3 := hide (by kernel_rfl)
theorem f14y10_f14e5 {R : Type} (call : Bool → CallF R) (dem : Bool) (N : Nat) (y0 : Bool) (y1 : Int) (J : KF R) (σ : St) : runK Try.prog call dem N f14c10 f14a10 J (f14e5 y0 y1) σ = J .ret (f14e5 y0 y1) σ := runK_ret' (by kernel_rfl) (by kernel_rfl)
theorem f14n8 {R : Type} (call : Bool → CallF R) (dem : Bool) (N : Nat) (J : KF R) (e : Env) (σ : St) : runK Try.prog call dem N f14c8 f14a8 J e σ = J .normal e σ := runK_skip' (by kernel_rfl)
theorem f14z6_f14e3 (y0 : Option (Nat × Nat)) (y1 : Int) (y2 : Bool) : Ann.clr f14a6 (f14e3 y0 y1 y2) = f14e0 y0 y1 := hide (by kernel_rfl)
theorem f14z2_f14e0 (y0 : Option (Nat × Nat)) (y1 : Int) : Ann.clr f14a2 (f14e0 y0 y1) = f14e0 y0 y1 := hide (by kernel_rfl)
theorem f14n4 {R : Type} (call : Bool → CallF R) (dem : Bool) (N : Nat) (J : KF R) (e : Env) (σ : St) : runK Try.prog call dem N f14c4 f14a4 J e σ = runK Try.prog call dem N f14c11 f14a11 (seqC (fun K e σ => runK Try.prog call dem N f14c12 f14a12 K e σ) f14a4 J) e σ := runK_seq' (by kernel_rfl) (by kernel_rfl) (by kernel_rfl)
theorem f14n11 {R : Type} (call : Bool → CallF R) (dem : Bool) (N : Nat) (J : KF R) (e : Env) (σ : St) : runK Try.prog call dem N f14c11 f14a11 J e σ = runK Try.prog call dem N f14c13 f14a13 (seqC (fun K e σ => runK Try.prog call dem N f14c14 f14a14 K e σ) f14a11 J) e σ := runK_seq' (by kernel_rfl) (by kernel_rfl) (by kernel_rfl)
theorem f14r13_f14e0 {R : Type} (call : Bool → CallF R) (dem : Bool) (N : Nat) (y0 : Option (Nat × Nat)) (y1 : Int) (J : KF R) (σ : St) :
    runK Try.prog call dem N f14c13 f14a13 J (f14e0 y0 y1) σ =
call dem (22 : Nat) [AV.ptr y0, AV.int IntKind.i64 y1] σ fun v0 v1 => Option.bind (AV.toBool v0) fun v2 => J Ex.normal (f14e6 y0 y1 y0 y1 v2 !v2) v1 := hide (by kernel_rfl)
theorem f14z11_f14e6 (y0 : Option (Nat × Nat)) (y1 : Int) (y2 : Option (Nat × Nat)) (y3 : Int) (y4 : Bool) (y5 : Bool) : Ann.clr f14a11 (f14e6 y0 y1 y2 y3 y4 y5) = f14e7 y0 y1 y5 := hide (by kernel_rfl)
theorem f14x14_f14e7 {R : Type} (call : Bool → CallF R) (dem : Bool) (N : Nat) (y0 : Option (Nat × Nat)) (y1 : Int) (y2 : Bool) (J : KF R) (σ : St) : runK Try.prog call dem N f14c14 f14a14 J (f14e7 y0 y1 y2) σ = if y2 = true then runK Try.prog call dem N f14c15 f14a15 (condC f14a14 J) (f14e7 y0 y1 y2) σ else runK Try.prog call dem N f14c16 f14a16 (condC f14a14 J) (f14e7 y0 y1 y2) σ := runK_cond' (o := Operand.tmp (12 : Nat)) (by kernel_rfl) (by kernel_rfl) (by kernel_rfl) (by kernel_rfl)
theorem f14n15 {R : Type} (call : Bool → CallF R) (dem : Bool) (N : Nat) (J : KF R) (e : Env) (σ : St) : runK Try.prog call dem N f14c15 f14a15 J e σ = runK Try.prog call dem N f14c17 f14a17 (seqC (fun K e σ => runK Try.prog call dem N f14c18 f14a18 K e σ) f14a15 J) e σ := runK_seq' (by kernel_rfl) (by kernel_rfl) (by kernel_rfl)
theorem f14r17_f14e7 {R : Type} (call : Bool → CallF R) (dem : Bool) (N : Nat) (y0 : Option (Nat × Nat)) (y1 : Int) (y2 : Bool) (J : KF R) (σ : St) :
    runK Try.prog call dem N f14c17 f14a17 J (f14e7 y0 y1 y2) σ =
J Ex.normal (f14e8 y0 y1 false (0 : Int) y2) σ := hide (by kernel_rfl)
theorem f14z15_f14e8 (y0 : Option (Nat × Nat)) (y1 : Int) (y2 : Bool) (y3 : Int) (y4 : Bool) : Ann.clr f14a15 (f14e8 y0 y1 y2 y3 y4) = f14e5 y2 y3 := hide (by kernel_rfl)
theorem f14y18_f14e5 {R : Type} (call : Bool → CallF R) (dem : Bool) (N : Nat) (y0 : Bool) (y1 : Int) (J : KF R) (σ : St) : runK Try.prog call dem N f14c18 f14a18 J (f14e5 y0 y1) σ = J .ret (f14e5 y0 y1) σ := runK_ret' (by kernel_rfl) (by kernel_rfl)
theorem f14n16 {R : Type} (call : Bool → CallF R) (dem : Bool) (N : Nat) (J : KF R) (e : Env) (σ : St) : runK Try.prog call dem N f14c16 f14a16 J e σ = J .normal e σ := runK_skip' (by kernel_rfl)
theorem f14z14_f14e7 (y0 : Option (Nat × Nat)) (y1 : Int) (y2 : Bool) : Ann.clr f14a14 (f14e7 y0 y1 y2) = f14e0 y0 y1 := hide (by kernel_rfl)
theorem f14z4_f14e0 (y0 : Option (Nat × Nat)) (y1 : Int) : Ann.clr f14a4 (f14e0 y0 y1) = f14e0 y0 y1 := hide (by kernel_rfl)
theorem f14n12 {R : Type} (call : Bool → CallF R) (dem : Bool) (N : Nat) (J : KF R) (e : Env) (σ : St) : runK Try.prog call dem N f14c12 f14a12 J e σ = runK Try.prog call dem N f14c19 f14a19 (seqC (fun K e σ => runK Try.prog call dem N f14c20 f14a20 K e σ) f14a12 J) e σ := runK_seq' (by kernel_rfl) (by kernel_rfl) (by kernel_rfl)
theorem f14r19_f14e0 {R : Type} (call : Bool → CallF R) (dem : Bool) (N : Nat) (y0 : Option (Nat × Nat)) (y1 : Int) (J : KF R) (σ : St) :
    runK Try.prog call dem N f14c19 f14a19 J (f14e0 y0 y1) σ =
Option.bind y0 fun v0 =>
  if (0 : Nat) < (4 : Nat) ∧ (0 : Int) ≤ y1 ∧ y1 < (16 : Int) then
    Option.bind
      (St.st σ (Prod.fst v0) (Prod.snd v0 + (3 : Nat) + Int.toNat y1 * (4 : Nat))
        [AV.int IntKind.i64 (0 : Int), AV.int IntKind.i64 (0 : Int), AV.int IntKind.i64 (0 : Int), AV.int IntKind.i64 (0 : Int)])
      fun v1 =>
      J Ex.normal
        (f14e9 y0 y1 y0 y1 (0 : Int) (0 : Int) (0 : Int) (0 : Int) (some v0) (some (Prod.fst v0, Prod.snd v0 + (3 : Nat)))
          (some (Prod.fst v0, Prod.snd v0 + (3 : Nat) + Int.toNat y1 * (4 : Nat))))
        v1
  else none := hide (by kernel_rfl)
theorem f14z12_f14e9 (y0 : Option (Nat × Nat)) (y1 : Int) (y2 : Option (Nat × Nat)) (y3 : Int) (y4 : Int) (y5 : Int) (y6 : Int) (y7 : Int) (y8 : Option (Nat × Nat)) (y9 : Option (Nat × Nat)) (y10 : Option (Nat × Nat)) : Ann.clr f14a12 (f14e9 y0 y1 y2 y3 y4 y5 y6 y7 y8 y9 y10) = f14e10 := hide (by kernel_rfl)
theorem f14n20 {R : Type} (call : Bool → CallF R) (dem : Bool) (N : Nat) (J : KF R) (e : Env) (σ : St) : runK Try.prog call dem N f14c20 f14a20 J e σ = runK Try.prog call dem N f14c21 f14a21 (seqC (fun K e σ => runK Try.prog call dem N f14c22 f14a22 K e σ) f14a20 J) e σ := runK_seq' (by kernel_rfl) (by kernel_rfl) (by kernel_rfl)
theorem f14r21_f14e10 {R : Type} (call : Bool → CallF R) (dem : Bool) (N : Nat) (J : KF R) (σ : St) :
    runK Try.prog call dem N f14c21 f14a21 J (f14e10) σ =
J Ex.normal (f14e5 true (0 : Int)) σ := hide (by kernel_rfl)
theorem f14z20_f14e5 (y0 : Bool) (y1 : Int) : Ann.clr f14a20 (f14e5 y0 y1) = f14e5 y0 y1 := hide (by kernel_rfl)
theorem f14y22_f14e5 {R : Type} (call : Bool → CallF R) (dem : Bool) (N : Nat) (y0 : Bool) (y1 : Int) (J : KF R) (σ : St) : runK Try.prog call dem N f14c22 f14a22 J (f14e5 y0 y1) σ = J .ret (f14e5 y0 y1) σ := runK_ret' (by kernel_rfl) (by kernel_rfl)
theorem f14b_f14e5_r {R : Type} (y0 : Bool) (y1 : Int) (σ : St) (K : AV → St → Option R) : bodyC Try.prog f14rs K (Ex.ret) (f14e5 y0 y1) σ =
K (AV.tuple [AV.bool y0, AV.int IntKind.i64 y1]) σ := hide (by kernel_rfl)
attribute [go_sem] f14_eq f14n0 f14r1_f14e0 f14z0_f14e1 f14n2 f14n3 f14r5_f14e0 f14z3_f14e2 f14x6_f14e3 f14n7 f14r9_f14e3 f14z7_f14e4 f14y10_f14e5 f14n8 f14z6_f14e3 f14z2_f14e0 f14n4 f14n11 f14r13_f14e0 f14z11_f14e6 f14x14_f14e7 f14n15 f14r17_f14e7 f14z15_f14e8 f14y18_f14e5 f14n16 f14z14_f14e7 f14z4_f14e0 f14n12 f14r19_f14e0 f14z12_f14e9 f14n20 f14r21_f14e10 f14z20_f14e5 f14y22_f14e5 f14b_f14e5_r

end Go.Proofs.Ytciibgjmdgpgnaa
