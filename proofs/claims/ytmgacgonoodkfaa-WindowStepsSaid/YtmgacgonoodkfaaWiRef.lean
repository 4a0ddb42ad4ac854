/- What the machine does with each piece of code, in plain text. PRINTED by a program of this workplace; Lean checks it. -/
import Derived.Test.YtmgacgonoodkfaaWiAnn
import Derived.Test.YtmgacgonoodkfaaProg
import Derived.KernelRfl
import Derived.Attr
namespace Go.Proofs.Ytmgacgonoodkfaa
open Go.AM
set_option maxRecDepth 100000
set_option linter.unusedVariables false
noncomputable def f35rs : List ResultVar := [ResultVar.tmp (4 : Nat)]
noncomputable def f35c0 : Code := subCode [] (bodyOf Try.prog 35)
def f35a0 : Ann := subAnn [] ann35
noncomputable def f35c1 : Code := subCode [0] (bodyOf Try.prog 35)
def f35a1 : Ann := subAnn [0] ann35
noncomputable def f35c2 : Code := subCode [1] (bodyOf Try.prog 35)
def f35a2 : Ann := subAnn [1] ann35
noncomputable def f35c3 : Code := subCode [1, 0] (bodyOf Try.prog 35)
def f35a3 : Ann := subAnn [1, 0] ann35
noncomputable def f35c4 : Code := subCode [1, 1] (bodyOf Try.prog 35)
def f35a4 : Ann := subAnn [1, 1] ann35
def f35e0 (y0 : Int) (y1 : Int) : Env := AV.int IntKind.i64 y0 :: AV.int IntKind.i64 y1 :: Env.sp 17 []
def f35e1 (y0 : Int) (y1 : Int) (y2 : Bool) : Env := AV.int IntKind.i64 y0 :: AV.int IntKind.i64 y1 :: Env.sp 2 (AV.bool y2 :: Env.sp 14 [])
def f35e2 (y0 : Int) (y1 : Int) (y2 : Bool) (y3 : Int) (y4 : Bool) (y5 : Bool) (y6 : Int) (y7 : Bool) (y8 : Bool) (y9 : Bool) (y10 : Int) (y11 : Bool) (y12 : Bool) (y13 : Bool) (y14 : Int) (y15 : Bool) (y16 : Bool) : Env := AV.int IntKind.i64 y0 :: AV.int IntKind.i64 y1 :: Env.sp 2 (AV.bool y2 :: AV.int IntKind.i64 y3 :: AV.bool y4 :: AV.bool y5 :: AV.int IntKind.i64 y6 :: AV.bool y7 :: AV.bool y8 :: AV.bool y9 :: AV.int IntKind.i64 y10 :: AV.bool y11 :: AV.bool y12 :: AV.bool y13 :: AV.int IntKind.i64 y14 :: AV.bool y15 :: AV.bool y16 :: [])
def f35e3 (y0 : Int) (y1 : Int) (y2 : Bool) (y3 : Int) (y4 : Bool) (y5 : Bool) (y6 : Int) (y7 : Bool) (y8 : Bool) (y9 : Bool) (y10 : Int) (y11 : Bool) (y12 : Bool) (y13 : Bool) (y14 : Bool) : Env := AV.int IntKind.i64 y0 :: AV.int IntKind.i64 y1 :: Env.sp 2 (AV.bool y2 :: AV.int IntKind.i64 y3 :: AV.bool y4 :: AV.bool y5 :: AV.int IntKind.i64 y6 :: AV.bool y7 :: AV.bool y8 :: AV.bool y9 :: AV.int IntKind.i64 y10 :: AV.bool y11 :: AV.bool y12 :: AV.bool y13 :: AV.tuple [] :: AV.tuple [] :: AV.bool y14 :: [])
def f35e4 (y0 : Int) (y1 : Int) (y2 : Bool) (y3 : Int) (y4 : Bool) (y5 : Bool) (y6 : Int) (y7 : Bool) (y8 : Bool) (y9 : Bool) (y10 : Bool) (y11 : Bool) (y12 : Bool) : Env := AV.int IntKind.i64 y0 :: AV.int IntKind.i64 y1 :: Env.sp 2 (AV.bool y2 :: AV.int IntKind.i64 y3 :: AV.bool y4 :: AV.bool y5 :: AV.int IntKind.i64 y6 :: AV.bool y7 :: AV.bool y8 :: AV.bool y9 :: AV.tuple [] :: AV.tuple [] :: AV.bool y10 :: AV.bool y11 :: AV.tuple [] :: AV.tuple [] :: AV.bool y12 :: [])
def f35e5 (y0 : Int) (y1 : Int) (y2 : Bool) (y3 : Int) (y4 : Bool) (y5 : Bool) (y6 : Bool) (y7 : Bool) (y8 : Bool) (y9 : Bool) (y10 : Bool) : Env := AV.int IntKind.i64 y0 :: AV.int IntKind.i64 y1 :: Env.sp 2 (AV.bool y2 :: AV.int IntKind.i64 y3 :: AV.bool y4 :: AV.bool y5 :: AV.tuple [] :: AV.tuple [] :: AV.bool y6 :: AV.bool y7 :: AV.tuple [] :: AV.tuple [] :: AV.bool y8 :: AV.bool y9 :: AV.tuple [] :: AV.tuple [] :: AV.bool y10 :: [])
def f35e6 (y0 : Bool) : Env := Env.sp 4 (AV.bool y0 :: Env.sp 14 [])

/- function 35 -/
theorem f35_eq {R : Type} (call : Bool → CallF R) (dem : Bool) (N : Nat) (y0 : Int) (y1 : Int) (σ : St) (K : AV → St → Option R) :
    bodyK Try.prog call dem N ann 35 [AV.int IntKind.i64 y0, AV.int IntKind.i64 y1] σ K = runK Try.prog call dem N f35c0 f35a0 (bodyC Try.prog f35rs K) (f35e0 y0 y1) σ := bodyK_of (fn := ((Try.prog.funcs[35]?).get rfl)) (by kernel_rfl) (by kernel_rfl) (by kernel_rfl) (by kernel_rfl) (by kernel_rfl) (by kernel_rfl)
theorem f35n0 {R : Type} (call : Bool → CallF R) (dem : Bool) (N : Nat) (J : KF R) (e : Env) (σ : St) : runK Try.prog call dem N f35c0 f35a0 J e σ = runK Try.prog call dem N f35c1 f35a1 (seqC (fun K e σ => runK Try.prog call dem N f35c2 f35a2 K e σ) f35a0 J) e σ := runK_seq' (by kernel_rfl) (by kernel_rfl) (by kernel_rfl)
theorem f35r1_f35e0 {R : Type} (call : Bool → CallF R) (dem : Bool) (N : Nat) (y0 : Int) (y1 : Int) (J : KF R) (σ : St) :
    runK Try.prog call dem N f35c1 f35a1 J (f35e0 y0 y1) σ =
J Ex.normal (f35e1 y0 y1 false) σ := hide (by kernel_rfl)
theorem f35z0_f35e1 (y0 : Int) (y1 : Int) (y2 : Bool) : Ann.clr f35a0 (f35e1 y0 y1 y2) = f35e0 y0 y1 := hide (by kernel_rfl)
theorem f35n2 {R : Type} (call : Bool → CallF R) (dem : Bool) (N : Nat) (J : KF R) (e : Env) (σ : St) : runK Try.prog call dem N f35c2 f35a2 J e σ = runK Try.prog call dem N f35c3 f35a3 (seqC (fun K e σ => runK Try.prog call dem N f35c4 f35a4 K e σ) f35a2 J) e σ := runK_seq' (by kernel_rfl) (by kernel_rfl) (by kernel_rfl)
theorem f35r3_f35e0 {R : Type} (call : Bool → CallF R) (dem : Bool) (N : Nat) (y0 : Int) (y1 : Int) (J : KF R) (σ : St) :
    runK Try.prog call dem N f35c3 f35a3 J (f35e0 y0 y1) σ =
if decide (y0 ≥ (0 : Int)) = true then
  if decide (y0 ≤ (4 : Int)) = true then
    if decide (y1 ≥ (0 : Int)) = true then
      J Ex.normal
        (f35e2 y0 y1 (decide (y1 ≤ (3 : Int))) y0 (decide (y0 ≥ (0 : Int))) true y0 (decide (y0 ≤ (4 : Int))) (decide (y0 ≤ (4 : Int))) true y1
          (decide (y1 ≥ (0 : Int))) (decide (y1 ≥ (0 : Int))) true y1 (decide (y1 ≤ (3 : Int))) (decide (y1 ≤ (3 : Int))))
        σ
    else
      J Ex.normal
        (f35e3 y0 y1 false y0 (decide (y0 ≥ (0 : Int))) true y0 (decide (y0 ≤ (4 : Int))) (decide (y0 ≤ (4 : Int))) true y1 (decide (y1 ≥ (0 : Int)))
          (decide (y1 ≥ (0 : Int))) false false)
        σ
  else
    J Ex.normal (f35e4 y0 y1 false y0 (decide (y0 ≥ (0 : Int))) true y0 (decide (y0 ≤ (4 : Int))) (decide (y0 ≤ (4 : Int))) false false false false) σ
else J Ex.normal (f35e5 y0 y1 false y0 (decide (y0 ≥ (0 : Int))) false false false false false false) σ := hide (by kernel_rfl)
theorem f35z2_f35e2 (y0 : Int) (y1 : Int) (y2 : Bool) (y3 : Int) (y4 : Bool) (y5 : Bool) (y6 : Int) (y7 : Bool) (y8 : Bool) (y9 : Bool) (y10 : Int) (y11 : Bool) (y12 : Bool) (y13 : Bool) (y14 : Int) (y15 : Bool) (y16 : Bool) : Ann.clr f35a2 (f35e2 y0 y1 y2 y3 y4 y5 y6 y7 y8 y9 y10 y11 y12 y13 y14 y15 y16) = f35e6 y2 := hide (by kernel_rfl)
theorem f35y4_f35e6 {R : Type} (call : Bool → CallF R) (dem : Bool) (N : Nat) (y0 : Bool) (J : KF R) (σ : St) : runK Try.prog call dem N f35c4 f35a4 J (f35e6 y0) σ = J .ret (f35e6 y0) σ := runK_ret' (by kernel_rfl) (by kernel_rfl)
theorem f35z2_f35e3 (y0 : Int) (y1 : Int) (y2 : Bool) (y3 : Int) (y4 : Bool) (y5 : Bool) (y6 : Int) (y7 : Bool) (y8 : Bool) (y9 : Bool) (y10 : Int) (y11 : Bool) (y12 : Bool) (y13 : Bool) (y14 : Bool) : Ann.clr f35a2 (f35e3 y0 y1 y2 y3 y4 y5 y6 y7 y8 y9 y10 y11 y12 y13 y14) = f35e6 y2 := hide (by kernel_rfl)
theorem f35z2_f35e4 (y0 : Int) (y1 : Int) (y2 : Bool) (y3 : Int) (y4 : Bool) (y5 : Bool) (y6 : Int) (y7 : Bool) (y8 : Bool) (y9 : Bool) (y10 : Bool) (y11 : Bool) (y12 : Bool) : Ann.clr f35a2 (f35e4 y0 y1 y2 y3 y4 y5 y6 y7 y8 y9 y10 y11 y12) = f35e6 y2 := hide (by kernel_rfl)
theorem f35z2_f35e5 (y0 : Int) (y1 : Int) (y2 : Bool) (y3 : Int) (y4 : Bool) (y5 : Bool) (y6 : Bool) (y7 : Bool) (y8 : Bool) (y9 : Bool) (y10 : Bool) : Ann.clr f35a2 (f35e5 y0 y1 y2 y3 y4 y5 y6 y7 y8 y9 y10) = f35e6 y2 := hide (by kernel_rfl)
theorem f35b_f35e6_r {R : Type} (y0 : Bool) (σ : St) (K : AV → St → Option R) : bodyC Try.prog f35rs K (Ex.ret) (f35e6 y0) σ =
K (AV.bool y0) σ := hide (by kernel_rfl)
attribute [go_sem] f35_eq f35n0 f35r1_f35e0 f35z0_f35e1 f35n2 f35r3_f35e0 f35z2_f35e2 f35y4_f35e6 f35z2_f35e3 f35z2_f35e4 f35z2_f35e5 f35b_f35e6_r

noncomputable def f36rs : List ResultVar := [ResultVar.tmp (6 : Nat)]
noncomputable def f36c0 : Code := subCode [] (bodyOf Try.prog 36)
def f36a0 : Ann := subAnn [] ann36
noncomputable def f36c1 : Code := subCode [0] (bodyOf Try.prog 36)
def f36a1 : Ann := subAnn [0] ann36
noncomputable def f36c2 : Code := subCode [1] (bodyOf Try.prog 36)
def f36a2 : Ann := subAnn [1] ann36
noncomputable def f36c3 : Code := subCode [1, 0] (bodyOf Try.prog 36)
def f36a3 : Ann := subAnn [1, 0] ann36
noncomputable def f36c4 : Code := subCode [1, 1] (bodyOf Try.prog 36)
def f36a4 : Ann := subAnn [1, 1] ann36
noncomputable def f36c5 : Code := subCode [1, 0, 0] (bodyOf Try.prog 36)
def f36a5 : Ann := subAnn [1, 0, 0] ann36
noncomputable def f36c6 : Code := subCode [1, 0, 1] (bodyOf Try.prog 36)
def f36a6 : Ann := subAnn [1, 0, 1] ann36
noncomputable def f36c7 : Code := subCode [1, 0, 1, 0] (bodyOf Try.prog 36)
def f36a7 : Ann := subAnn [1, 0, 1, 0] ann36
noncomputable def f36c8 : Code := subCode [1, 0, 1, 0, 0] (bodyOf Try.prog 36)
def f36a8 : Ann := subAnn [1, 0, 1, 0, 0] ann36
noncomputable def f36c9 : Code := subCode [1, 0, 1, 0, 1] (bodyOf Try.prog 36)
def f36a9 : Ann := subAnn [1, 0, 1, 0, 1] ann36
noncomputable def f36c10 : Code := subCode [1, 0, 1, 0, 0, 0] (bodyOf Try.prog 36)
def f36a10 : Ann := subAnn [1, 0, 1, 0, 0, 0] ann36
noncomputable def f36c11 : Code := subCode [1, 0, 1, 0, 0, 1] (bodyOf Try.prog 36)
def f36a11 : Ann := subAnn [1, 0, 1, 0, 0, 1] ann36
noncomputable def f36c12 : Code := subCode [1, 0, 1, 0, 0, 1, 0] (bodyOf Try.prog 36)
def f36a12 : Ann := subAnn [1, 0, 1, 0, 0, 1, 0] ann36
noncomputable def f36c13 : Code := subCode [1, 0, 1, 0, 0, 1, 1] (bodyOf Try.prog 36)
def f36a13 : Ann := subAnn [1, 0, 1, 0, 0, 1, 1] ann36
noncomputable def f36c14 : Code := subCode [1, 0, 1, 0, 1, 0] (bodyOf Try.prog 36)
def f36a14 : Ann := subAnn [1, 0, 1, 0, 1, 0] ann36
noncomputable def f36c15 : Code := subCode [1, 0, 1, 0, 1, 1] (bodyOf Try.prog 36)
def f36a15 : Ann := subAnn [1, 0, 1, 0, 1, 1] ann36
noncomputable def f36c16 : Code := subCode [1, 0, 1, 0, 1, 0, 0] (bodyOf Try.prog 36)
def f36a16 : Ann := subAnn [1, 0, 1, 0, 1, 0, 0] ann36
noncomputable def f36c17 : Code := subCode [1, 0, 1, 0, 1, 0, 1] (bodyOf Try.prog 36)
def f36a17 : Ann := subAnn [1, 0, 1, 0, 1, 0, 1] ann36
noncomputable def f36c18 : Code := subCode [1, 0, 1, 0, 1, 0, 1, 0] (bodyOf Try.prog 36)
def f36a18 : Ann := subAnn [1, 0, 1, 0, 1, 0, 1, 0] ann36
noncomputable def f36c19 : Code := subCode [1, 0, 1, 0, 1, 0, 1, 1] (bodyOf Try.prog 36)
def f36a19 : Ann := subAnn [1, 0, 1, 0, 1, 0, 1, 1] ann36
noncomputable def f36c20 : Code := subCode [1, 0, 1, 0, 1, 0, 1, 1, 0] (bodyOf Try.prog 36)
def f36a20 : Ann := subAnn [1, 0, 1, 0, 1, 0, 1, 1, 0] ann36
noncomputable def f36c21 : Code := subCode [1, 0, 1, 0, 1, 0, 1, 1, 1] (bodyOf Try.prog 36)
def f36a21 : Ann := subAnn [1, 0, 1, 0, 1, 0, 1, 1, 1] ann36
noncomputable def f36c22 : Code := subCode [1, 0, 1, 0, 1, 1, 0] (bodyOf Try.prog 36)
def f36a22 : Ann := subAnn [1, 0, 1, 0, 1, 1, 0] ann36
noncomputable def f36c23 : Code := subCode [1, 0, 1, 0, 1, 1, 1] (bodyOf Try.prog 36)
def f36a23 : Ann := subAnn [1, 0, 1, 0, 1, 1, 1] ann36
noncomputable def f36c24 : Code := subCode [1, 0, 1, 0, 1, 1, 1, 0] (bodyOf Try.prog 36)
def f36a24 : Ann := subAnn [1, 0, 1, 0, 1, 1, 1, 0] ann36
noncomputable def f36c25 : Code := subCode [1, 0, 1, 0, 1, 1, 1, 1] (bodyOf Try.prog 36)
def f36a25 : Ann := subAnn [1, 0, 1, 0, 1, 1, 1, 1] ann36
noncomputable def f36c26 : Code := subCode [1, 0, 1, 0, 1, 1, 1, 0, 0] (bodyOf Try.prog 36)
def f36a26 : Ann := subAnn [1, 0, 1, 0, 1, 1, 1, 0, 0] ann36
noncomputable def f36c27 : Code := subCode [1, 0, 1, 0, 1, 1, 1, 0, 1] (bodyOf Try.prog 36)
def f36a27 : Ann := subAnn [1, 0, 1, 0, 1, 1, 1, 0, 1] ann36
noncomputable def f36c28 : Code := subCode [1, 0, 1, 0, 1, 1, 1, 0, 1, 0] (bodyOf Try.prog 36)
def f36a28 : Ann := subAnn [1, 0, 1, 0, 1, 1, 1, 0, 1, 0] ann36
noncomputable def f36c29 : Code := subCode [1, 0, 1, 0, 1, 1, 1, 0, 1, 1] (bodyOf Try.prog 36)
def f36a29 : Ann := subAnn [1, 0, 1, 0, 1, 1, 1, 0, 1, 1] ann36
noncomputable def f36c30 : Code := subCode [1, 0, 1, 0, 1, 1, 1, 0, 1, 1, 0] (bodyOf Try.prog 36)
def f36a30 : Ann := subAnn [1, 0, 1, 0, 1, 1, 1, 0, 1, 1, 0] ann36
noncomputable def f36c31 : Code := subCode [1, 0, 1, 0, 1, 1, 1, 0, 1, 1, 1] (bodyOf Try.prog 36)
def f36a31 : Ann := subAnn [1, 0, 1, 0, 1, 1, 1, 0, 1, 1, 1] ann36
noncomputable def f36c32 : Code := subCode [1, 0, 1, 0, 1, 1, 1, 1, 0] (bodyOf Try.prog 36)
def f36a32 : Ann := subAnn [1, 0, 1, 0, 1, 1, 1, 1, 0] ann36
noncomputable def f36c33 : Code := subCode [1, 0, 1, 0, 1, 1, 1, 1, 1] (bodyOf Try.prog 36)
def f36a33 : Ann := subAnn [1, 0, 1, 0, 1, 1, 1, 1, 1] ann36
noncomputable def f36c34 : Code := subCode [1, 0, 1, 0, 1, 1, 1, 1, 1, 0] (bodyOf Try.prog 36)
def f36a34 : Ann := subAnn [1, 0, 1, 0, 1, 1, 1, 1, 1, 0] ann36
noncomputable def f36c35 : Code := subCode [1, 0, 1, 0, 1, 1, 1, 1, 1, 1] (bodyOf Try.prog 36)
def f36a35 : Ann := subAnn [1, 0, 1, 0, 1, 1, 1, 1, 1, 1] ann36
noncomputable def f36c36 : Code := subCode [1, 0, 1, 0, 1, 1, 1, 1, 1, 0, 0] (bodyOf Try.prog 36)
def f36a36 : Ann := subAnn [1, 0, 1, 0, 1, 1, 1, 1, 1, 0, 0] ann36
noncomputable def f36c37 : Code := subCode [1, 0, 1, 0, 1, 1, 1, 1, 1, 0, 1] (bodyOf Try.prog 36)
def f36a37 : Ann := subAnn [1, 0, 1, 0, 1, 1, 1, 1, 1, 0, 1] ann36
noncomputable def f36c38 : Code := subCode [1, 0, 1, 0, 1, 1, 1, 1, 1, 0, 1, 0] (bodyOf Try.prog 36)
def f36a38 : Ann := subAnn [1, 0, 1, 0, 1, 1, 1, 1, 1, 0, 1, 0] ann36
noncomputable def f36c39 : Code := subCode [1, 0, 1, 0, 1, 1, 1, 1, 1, 0, 1, 1] (bodyOf Try.prog 36)
def f36a39 : Ann := subAnn [1, 0, 1, 0, 1, 1, 1, 1, 1, 0, 1, 1] ann36
noncomputable def f36c40 : Code := subCode [1, 0, 1, 0, 1, 1, 1, 1, 1, 0, 1, 1, 0] (bodyOf Try.prog 36)
def f36a40 : Ann := subAnn [1, 0, 1, 0, 1, 1, 1, 1, 1, 0, 1, 1, 0] ann36
noncomputable def f36c41 : Code := subCode [1, 0, 1, 0, 1, 1, 1, 1, 1, 0, 1, 1, 1] (bodyOf Try.prog 36)
def f36a41 : Ann := subAnn [1, 0, 1, 0, 1, 1, 1, 1, 1, 0, 1, 1, 1] ann36
noncomputable def f36c42 : Code := subCode [1, 0, 1, 0, 1, 1, 1, 1, 1, 1, 0] (bodyOf Try.prog 36)
def f36a42 : Ann := subAnn [1, 0, 1, 0, 1, 1, 1, 1, 1, 1, 0] ann36
noncomputable def f36c43 : Code := subCode [1, 0, 1, 0, 1, 1, 1, 1, 1, 1, 1] (bodyOf Try.prog 36)
def f36a43 : Ann := subAnn [1, 0, 1, 0, 1, 1, 1, 1, 1, 1, 1] ann36
noncomputable def f36c44 : Code := subCode [1, 0, 1, 0, 1, 1, 1, 1, 1, 1, 1, 0] (bodyOf Try.prog 36)
def f36a44 : Ann := subAnn [1, 0, 1, 0, 1, 1, 1, 1, 1, 1, 1, 0] ann36
noncomputable def f36c45 : Code := subCode [1, 0, 1, 0, 1, 1, 1, 1, 1, 1, 1, 1] (bodyOf Try.prog 36)
def f36a45 : Ann := subAnn [1, 0, 1, 0, 1, 1, 1, 1, 1, 1, 1, 1] ann36
noncomputable def f36c46 : Code := subCode [1, 0, 1, 0, 1, 1, 1, 1, 1, 1, 1, 0, 0] (bodyOf Try.prog 36)
def f36a46 : Ann := subAnn [1, 0, 1, 0, 1, 1, 1, 1, 1, 1, 1, 0, 0] ann36
noncomputable def f36c47 : Code := subCode [1, 0, 1, 0, 1, 1, 1, 1, 1, 1, 1, 0, 1] (bodyOf Try.prog 36)
def f36a47 : Ann := subAnn [1, 0, 1, 0, 1, 1, 1, 1, 1, 1, 1, 0, 1] ann36
noncomputable def f36c48 : Code := subCode [1, 1, 0] (bodyOf Try.prog 36)
def f36a48 : Ann := subAnn [1, 1, 0] ann36
noncomputable def f36c49 : Code := subCode [1, 1, 1] (bodyOf Try.prog 36)
def f36a49 : Ann := subAnn [1, 1, 1] ann36
def f36e0 (y0 : Option (Nat × Nat)) (y1 : Option (Nat × Nat)) (y2 : Int) (y3 : Int) (y4 : Int) (y5 : ByteArray) : Env := AV.ptr y0 :: AV.ptr y1 :: AV.agg [AV.int IntKind.i64 y2, AV.int IntKind.i64 y3, AV.int IntKind.i64 y4, AV.str y5] :: Env.sp 113 []
def f36e1 (y0 : Option (Nat × Nat)) (y1 : Option (Nat × Nat)) (y2 : Int) (y3 : Int) (y4 : Int) (y5 : ByteArray) (y6 : Nat) (y7 : Bool) : Env := AV.ptr y0 :: AV.ptr y1 :: AV.agg [AV.int IntKind.i64 y2, AV.int IntKind.i64 y3, AV.int IntKind.i64 y4, AV.str y5] :: Env.sp 2 (AV.ptr (some (y6, (0 : Nat))) :: AV.bool y7 :: Env.sp 109 [])
def f36e2 (y0 : Option (Nat × Nat)) (y1 : Option (Nat × Nat)) (y2 : Nat) : Env := AV.ptr y0 :: AV.ptr y1 :: Env.sp 3 (AV.ptr (some (y2, (0 : Nat))) :: Env.sp 110 [])
def f36e3 (y0 : Option (Nat × Nat)) (y1 : Option (Nat × Nat)) (y2 : Nat) (y3 : Nat) (y4 : Int) : Env := AV.ptr y0 :: AV.ptr y1 :: Env.sp 3 (AV.ptr (some (y2, (0 : Nat))) :: Env.sp 12 (AV.ptr (some (y3, (0 : Nat))) :: AV.int IntKind.i64 y4 :: Env.sp 96 []))
def f36e4 (y0 : Option (Nat × Nat)) (y1 : Option (Nat × Nat)) (y2 : Nat) (y3 : Int) : Env := AV.ptr y0 :: AV.ptr y1 :: Env.sp 3 (AV.ptr (some (y2, (0 : Nat))) :: Env.sp 13 (AV.int IntKind.i64 y3 :: Env.sp 96 []))
def f36e5 (y0 : Option (Nat × Nat)) (y1 : Option (Nat × Nat)) (y2 : Nat) (y3 : Int) (y4 : Bool) (y5 : Bool) : Env := AV.ptr y0 :: AV.ptr y1 :: Env.sp 3 (AV.ptr (some (y2, (0 : Nat))) :: Env.sp 13 (AV.int IntKind.i64 y3 :: AV.bool y4 :: AV.bool y5 :: Env.sp 94 []))
def f36e6 (y0 : Option (Nat × Nat)) (y1 : Option (Nat × Nat)) (y2 : Nat) (y3 : Int) (y4 : Bool) : Env := AV.ptr y0 :: AV.ptr y1 :: Env.sp 3 (AV.ptr (some (y2, (0 : Nat))) :: Env.sp 13 (AV.int IntKind.i64 y3 :: AV.bool y4 :: Env.sp 95 []))
def f36e7 (y0 : Option (Nat × Nat)) (y1 : Option (Nat × Nat)) (y2 : Nat) (y3 : Int) (y4 : Bool) (y5 : Bool) : Env := AV.ptr y0 :: AV.ptr y1 :: Env.sp 3 (AV.ptr (some (y2, (0 : Nat))) :: Env.sp 13 (AV.int IntKind.i64 y3 :: AV.bool y4 :: Env.sp 1 (AV.bool y5 :: Env.sp 93 [])))
def f36e8 (y0 : Option (Nat × Nat)) (y1 : Option (Nat × Nat)) (y2 : Nat) (y3 : Option (Nat × Nat)) (y4 : Int) (y5 : Int) (y6 : Bool) (y7 : Option (Nat × Nat)) (y8 : Int) (y9 : Option (Nat × Nat)) (y10 : Nat) (y11 : Int) (y12 : Nat) (y13 : Int) (y14 : Option (Nat × Nat)) (y15 : Int) (y16 : Option (Nat × Nat)) (y17 : Int) : Env := AV.ptr y0 :: AV.ptr y1 :: Env.sp 3 (AV.ptr (some (y2, (0 : Nat))) :: Env.sp 1 (AV.ptr y3 :: AV.int IntKind.i64 y4 :: Env.sp 10 (AV.int IntKind.i64 y5 :: AV.bool y6 :: Env.sp 2 (AV.tuple [AV.ptr y7, AV.int IntKind.i64 y8] :: AV.ptr y9 :: AV.ptr (some (y10, (1 : Nat))) :: AV.int IntKind.i64 y11 :: AV.ptr (some (y12, (2 : Nat))) :: AV.int IntKind.i64 y13 :: AV.tuple [AV.ptr y14, AV.int IntKind.i64 y15] :: AV.ptr y16 :: AV.int IntKind.i64 y17 :: Env.sp 84 []))))
def f36e9 (y0 : Option (Nat × Nat)) (y1 : Nat) (y2 : Option (Nat × Nat)) (y3 : Int) : Env := Env.sp 1 (AV.ptr y0 :: Env.sp 3 (AV.ptr (some (y1, (0 : Nat))) :: Env.sp 1 (AV.ptr y2 :: AV.int IntKind.i64 y3 :: Env.sp 107 [])))
def f36e10 (y0 : Option (Nat × Nat)) (y1 : Nat) (y2 : Option (Nat × Nat)) (y3 : Int) (y4 : Int) (y5 : Option (Nat × Nat)) (y6 : Nat) (y7 : Int) (y8 : Nat) (y9 : Int) (y10 : Int) : Env := Env.sp 1 (AV.ptr y0 :: Env.sp 3 (AV.ptr (some (y1, (0 : Nat))) :: Env.sp 1 (AV.ptr y2 :: AV.int IntKind.i64 y3 :: AV.int IntKind.i64 y4 :: Env.sp 22 (AV.ptr y5 :: AV.ptr (some (y6, (1 : Nat))) :: AV.int IntKind.i64 y7 :: AV.ptr (some (y8, (2 : Nat))) :: AV.int IntKind.i64 y9 :: AV.int IntKind.i64 y10 :: Env.sp 78 []))))
def f36e11 (y0 : Option (Nat × Nat)) (y1 : Int) (y2 : Int) : Env := Env.sp 7 (AV.ptr y0 :: AV.int IntKind.i64 y1 :: AV.int IntKind.i64 y2 :: Env.sp 106 [])
def f36e12 (y0 : Bool) (y1 : Option (Nat × Nat)) (y2 : Int) (y3 : Int) (y4 : Int) (y5 : Int) (y6 : Bool) (y7 : Bool) (y8 : Option (Nat × Nat)) (y9 : Bool) (y10 : Int) (y11 : Bool) (y12 : Bool) (y13 : Bool) : Env := Env.sp 6 (AV.bool y0 :: AV.ptr y1 :: AV.int IntKind.i64 y2 :: AV.int IntKind.i64 y3 :: Env.sp 28 (AV.int IntKind.i64 y4 :: AV.int IntKind.i64 y5 :: AV.bool y6 :: AV.bool y7 :: AV.ptr y8 :: AV.bool y9 :: AV.int IntKind.i64 y10 :: AV.bool y11 :: AV.bool y12 :: AV.bool y13 :: Env.sp 68 []))
def f36e13 (y0 : Bool) (y1 : Option (Nat × Nat)) (y2 : Int) (y3 : Int) (y4 : Int) (y5 : Int) (y6 : Bool) (y7 : Bool) (y8 : Bool) : Env := Env.sp 6 (AV.bool y0 :: AV.ptr y1 :: AV.int IntKind.i64 y2 :: AV.int IntKind.i64 y3 :: Env.sp 28 (AV.int IntKind.i64 y4 :: AV.int IntKind.i64 y5 :: AV.bool y6 :: AV.bool y7 :: AV.tuple [] :: AV.tuple [] :: AV.tuple [] :: AV.tuple [] :: AV.tuple [] :: AV.bool y8 :: Env.sp 68 []))
def f36e14 (y0 : Bool) : Env := Env.sp 6 (AV.bool y0 :: Env.sp 109 [])
def f36e15 (y0 : Option (Nat × Nat)) (y1 : Option (Nat × Nat)) (y2 : Nat) (y3 : Int) (y4 : Bool) (y5 : Bool) (y6 : Bool) : Env := AV.ptr y0 :: AV.ptr y1 :: Env.sp 3 (AV.ptr (some (y2, (0 : Nat))) :: Env.sp 13 (AV.int IntKind.i64 y3 :: AV.bool y4 :: Env.sp 27 (AV.bool y5 :: AV.bool y6 :: Env.sp 66 [])))
def f36e16 (y0 : Option (Nat × Nat)) (y1 : Option (Nat × Nat)) (y2 : Nat) (y3 : Int) (y4 : Bool) : Env := AV.ptr y0 :: AV.ptr y1 :: Env.sp 3 (AV.ptr (some (y2, (0 : Nat))) :: Env.sp 13 (AV.int IntKind.i64 y3 :: Env.sp 28 (AV.bool y4 :: Env.sp 67 [])))
def f36e17 (y0 : Option (Nat × Nat)) (y1 : Option (Nat × Nat)) (y2 : Nat) (y3 : Bool) (y4 : Int) (y5 : Int) (y6 : Bool) (y7 : Bool) (y8 : Int) (y9 : Option (Nat × Nat)) (y10 : Nat) (y11 : Int) (y12 : Nat) (y13 : Int) (y14 : Nat) (y15 : ByteArray) (y16 : ByteArray) (y17 : Int) (y18 : Option (Nat × Nat)) (y19 : Nat) (y20 : Option Nat) (y21 : Bool) (y22 : Int) (y23 : Bool) (y24 : Int) : Env := AV.ptr y0 :: AV.ptr y1 :: Env.sp 3 (AV.ptr (some (y2, (0 : Nat))) :: Env.sp 4 (AV.bool y3 :: AV.int IntKind.i64 y4 :: Env.sp 7 (AV.int IntKind.i64 y5 :: Env.sp 28 (AV.bool y6 :: Env.sp 1 (AV.tuple [AV.bool y7, AV.int IntKind.i64 y8] :: AV.ptr y9 :: AV.ptr (some (y10, (1 : Nat))) :: AV.int IntKind.i64 y11 :: AV.ptr (some (y12, (2 : Nat))) :: AV.int IntKind.i64 y13 :: AV.ptr (some (y14, (3 : Nat))) :: AV.str y15 :: AV.agg [AV.str y16, AV.int IntKind.i64 y17, AV.slice y18 y19 y20 (2 : Nat)] :: AV.tuple [AV.bool y21, AV.int IntKind.i64 y22] :: AV.bool y23 :: AV.int IntKind.i64 y24 :: Env.sp 54 [])))))
def f36e18 (y0 : Option (Nat × Nat)) (y1 : Nat) (y2 : Bool) (y3 : Int) : Env := Env.sp 1 (AV.ptr y0 :: Env.sp 3 (AV.ptr (some (y1, (0 : Nat))) :: Env.sp 4 (AV.bool y2 :: AV.int IntKind.i64 y3 :: Env.sp 104 [])))
def f36e19 (y0 : Option (Nat × Nat)) (y1 : Nat) (y2 : Bool) (y3 : Int) (y4 : Bool) (y5 : Int) (y6 : Bool) (y7 : Int) (y8 : Option (Nat × Nat)) (y9 : Nat) (y10 : Int) (y11 : Nat) (y12 : Int) (y13 : Nat) (y14 : ByteArray) (y15 : Bool) (y16 : Int) (y17 : Bool) (y18 : Int) : Env := Env.sp 1 (AV.ptr y0 :: Env.sp 3 (AV.ptr (some (y1, (0 : Nat))) :: Env.sp 4 (AV.bool y2 :: AV.int IntKind.i64 y3 :: AV.bool y4 :: AV.int IntKind.i64 y5 :: Env.sp 48 (AV.tuple [AV.bool y6, AV.int IntKind.i64 y7] :: AV.ptr y8 :: AV.ptr (some (y9, (1 : Nat))) :: AV.int IntKind.i64 y10 :: AV.ptr (some (y11, (2 : Nat))) :: AV.int IntKind.i64 y12 :: AV.ptr (some (y13, (3 : Nat))) :: AV.str y14 :: AV.tuple [AV.bool y15, AV.int IntKind.i64 y16] :: AV.bool y17 :: AV.int IntKind.i64 y18 :: Env.sp 43 []))))
def f36e20 (y0 : Bool) (y1 : Int) (y2 : Bool) (y3 : Int) : Env := Env.sp 10 (AV.bool y0 :: AV.int IntKind.i64 y1 :: AV.bool y2 :: AV.int IntKind.i64 y3 :: Env.sp 102 [])
def f36e21 (y0 : Bool) (y1 : Bool) (y2 : Int) (y3 : Bool) (y4 : Int) (y5 : Bool) (y6 : Bool) (y7 : Bool) (y8 : Bool) (y9 : Int) (y10 : Int) (y11 : Bool) (y12 : Bool) : Env := Env.sp 6 (AV.bool y0 :: Env.sp 3 (AV.bool y1 :: AV.int IntKind.i64 y2 :: AV.bool y3 :: AV.int IntKind.i64 y4 :: Env.sp 59 (AV.bool y5 :: AV.bool y6 :: AV.bool y7 :: AV.bool y8 :: AV.int IntKind.i64 y9 :: AV.int IntKind.i64 y10 :: AV.bool y11 :: AV.bool y12 :: Env.sp 35 [])))
def f36e22 (y0 : Bool) (y1 : Bool) (y2 : Int) (y3 : Bool) (y4 : Int) (y5 : Bool) (y6 : Bool) (y7 : Bool) (y8 : Bool) (y9 : Bool) : Env := Env.sp 6 (AV.bool y0 :: Env.sp 3 (AV.bool y1 :: AV.int IntKind.i64 y2 :: AV.bool y3 :: AV.int IntKind.i64 y4 :: Env.sp 59 (AV.bool y5 :: AV.bool y6 :: AV.bool y7 :: AV.bool y8 :: AV.tuple [] :: AV.tuple [] :: AV.tuple [] :: AV.bool y9 :: Env.sp 35 [])))
def f36e23 (y0 : Option (Nat × Nat)) (y1 : Option (Nat × Nat)) (y2 : Nat) (y3 : Int) (y4 : Bool) (y5 : Bool) (y6 : Bool) : Env := AV.ptr y0 :: AV.ptr y1 :: Env.sp 3 (AV.ptr (some (y2, (0 : Nat))) :: Env.sp 13 (AV.int IntKind.i64 y3 :: Env.sp 28 (AV.bool y4 :: Env.sp 32 (AV.bool y5 :: AV.bool y6 :: Env.sp 33 []))))
def f36e24 (y0 : Option (Nat × Nat)) (y1 : Option (Nat × Nat)) (y2 : Nat) (y3 : Int) (y4 : Bool) : Env := AV.ptr y0 :: AV.ptr y1 :: Env.sp 3 (AV.ptr (some (y2, (0 : Nat))) :: Env.sp 13 (AV.int IntKind.i64 y3 :: Env.sp 61 (AV.bool y4 :: Env.sp 34 [])))
def f36e25 (y0 : Option (Nat × Nat)) (y1 : Option (Nat × Nat)) (y2 : Nat) (y3 : Bool) (y4 : Int) (y5 : Int) (y6 : Bool) (y7 : Bool) (y8 : Int) (y9 : Option (Nat × Nat)) (y10 : Nat) (y11 : Int) (y12 : Bool) (y13 : Int) (y14 : Bool) (y15 : Int) : Env := AV.ptr y0 :: AV.ptr y1 :: Env.sp 3 (AV.ptr (some (y2, (0 : Nat))) :: Env.sp 8 (AV.bool y3 :: AV.int IntKind.i64 y4 :: Env.sp 3 (AV.int IntKind.i64 y5 :: Env.sp 61 (AV.bool y6 :: Env.sp 1 (AV.tuple [AV.bool y7, AV.int IntKind.i64 y8] :: AV.ptr y9 :: AV.ptr (some (y10, (2 : Nat))) :: AV.int IntKind.i64 y11 :: AV.tuple [AV.bool y12, AV.int IntKind.i64 y13] :: AV.bool y14 :: AV.int IntKind.i64 y15 :: Env.sp 26 [])))))
def f36e26 (y0 : Option (Nat × Nat)) (y1 : Nat) (y2 : Bool) (y3 : Int) : Env := Env.sp 1 (AV.ptr y0 :: Env.sp 3 (AV.ptr (some (y1, (0 : Nat))) :: Env.sp 8 (AV.bool y2 :: AV.int IntKind.i64 y3 :: Env.sp 100 [])))
def f36e27 (y0 : Option (Nat × Nat)) (y1 : Nat) (y2 : Bool) (y3 : Int) (y4 : Bool) (y5 : Int) (y6 : Bool) (y7 : Int) (y8 : Option (Nat × Nat)) (y9 : Nat) (y10 : Int) (y11 : Bool) (y12 : Int) (y13 : Bool) (y14 : Int) : Env := Env.sp 1 (AV.ptr y0 :: Env.sp 3 (AV.ptr (some (y1, (0 : Nat))) :: Env.sp 8 (AV.bool y2 :: AV.int IntKind.i64 y3 :: AV.bool y4 :: AV.int IntKind.i64 y5 :: Env.sp 72 (AV.tuple [AV.bool y6, AV.int IntKind.i64 y7] :: AV.ptr y8 :: AV.ptr (some (y9, (2 : Nat))) :: AV.int IntKind.i64 y10 :: AV.tuple [AV.bool y11, AV.int IntKind.i64 y12] :: AV.bool y13 :: AV.int IntKind.i64 y14 :: Env.sp 19 []))))
def f36e28 (y0 : Bool) (y1 : Int) (y2 : Bool) (y3 : Int) : Env := Env.sp 14 (AV.bool y0 :: AV.int IntKind.i64 y1 :: AV.bool y2 :: AV.int IntKind.i64 y3 :: Env.sp 98 [])
def f36e29 (y0 : Bool) (y1 : Bool) (y2 : Int) (y3 : Bool) (y4 : Int) (y5 : Bool) (y6 : Bool) (y7 : Bool) (y8 : Bool) (y9 : Int) (y10 : Int) (y11 : Bool) (y12 : Bool) : Env := Env.sp 6 (AV.bool y0 :: Env.sp 7 (AV.bool y1 :: AV.int IntKind.i64 y2 :: AV.bool y3 :: AV.int IntKind.i64 y4 :: Env.sp 79 (AV.bool y5 :: AV.bool y6 :: AV.bool y7 :: AV.bool y8 :: AV.int IntKind.i64 y9 :: AV.int IntKind.i64 y10 :: AV.bool y11 :: AV.bool y12 :: Env.sp 11 [])))
def f36e30 (y0 : Bool) (y1 : Bool) (y2 : Int) (y3 : Bool) (y4 : Int) (y5 : Bool) (y6 : Bool) (y7 : Bool) (y8 : Bool) (y9 : Bool) : Env := Env.sp 6 (AV.bool y0 :: Env.sp 7 (AV.bool y1 :: AV.int IntKind.i64 y2 :: AV.bool y3 :: AV.int IntKind.i64 y4 :: Env.sp 79 (AV.bool y5 :: AV.bool y6 :: AV.bool y7 :: AV.bool y8 :: AV.tuple [] :: AV.tuple [] :: AV.tuple [] :: AV.bool y9 :: Env.sp 11 [])))
def f36e31 (y0 : Option (Nat × Nat)) (y1 : Option (Nat × Nat)) (y2 : Nat) (y3 : Int) (y4 : Bool) (y5 : Bool) (y6 : Bool) : Env := AV.ptr y0 :: AV.ptr y1 :: Env.sp 3 (AV.ptr (some (y2, (0 : Nat))) :: Env.sp 13 (AV.int IntKind.i64 y3 :: Env.sp 61 (AV.bool y4 :: Env.sp 23 (AV.bool y5 :: AV.bool y6 :: Env.sp 9 []))))
def f36e32 (y0 : Option (Nat × Nat)) (y1 : Option (Nat × Nat)) (y2 : Nat) (y3 : Bool) : Env := AV.ptr y0 :: AV.ptr y1 :: Env.sp 3 (AV.ptr (some (y2, (0 : Nat))) :: Env.sp 99 (AV.bool y3 :: Env.sp 10 []))
def f36e33 (y0 : Option (Nat × Nat)) (y1 : Option (Nat × Nat)) (y2 : Nat) (y3 : Bool) (y4 : Bool) (y5 : Option (Nat × Nat)) (y6 : Nat) (y7 : Int) (y8 : Int) (y9 : Option (Nat × Nat)) (y10 : Nat) (y11 : Int) (y12 : Int) (y13 : Bool) : Env := AV.ptr y0 :: AV.ptr y1 :: Env.sp 3 (AV.ptr (some (y2, (0 : Nat))) :: AV.bool y3 :: Env.sp 98 (AV.bool y4 :: Env.sp 1 (AV.ptr y5 :: AV.ptr (some (y6, (1 : Nat))) :: AV.int IntKind.i64 y7 :: AV.int IntKind.i64 y8 :: AV.ptr y9 :: AV.ptr (some (y10, (1 : Nat))) :: AV.int IntKind.i64 y11 :: AV.int IntKind.i64 y12 :: AV.bool y13 :: [])))
def f36e34 : Env := Env.sp 116 []

/- function 36 -/
theorem f36_eq {R : Type} (call : Bool → CallF R) (dem : Bool) (N : Nat) (y0 : Option (Nat × Nat)) (y1 : Option (Nat × Nat)) (y2 : Int) (y3 : Int) (y4 : Int) (y5 : ByteArray) (σ : St) (K : AV → St → Option R) :
    bodyK Try.prog call dem N ann 36 [AV.ptr y0, AV.ptr y1, AV.agg [AV.int IntKind.i64 y2, AV.int IntKind.i64 y3, AV.int IntKind.i64 y4, AV.str y5]] σ K = runK Try.prog call dem N f36c0 f36a0 (bodyC Try.prog f36rs K) (f36e0 y0 y1 y2 y3 y4 y5) σ := bodyK_of (fn := ((Try.prog.funcs[36]?).get rfl)) (by kernel_rfl) (by kernel_rfl) (by kernel_rfl) (by kernel_rfl) (by kernel_rfl) (by kernel_rfl)
theorem f36n0 {R : Type} (call : Bool → CallF R) (dem : Bool) (N : Nat) (J : KF R) (e : Env) (σ : St) : runK Try.prog call dem N f36c0 f36a0 J e σ = runK Try.prog call dem N f36c1 f36a1 (seqC (fun K e σ => runK Try.prog call dem N f36c2 f36a2 K e σ) f36a0 J) e σ := runK_seq' (by kernel_rfl) (by kernel_rfl) (by kernel_rfl)
theorem f36r1_f36e0 {R : Type} (call : Bool → CallF R) (dem : Bool) (N : Nat) (y0 : Option (Nat × Nat)) (y1 : Option (Nat × Nat)) (y2 : Int) (y3 : Int) (y4 : Int) (y5 : ByteArray) (J : KF R) (σ : St) :
    runK Try.prog call dem N f36c1 f36a1 J (f36e0 y0 y1 y2 y3 y4 y5) σ =
J Ex.normal (f36e1 y0 y1 y2 y3 y4 y5 (St.next σ) false)
  (St.new σ (Blk.cells [AV.int IntKind.i64 y2, AV.int IntKind.i64 y3, AV.int IntKind.i64 y4, AV.str y5] true)) := hide (by kernel_rfl)
theorem f36z0_f36e1 (y0 : Option (Nat × Nat)) (y1 : Option (Nat × Nat)) (y2 : Int) (y3 : Int) (y4 : Int) (y5 : ByteArray) (y6 : Nat) (y7 : Bool) : Ann.clr f36a0 (f36e1 y0 y1 y2 y3 y4 y5 y6 y7) = f36e2 y0 y1 y6 := hide (by kernel_rfl)
theorem f36n2 {R : Type} (call : Bool → CallF R) (dem : Bool) (N : Nat) (J : KF R) (e : Env) (σ : St) : runK Try.prog call dem N f36c2 f36a2 J e σ = runK Try.prog call dem N f36c3 f36a3 (seqC (fun K e σ => runK Try.prog call dem N f36c4 f36a4 K e σ) f36a2 J) e σ := runK_seq' (by kernel_rfl) (by kernel_rfl) (by kernel_rfl)
theorem f36n3 {R : Type} (call : Bool → CallF R) (dem : Bool) (N : Nat) (J : KF R) (e : Env) (σ : St) : runK Try.prog call dem N f36c3 f36a3 J e σ = runK Try.prog call dem N f36c5 f36a5 (seqC (fun K e σ => runK Try.prog call dem N f36c6 f36a6 K e σ) f36a3 J) e σ := runK_seq' (by kernel_rfl) (by kernel_rfl) (by kernel_rfl)
theorem f36r5_f36e2 {R : Type} (call : Bool → CallF R) (dem : Bool) (N : Nat) (y0 : Option (Nat × Nat)) (y1 : Option (Nat × Nat)) (y2 : Nat) (J : KF R) (σ : St) :
    runK Try.prog call dem N f36c5 f36a5 J (f36e2 y0 y1 y2) σ =
Option.bind (St.ld σ y2 (0 : Nat)) fun v0 => Option.bind (AV.toInt IntKind.i64 v0) fun v1 => J Ex.normal (f36e3 y0 y1 y2 y2 v1) σ := hide (by kernel_rfl)
theorem f36z3_f36e3 (y0 : Option (Nat × Nat)) (y1 : Option (Nat × Nat)) (y2 : Nat) (y3 : Nat) (y4 : Int) : Ann.clr f36a3 (f36e3 y0 y1 y2 y3 y4) = f36e4 y0 y1 y2 y4 := hide (by kernel_rfl)
theorem f36n6 {R : Type} (call : Bool → CallF R) (dem : Bool) (N : Nat) (J : KF R) (e : Env) (σ : St) : runK Try.prog call dem N f36c6 f36a6 J e σ = runK Try.prog call dem N f36c7 f36a7 (blockC 0 f36a6 J) e σ := runK_block' (by kernel_rfl) (by kernel_rfl)
theorem f36n7 {R : Type} (call : Bool → CallF R) (dem : Bool) (N : Nat) (J : KF R) (e : Env) (σ : St) : runK Try.prog call dem N f36c7 f36a7 J e σ = runK Try.prog call dem N f36c8 f36a8 (seqC (fun K e σ => runK Try.prog call dem N f36c9 f36a9 K e σ) f36a7 J) e σ := runK_seq' (by kernel_rfl) (by kernel_rfl) (by kernel_rfl)
theorem f36n8 {R : Type} (call : Bool → CallF R) (dem : Bool) (N : Nat) (J : KF R) (e : Env) (σ : St) : runK Try.prog call dem N f36c8 f36a8 J e σ = runK Try.prog call dem N f36c10 f36a10 (seqC (fun K e σ => runK Try.prog call dem N f36c11 f36a11 K e σ) f36a8 J) e σ := runK_seq' (by kernel_rfl) (by kernel_rfl) (by kernel_rfl)
theorem f36r10_f36e4 {R : Type} (call : Bool → CallF R) (dem : Bool) (N : Nat) (y0 : Option (Nat × Nat)) (y1 : Option (Nat × Nat)) (y2 : Nat) (y3 : Int) (J : KF R) (σ : St) :
    runK Try.prog call dem N f36c10 f36a10 J (f36e4 y0 y1 y2 y3) σ =
J Ex.normal (f36e5 y0 y1 y2 y3 (y3 == (0 : Int)) (y3 == (0 : Int))) σ := hide (by kernel_rfl)
theorem f36z8_f36e5 (y0 : Option (Nat × Nat)) (y1 : Option (Nat × Nat)) (y2 : Nat) (y3 : Int) (y4 : Bool) (y5 : Bool) : Ann.clr f36a8 (f36e5 y0 y1 y2 y3 y4 y5) = f36e6 y0 y1 y2 y3 y4 := hide (by kernel_rfl)
theorem f36x11_f36e6 {R : Type} (call : Bool → CallF R) (dem : Bool) (N : Nat) (y0 : Option (Nat × Nat)) (y1 : Option (Nat × Nat)) (y2 : Nat) (y3 : Int) (y4 : Bool) (J : KF R) (σ : St) : runK Try.prog call dem N f36c11 f36a11 J (f36e6 y0 y1 y2 y3 y4) σ = if y4 = true then runK Try.prog call dem N f36c12 f36a12 (condC f36a11 J) (f36e6 y0 y1 y2 y3 y4) σ else runK Try.prog call dem N f36c13 f36a13 (condC f36a11 J) (f36e6 y0 y1 y2 y3 y4) σ := runK_cond' (o := Operand.tmp (20 : Nat)) (by kernel_rfl) (by kernel_rfl) (by kernel_rfl) (by kernel_rfl)
theorem f36n12 {R : Type} (call : Bool → CallF R) (dem : Bool) (N : Nat) (J : KF R) (e : Env) (σ : St) : runK Try.prog call dem N f36c12 f36a12 J e σ = J .normal e σ := runK_skip' (by kernel_rfl)
theorem f36z11_f36e6 (y0 : Option (Nat × Nat)) (y1 : Option (Nat × Nat)) (y2 : Nat) (y3 : Int) (y4 : Bool) : Ann.clr f36a11 (f36e6 y0 y1 y2 y3 y4) = f36e6 y0 y1 y2 y3 y4 := hide (by kernel_rfl)
theorem f36r13_f36e6 {R : Type} (call : Bool → CallF R) (dem : Bool) (N : Nat) (y0 : Option (Nat × Nat)) (y1 : Option (Nat × Nat)) (y2 : Nat) (y3 : Int) (y4 : Bool) (J : KF R) (σ : St) :
    runK Try.prog call dem N f36c13 f36a13 J (f36e6 y0 y1 y2 y3 y4) σ =
J Ex.normal (f36e7 y0 y1 y2 y3 (y3 == (1 : Int)) (y3 == (1 : Int))) σ := hide (by kernel_rfl)
theorem f36z11_f36e7 (y0 : Option (Nat × Nat)) (y1 : Option (Nat × Nat)) (y2 : Nat) (y3 : Int) (y4 : Bool) (y5 : Bool) : Ann.clr f36a11 (f36e7 y0 y1 y2 y3 y4 y5) = f36e6 y0 y1 y2 y3 y4 := hide (by kernel_rfl)
theorem f36z7_f36e6 (y0 : Option (Nat × Nat)) (y1 : Option (Nat × Nat)) (y2 : Nat) (y3 : Int) (y4 : Bool) : Ann.clr f36a7 (f36e6 y0 y1 y2 y3 y4) = f36e6 y0 y1 y2 y3 y4 := hide (by kernel_rfl)
theorem f36x9_f36e6 {R : Type} (call : Bool → CallF R) (dem : Bool) (N : Nat) (y0 : Option (Nat × Nat)) (y1 : Option (Nat × Nat)) (y2 : Nat) (y3 : Int) (y4 : Bool) (J : KF R) (σ : St) : runK Try.prog call dem N f36c9 f36a9 J (f36e6 y0 y1 y2 y3 y4) σ = if y4 = true then runK Try.prog call dem N f36c14 f36a14 (condC f36a9 J) (f36e6 y0 y1 y2 y3 y4) σ else runK Try.prog call dem N f36c15 f36a15 (condC f36a9 J) (f36e6 y0 y1 y2 y3 y4) σ := runK_cond' (o := Operand.tmp (20 : Nat)) (by kernel_rfl) (by kernel_rfl) (by kernel_rfl) (by kernel_rfl)
theorem f36n14 {R : Type} (call : Bool → CallF R) (dem : Bool) (N : Nat) (J : KF R) (e : Env) (σ : St) : runK Try.prog call dem N f36c14 f36a14 J e σ = runK Try.prog call dem N f36c16 f36a16 (seqC (fun K e σ => runK Try.prog call dem N f36c17 f36a17 K e σ) f36a14 J) e σ := runK_seq' (by kernel_rfl) (by kernel_rfl) (by kernel_rfl)
theorem f36r16_f36e6 {R : Type} (call : Bool → CallF R) (dem : Bool) (N : Nat) (y0 : Option (Nat × Nat)) (y1 : Option (Nat × Nat)) (y2 : Nat) (y3 : Int) (y4 : Bool) (J : KF R) (σ : St) :
    runK Try.prog call dem N f36c16 f36a16 J (f36e6 y0 y1 y2 y3 y4) σ =
Option.bind (St.ld σ y2 (1 : Nat)) fun v0 =>
  Option.bind (AV.toInt IntKind.i64 v0) fun v1 =>
    Option.bind (St.ld σ y2 (2 : Nat)) fun v2 =>
      Option.bind (AV.toInt IntKind.i64 v2) fun v3 =>
        call dem (17 : Nat) [AV.ptr y0, AV.int IntKind.i64 v1, AV.int IntKind.i64 v3] σ fun v4 v5 =>
          Option.bind (AV.toTuple v4) fun v6 =>
            if List.length v6 = (2 : Nat) then
              Option.bind (List.head? v6) fun v7 =>
                Option.bind (AV.toPtr v7) fun v8 =>
                  Option.bind (List.head? (List.tail v6)) fun v9 =>
                    Option.bind (AV.toInt IntKind.i64 v9) fun v10 => J Ex.normal (f36e8 y0 y1 y2 v8 v10 y3 y4 v8 v10 y0 y2 v1 y2 v3 v8 v10 v8 v10) v5
            else none := hide (by kernel_rfl)
theorem f36z14_f36e8 (y0 : Option (Nat × Nat)) (y1 : Option (Nat × Nat)) (y2 : Nat) (y3 : Option (Nat × Nat)) (y4 : Int) (y5 : Int) (y6 : Bool) (y7 : Option (Nat × Nat)) (y8 : Int) (y9 : Option (Nat × Nat)) (y10 : Nat) (y11 : Int) (y12 : Nat) (y13 : Int) (y14 : Option (Nat × Nat)) (y15 : Int) (y16 : Option (Nat × Nat)) (y17 : Int) : Ann.clr f36a14 (f36e8 y0 y1 y2 y3 y4 y5 y6 y7 y8 y9 y10 y11 y12 y13 y14 y15 y16 y17) = f36e9 y1 y2 y3 y4 := hide (by kernel_rfl)
theorem f36n17 {R : Type} (call : Bool → CallF R) (dem : Bool) (N : Nat) (J : KF R) (e : Env) (σ : St) : runK Try.prog call dem N f36c17 f36a17 J e σ = runK Try.prog call dem N f36c18 f36a18 (seqC (fun K e σ => runK Try.prog call dem N f36c19 f36a19 K e σ) f36a17 J) e σ := runK_seq' (by kernel_rfl) (by kernel_rfl) (by kernel_rfl)
theorem f36r18_f36e9 {R : Type} (call : Bool → CallF R) (dem : Bool) (N : Nat) (y0 : Option (Nat × Nat)) (y1 : Nat) (y2 : Option (Nat × Nat)) (y3 : Int) (J : KF R) (σ : St) :
    runK Try.prog call dem N f36c18 f36a18 J (f36e9 y0 y1 y2 y3) σ =
Option.bind (St.ld σ y1 (1 : Nat)) fun v0 =>
  Option.bind (AV.toInt IntKind.i64 v0) fun v1 =>
    Option.bind (St.ld σ y1 (2 : Nat)) fun v2 =>
      Option.bind (AV.toInt IntKind.i64 v2) fun v3 =>
        call dem (51 : Nat) [AV.ptr y0, AV.int IntKind.i64 v1, AV.int IntKind.i64 v3] σ fun v4 v5 =>
          Option.bind (AV.toInt IntKind.i64 v4) fun v6 => J Ex.normal (f36e10 y0 y1 y2 y3 v6 y0 y1 v1 y1 v3 v6) v5 := hide (by kernel_rfl)
theorem f36z17_f36e10 (y0 : Option (Nat × Nat)) (y1 : Nat) (y2 : Option (Nat × Nat)) (y3 : Int) (y4 : Int) (y5 : Option (Nat × Nat)) (y6 : Nat) (y7 : Int) (y8 : Nat) (y9 : Int) (y10 : Int) : Ann.clr f36a17 (f36e10 y0 y1 y2 y3 y4 y5 y6 y7 y8 y9 y10) = f36e11 y2 y3 y4 := hide (by kernel_rfl)
theorem f36n19 {R : Type} (call : Bool → CallF R) (dem : Bool) (N : Nat) (J : KF R) (e : Env) (σ : St) : runK Try.prog call dem N f36c19 f36a19 J e σ = runK Try.prog call dem N f36c20 f36a20 (seqC (fun K e σ => runK Try.prog call dem N f36c21 f36a21 K e σ) f36a19 J) e σ := runK_seq' (by kernel_rfl) (by kernel_rfl) (by kernel_rfl)
theorem f36r20_f36e11 {R : Type} (call : Bool → CallF R) (dem : Bool) (N : Nat) (y0 : Option (Nat × Nat)) (y1 : Int) (y2 : Int) (J : KF R) (σ : St) :
    runK Try.prog call dem N f36c20 f36a20 J (f36e11 y0 y1 y2) σ =
if (y1 == y2) = true then
  J Ex.normal
    (f36e12 ((!Option.isNone y0) == (y2 == (0 : Int))) y0 y1 y2 y1 y2 (y1 == y2) true y0 (!Option.isNone y0) y2 (y2 == (0 : Int))
      ((!Option.isNone y0) == (y2 == (0 : Int))) ((!Option.isNone y0) == (y2 == (0 : Int))))
    σ
else J Ex.normal (f36e13 false y0 y1 y2 y1 y2 (y1 == y2) false false) σ := hide (by kernel_rfl)
theorem f36z19_f36e12 (y0 : Bool) (y1 : Option (Nat × Nat)) (y2 : Int) (y3 : Int) (y4 : Int) (y5 : Int) (y6 : Bool) (y7 : Bool) (y8 : Option (Nat × Nat)) (y9 : Bool) (y10 : Int) (y11 : Bool) (y12 : Bool) (y13 : Bool) : Ann.clr f36a19 (f36e12 y0 y1 y2 y3 y4 y5 y6 y7 y8 y9 y10 y11 y12 y13) = f36e14 y0 := hide (by kernel_rfl)
theorem f36y21_f36e14 {R : Type} (call : Bool → CallF R) (dem : Bool) (N : Nat) (y0 : Bool) (J : KF R) (σ : St) : runK Try.prog call dem N f36c21 f36a21 J (f36e14 y0) σ = J .ret (f36e14 y0) σ := runK_ret' (by kernel_rfl) (by kernel_rfl)
theorem f36z19_f36e13 (y0 : Bool) (y1 : Option (Nat × Nat)) (y2 : Int) (y3 : Int) (y4 : Int) (y5 : Int) (y6 : Bool) (y7 : Bool) (y8 : Bool) : Ann.clr f36a19 (f36e13 y0 y1 y2 y3 y4 y5 y6 y7 y8) = f36e14 y0 := hide (by kernel_rfl)
theorem f36n15 {R : Type} (call : Bool → CallF R) (dem : Bool) (N : Nat) (J : KF R) (e : Env) (σ : St) : runK Try.prog call dem N f36c15 f36a15 J e σ = runK Try.prog call dem N f36c22 f36a22 (seqC (fun K e σ => runK Try.prog call dem N f36c23 f36a23 K e σ) f36a15 J) e σ := runK_seq' (by kernel_rfl) (by kernel_rfl) (by kernel_rfl)
theorem f36r22_f36e6 {R : Type} (call : Bool → CallF R) (dem : Bool) (N : Nat) (y0 : Option (Nat × Nat)) (y1 : Option (Nat × Nat)) (y2 : Nat) (y3 : Int) (y4 : Bool) (J : KF R) (σ : St) :
    runK Try.prog call dem N f36c22 f36a22 J (f36e6 y0 y1 y2 y3 y4) σ =
J Ex.normal (f36e15 y0 y1 y2 y3 y4 (y3 == (2 : Int)) (y3 == (2 : Int))) σ := hide (by kernel_rfl)
theorem f36z15_f36e15 (y0 : Option (Nat × Nat)) (y1 : Option (Nat × Nat)) (y2 : Nat) (y3 : Int) (y4 : Bool) (y5 : Bool) (y6 : Bool) : Ann.clr f36a15 (f36e15 y0 y1 y2 y3 y4 y5 y6) = f36e16 y0 y1 y2 y3 y5 := hide (by kernel_rfl)
theorem f36x23_f36e16 {R : Type} (call : Bool → CallF R) (dem : Bool) (N : Nat) (y0 : Option (Nat × Nat)) (y1 : Option (Nat × Nat)) (y2 : Nat) (y3 : Int) (y4 : Bool) (J : KF R) (σ : St) : runK Try.prog call dem N f36c23 f36a23 J (f36e16 y0 y1 y2 y3 y4) σ = if y4 = true then runK Try.prog call dem N f36c24 f36a24 (condC f36a23 J) (f36e16 y0 y1 y2 y3 y4) σ else runK Try.prog call dem N f36c25 f36a25 (condC f36a23 J) (f36e16 y0 y1 y2 y3 y4) σ := runK_cond' (o := Operand.tmp (48 : Nat)) (by kernel_rfl) (by kernel_rfl) (by kernel_rfl) (by kernel_rfl)
theorem f36n24 {R : Type} (call : Bool → CallF R) (dem : Bool) (N : Nat) (J : KF R) (e : Env) (σ : St) : runK Try.prog call dem N f36c24 f36a24 J e σ = runK Try.prog call dem N f36c26 f36a26 (seqC (fun K e σ => runK Try.prog call dem N f36c27 f36a27 K e σ) f36a24 J) e σ := runK_seq' (by kernel_rfl) (by kernel_rfl) (by kernel_rfl)
theorem f36r26_f36e16 {R : Type} (call : Bool → CallF R) (dem : Bool) (N : Nat) (y0 : Option (Nat × Nat)) (y1 : Option (Nat × Nat)) (y2 : Nat) (y3 : Int) (y4 : Bool) (J : KF R) (σ : St) :
    runK Try.prog call dem N f36c26 f36a26 J (f36e16 y0 y1 y2 y3 y4) σ =
Option.bind (St.ld σ y2 (1 : Nat)) fun v0 =>
  Option.bind (AV.toInt IntKind.i64 v0) fun v1 =>
    Option.bind (St.ld σ y2 (2 : Nat)) fun v2 =>
      Option.bind (AV.toInt IntKind.i64 v2) fun v3 =>
        Option.bind (St.ld σ y2 (3 : Nat)) fun v4 =>
          Option.bind (AV.toStr v4) fun v5 =>
            call dem (33 : Nat)
              [AV.ptr y0, AV.int IntKind.i64 v1, AV.int IntKind.i64 v3,
                AV.agg [AV.str v5, AV.int IntKind.i64 (1 : Int), AV.slice none (0 : Nat) (some (0 : Nat)) (2 : Nat)]]
              σ fun v6 v7 =>
              Option.bind (AV.toTuple v6) fun v8 =>
                if List.length v8 = (2 : Nat) then
                  Option.bind (List.head? v8) fun v9 =>
                    Option.bind (AV.toBool v9) fun v10 =>
                      Option.bind (List.head? (List.tail v8)) fun v11 =>
                        Option.bind (AV.toInt IntKind.i64 v11) fun v12 =>
                          J Ex.normal
                            (f36e17 y0 y1 y2 v10 v12 y3 y4 v10 v12 y0 y2 v1 y2 v3 y2 v5 v5 (1 : Int) none (0 : Nat) (some (0 : Nat)) v10 v12 v10 v12)
                            v7
                else none := hide (by kernel_rfl)
theorem f36z24_f36e17 (y0 : Option (Nat × Nat)) (y1 : Option (Nat × Nat)) (y2 : Nat) (y3 : Bool) (y4 : Int) (y5 : Int) (y6 : Bool) (y7 : Bool) (y8 : Int) (y9 : Option (Nat × Nat)) (y10 : Nat) (y11 : Int) (y12 : Nat) (y13 : Int) (y14 : Nat) (y15 : ByteArray) (y16 : ByteArray) (y17 : Int) (y18 : Option (Nat × Nat)) (y19 : Nat) (y20 : Option Nat) (y21 : Bool) (y22 : Int) (y23 : Bool) (y24 : Int) : Ann.clr f36a24 (f36e17 y0 y1 y2 y3 y4 y5 y6 y7 y8 y9 y10 y11 y12 y13 y14 y15 y16 y17 y18 y19 y20 y21 y22 y23 y24) = f36e18 y1 y2 y3 y4 := hide (by kernel_rfl)
theorem f36n27 {R : Type} (call : Bool → CallF R) (dem : Bool) (N : Nat) (J : KF R) (e : Env) (σ : St) : runK Try.prog call dem N f36c27 f36a27 J e σ = runK Try.prog call dem N f36c28 f36a28 (seqC (fun K e σ => runK Try.prog call dem N f36c29 f36a29 K e σ) f36a27 J) e σ := runK_seq' (by kernel_rfl) (by kernel_rfl) (by kernel_rfl)
theorem f36r28_f36e18 {R : Type} (call : Bool → CallF R) (dem : Bool) (N : Nat) (y0 : Option (Nat × Nat)) (y1 : Nat) (y2 : Bool) (y3 : Int) (J : KF R) (σ : St) :
    runK Try.prog call dem N f36c28 f36a28 J (f36e18 y0 y1 y2 y3) σ =
Option.bind (St.ld σ y1 (1 : Nat)) fun v0 =>
  Option.bind (AV.toInt IntKind.i64 v0) fun v1 =>
    Option.bind (St.ld σ y1 (2 : Nat)) fun v2 =>
      Option.bind (AV.toInt IntKind.i64 v2) fun v3 =>
        Option.bind (St.ld σ y1 (3 : Nat)) fun v4 =>
          Option.bind (AV.toStr v4) fun v5 =>
            call dem (52 : Nat) [AV.ptr y0, AV.int IntKind.i64 v1, AV.int IntKind.i64 v3, AV.str v5] σ fun v6 v7 =>
              Option.bind (AV.toTuple v6) fun v8 =>
                if List.length v8 = (2 : Nat) then
                  Option.bind (List.head? v8) fun v9 =>
                    Option.bind (AV.toBool v9) fun v10 =>
                      Option.bind (List.head? (List.tail v8)) fun v11 =>
                        Option.bind (AV.toInt IntKind.i64 v11) fun v12 =>
                          J Ex.normal (f36e19 y0 y1 y2 y3 v10 v12 v10 v12 y0 y1 v1 y1 v3 y1 v5 v10 v12 v10 v12) v7
                else none := hide (by kernel_rfl)
theorem f36z27_f36e19 (y0 : Option (Nat × Nat)) (y1 : Nat) (y2 : Bool) (y3 : Int) (y4 : Bool) (y5 : Int) (y6 : Bool) (y7 : Int) (y8 : Option (Nat × Nat)) (y9 : Nat) (y10 : Int) (y11 : Nat) (y12 : Int) (y13 : Nat) (y14 : ByteArray) (y15 : Bool) (y16 : Int) (y17 : Bool) (y18 : Int) : Ann.clr f36a27 (f36e19 y0 y1 y2 y3 y4 y5 y6 y7 y8 y9 y10 y11 y12 y13 y14 y15 y16 y17 y18) = f36e20 y2 y3 y4 y5 := hide (by kernel_rfl)
theorem f36n29 {R : Type} (call : Bool → CallF R) (dem : Bool) (N : Nat) (J : KF R) (e : Env) (σ : St) : runK Try.prog call dem N f36c29 f36a29 J e σ = runK Try.prog call dem N f36c30 f36a30 (seqC (fun K e σ => runK Try.prog call dem N f36c31 f36a31 K e σ) f36a29 J) e σ := runK_seq' (by kernel_rfl) (by kernel_rfl) (by kernel_rfl)
theorem f36r30_f36e20 {R : Type} (call : Bool → CallF R) (dem : Bool) (N : Nat) (y0 : Bool) (y1 : Int) (y2 : Bool) (y3 : Int) (J : KF R) (σ : St) :
    runK Try.prog call dem N f36c30 f36a30 J (f36e20 y0 y1 y2 y3) σ =
if (y0 == y2) = true then J Ex.normal (f36e21 (y1 == y3) y0 y1 y2 y3 y0 y2 (y0 == y2) true y1 y3 (y1 == y3) (y1 == y3)) σ
else J Ex.normal (f36e22 false y0 y1 y2 y3 y0 y2 (y0 == y2) false false) σ := hide (by kernel_rfl)
theorem f36z29_f36e21 (y0 : Bool) (y1 : Bool) (y2 : Int) (y3 : Bool) (y4 : Int) (y5 : Bool) (y6 : Bool) (y7 : Bool) (y8 : Bool) (y9 : Int) (y10 : Int) (y11 : Bool) (y12 : Bool) : Ann.clr f36a29 (f36e21 y0 y1 y2 y3 y4 y5 y6 y7 y8 y9 y10 y11 y12) = f36e14 y0 := hide (by kernel_rfl)
theorem f36y31_f36e14 {R : Type} (call : Bool → CallF R) (dem : Bool) (N : Nat) (y0 : Bool) (J : KF R) (σ : St) : runK Try.prog call dem N f36c31 f36a31 J (f36e14 y0) σ = J .ret (f36e14 y0) σ := runK_ret' (by kernel_rfl) (by kernel_rfl)
theorem f36z29_f36e22 (y0 : Bool) (y1 : Bool) (y2 : Int) (y3 : Bool) (y4 : Int) (y5 : Bool) (y6 : Bool) (y7 : Bool) (y8 : Bool) (y9 : Bool) : Ann.clr f36a29 (f36e22 y0 y1 y2 y3 y4 y5 y6 y7 y8 y9) = f36e14 y0 := hide (by kernel_rfl)
theorem f36n25 {R : Type} (call : Bool → CallF R) (dem : Bool) (N : Nat) (J : KF R) (e : Env) (σ : St) : runK Try.prog call dem N f36c25 f36a25 J e σ = runK Try.prog call dem N f36c32 f36a32 (seqC (fun K e σ => runK Try.prog call dem N f36c33 f36a33 K e σ) f36a25 J) e σ := runK_seq' (by kernel_rfl) (by kernel_rfl) (by kernel_rfl)
theorem f36r32_f36e16 {R : Type} (call : Bool → CallF R) (dem : Bool) (N : Nat) (y0 : Option (Nat × Nat)) (y1 : Option (Nat × Nat)) (y2 : Nat) (y3 : Int) (y4 : Bool) (J : KF R) (σ : St) :
    runK Try.prog call dem N f36c32 f36a32 J (f36e16 y0 y1 y2 y3 y4) σ =
J Ex.normal (f36e23 y0 y1 y2 y3 y4 (y3 == (3 : Int)) (y3 == (3 : Int))) σ := hide (by kernel_rfl)
theorem f36z25_f36e23 (y0 : Option (Nat × Nat)) (y1 : Option (Nat × Nat)) (y2 : Nat) (y3 : Int) (y4 : Bool) (y5 : Bool) (y6 : Bool) : Ann.clr f36a25 (f36e23 y0 y1 y2 y3 y4 y5 y6) = f36e24 y0 y1 y2 y3 y5 := hide (by kernel_rfl)
theorem f36x33_f36e24 {R : Type} (call : Bool → CallF R) (dem : Bool) (N : Nat) (y0 : Option (Nat × Nat)) (y1 : Option (Nat × Nat)) (y2 : Nat) (y3 : Int) (y4 : Bool) (J : KF R) (σ : St) : runK Try.prog call dem N f36c33 f36a33 J (f36e24 y0 y1 y2 y3 y4) σ = if y4 = true then runK Try.prog call dem N f36c34 f36a34 (condC f36a33 J) (f36e24 y0 y1 y2 y3 y4) σ else runK Try.prog call dem N f36c35 f36a35 (condC f36a33 J) (f36e24 y0 y1 y2 y3 y4) σ := runK_cond' (o := Operand.tmp (81 : Nat)) (by kernel_rfl) (by kernel_rfl) (by kernel_rfl) (by kernel_rfl)
theorem f36n34 {R : Type} (call : Bool → CallF R) (dem : Bool) (N : Nat) (J : KF R) (e : Env) (σ : St) : runK Try.prog call dem N f36c34 f36a34 J e σ = runK Try.prog call dem N f36c36 f36a36 (seqC (fun K e σ => runK Try.prog call dem N f36c37 f36a37 K e σ) f36a34 J) e σ := runK_seq' (by kernel_rfl) (by kernel_rfl) (by kernel_rfl)
theorem f36r36_f36e24 {R : Type} (call : Bool → CallF R) (dem : Bool) (N : Nat) (y0 : Option (Nat × Nat)) (y1 : Option (Nat × Nat)) (y2 : Nat) (y3 : Int) (y4 : Bool) (J : KF R) (σ : St) :
    runK Try.prog call dem N f36c36 f36a36 J (f36e24 y0 y1 y2 y3 y4) σ =
Option.bind (St.ld σ y2 (2 : Nat)) fun v0 =>
  Option.bind (AV.toInt IntKind.i64 v0) fun v1 =>
    call dem (14 : Nat) [AV.ptr y0, AV.int IntKind.i64 v1] σ fun v2 v3 =>
      Option.bind (AV.toTuple v2) fun v4 =>
        if List.length v4 = (2 : Nat) then
          Option.bind (List.head? v4) fun v5 =>
            Option.bind (AV.toBool v5) fun v6 =>
              Option.bind (List.head? (List.tail v4)) fun v7 =>
                Option.bind (AV.toInt IntKind.i64 v7) fun v8 => J Ex.normal (f36e25 y0 y1 y2 v6 v8 y3 y4 v6 v8 y0 y2 v1 v6 v8 v6 v8) v3
        else none := hide (by kernel_rfl)
theorem f36z34_f36e25 (y0 : Option (Nat × Nat)) (y1 : Option (Nat × Nat)) (y2 : Nat) (y3 : Bool) (y4 : Int) (y5 : Int) (y6 : Bool) (y7 : Bool) (y8 : Int) (y9 : Option (Nat × Nat)) (y10 : Nat) (y11 : Int) (y12 : Bool) (y13 : Int) (y14 : Bool) (y15 : Int) : Ann.clr f36a34 (f36e25 y0 y1 y2 y3 y4 y5 y6 y7 y8 y9 y10 y11 y12 y13 y14 y15) = f36e26 y1 y2 y3 y4 := hide (by kernel_rfl)
theorem f36n37 {R : Type} (call : Bool → CallF R) (dem : Bool) (N : Nat) (J : KF R) (e : Env) (σ : St) : runK Try.prog call dem N f36c37 f36a37 J e σ = runK Try.prog call dem N f36c38 f36a38 (seqC (fun K e σ => runK Try.prog call dem N f36c39 f36a39 K e σ) f36a37 J) e σ := runK_seq' (by kernel_rfl) (by kernel_rfl) (by kernel_rfl)
theorem f36r38_f36e26 {R : Type} (call : Bool → CallF R) (dem : Bool) (N : Nat) (y0 : Option (Nat × Nat)) (y1 : Nat) (y2 : Bool) (y3 : Int) (J : KF R) (σ : St) :
    runK Try.prog call dem N f36c38 f36a38 J (f36e26 y0 y1 y2 y3) σ =
Option.bind (St.ld σ y1 (2 : Nat)) fun v0 =>
  Option.bind (AV.toInt IntKind.i64 v0) fun v1 =>
    call dem (53 : Nat) [AV.ptr y0, AV.int IntKind.i64 v1] σ fun v2 v3 =>
      Option.bind (AV.toTuple v2) fun v4 =>
        if List.length v4 = (2 : Nat) then
          Option.bind (List.head? v4) fun v5 =>
            Option.bind (AV.toBool v5) fun v6 =>
              Option.bind (List.head? (List.tail v4)) fun v7 =>
                Option.bind (AV.toInt IntKind.i64 v7) fun v8 => J Ex.normal (f36e27 y0 y1 y2 y3 v6 v8 v6 v8 y0 y1 v1 v6 v8 v6 v8) v3
        else none := hide (by kernel_rfl)
theorem f36z37_f36e27 (y0 : Option (Nat × Nat)) (y1 : Nat) (y2 : Bool) (y3 : Int) (y4 : Bool) (y5 : Int) (y6 : Bool) (y7 : Int) (y8 : Option (Nat × Nat)) (y9 : Nat) (y10 : Int) (y11 : Bool) (y12 : Int) (y13 : Bool) (y14 : Int) : Ann.clr f36a37 (f36e27 y0 y1 y2 y3 y4 y5 y6 y7 y8 y9 y10 y11 y12 y13 y14) = f36e28 y2 y3 y4 y5 := hide (by kernel_rfl)
theorem f36n39 {R : Type} (call : Bool → CallF R) (dem : Bool) (N : Nat) (J : KF R) (e : Env) (σ : St) : runK Try.prog call dem N f36c39 f36a39 J e σ = runK Try.prog call dem N f36c40 f36a40 (seqC (fun K e σ => runK Try.prog call dem N f36c41 f36a41 K e σ) f36a39 J) e σ := runK_seq' (by kernel_rfl) (by kernel_rfl) (by kernel_rfl)
theorem f36r40_f36e28 {R : Type} (call : Bool → CallF R) (dem : Bool) (N : Nat) (y0 : Bool) (y1 : Int) (y2 : Bool) (y3 : Int) (J : KF R) (σ : St) :
    runK Try.prog call dem N f36c40 f36a40 J (f36e28 y0 y1 y2 y3) σ =
if (y0 == y2) = true then J Ex.normal (f36e29 (y1 == y3) y0 y1 y2 y3 y0 y2 (y0 == y2) true y1 y3 (y1 == y3) (y1 == y3)) σ
else J Ex.normal (f36e30 false y0 y1 y2 y3 y0 y2 (y0 == y2) false false) σ := hide (by kernel_rfl)
theorem f36z39_f36e29 (y0 : Bool) (y1 : Bool) (y2 : Int) (y3 : Bool) (y4 : Int) (y5 : Bool) (y6 : Bool) (y7 : Bool) (y8 : Bool) (y9 : Int) (y10 : Int) (y11 : Bool) (y12 : Bool) : Ann.clr f36a39 (f36e29 y0 y1 y2 y3 y4 y5 y6 y7 y8 y9 y10 y11 y12) = f36e14 y0 := hide (by kernel_rfl)
theorem f36y41_f36e14 {R : Type} (call : Bool → CallF R) (dem : Bool) (N : Nat) (y0 : Bool) (J : KF R) (σ : St) : runK Try.prog call dem N f36c41 f36a41 J (f36e14 y0) σ = J .ret (f36e14 y0) σ := runK_ret' (by kernel_rfl) (by kernel_rfl)
theorem f36z39_f36e30 (y0 : Bool) (y1 : Bool) (y2 : Int) (y3 : Bool) (y4 : Int) (y5 : Bool) (y6 : Bool) (y7 : Bool) (y8 : Bool) (y9 : Bool) : Ann.clr f36a39 (f36e30 y0 y1 y2 y3 y4 y5 y6 y7 y8 y9) = f36e14 y0 := hide (by kernel_rfl)
theorem f36n35 {R : Type} (call : Bool → CallF R) (dem : Bool) (N : Nat) (J : KF R) (e : Env) (σ : St) : runK Try.prog call dem N f36c35 f36a35 J e σ = runK Try.prog call dem N f36c42 f36a42 (seqC (fun K e σ => runK Try.prog call dem N f36c43 f36a43 K e σ) f36a35 J) e σ := runK_seq' (by kernel_rfl) (by kernel_rfl) (by kernel_rfl)
theorem f36r42_f36e24 {R : Type} (call : Bool → CallF R) (dem : Bool) (N : Nat) (y0 : Option (Nat × Nat)) (y1 : Option (Nat × Nat)) (y2 : Nat) (y3 : Int) (y4 : Bool) (J : KF R) (σ : St) :
    runK Try.prog call dem N f36c42 f36a42 J (f36e24 y0 y1 y2 y3 y4) σ =
J Ex.normal (f36e31 y0 y1 y2 y3 y4 (y3 == (4 : Int)) (y3 == (4 : Int))) σ := hide (by kernel_rfl)
theorem f36z35_f36e31 (y0 : Option (Nat × Nat)) (y1 : Option (Nat × Nat)) (y2 : Nat) (y3 : Int) (y4 : Bool) (y5 : Bool) (y6 : Bool) : Ann.clr f36a35 (f36e31 y0 y1 y2 y3 y4 y5 y6) = f36e32 y0 y1 y2 y5 := hide (by kernel_rfl)
theorem f36x43_f36e32 {R : Type} (call : Bool → CallF R) (dem : Bool) (N : Nat) (y0 : Option (Nat × Nat)) (y1 : Option (Nat × Nat)) (y2 : Nat) (y3 : Bool) (J : KF R) (σ : St) : runK Try.prog call dem N f36c43 f36a43 J (f36e32 y0 y1 y2 y3) σ = if y3 = true then runK Try.prog call dem N f36c44 f36a44 (condC f36a43 J) (f36e32 y0 y1 y2 y3) σ else runK Try.prog call dem N f36c45 f36a45 (condC f36a43 J) (f36e32 y0 y1 y2 y3) σ := runK_cond' (o := Operand.tmp (105 : Nat)) (by kernel_rfl) (by kernel_rfl) (by kernel_rfl) (by kernel_rfl)
theorem f36n44 {R : Type} (call : Bool → CallF R) (dem : Bool) (N : Nat) (J : KF R) (e : Env) (σ : St) : runK Try.prog call dem N f36c44 f36a44 J e σ = runK Try.prog call dem N f36c46 f36a46 (seqC (fun K e σ => runK Try.prog call dem N f36c47 f36a47 K e σ) f36a44 J) e σ := runK_seq' (by kernel_rfl) (by kernel_rfl) (by kernel_rfl)
theorem f36r46_f36e32 {R : Type} (call : Bool → CallF R) (dem : Bool) (N : Nat) (y0 : Option (Nat × Nat)) (y1 : Option (Nat × Nat)) (y2 : Nat) (y3 : Bool) (J : KF R) (σ : St) :
    runK Try.prog call dem N f36c46 f36a46 J (f36e32 y0 y1 y2 y3) σ =
Option.bind (St.ld σ y2 (1 : Nat)) fun v0 =>
  Option.bind (AV.toInt IntKind.i64 v0) fun v1 =>
    call false (40 : Nat) [AV.ptr y0, AV.int IntKind.i64 v1] σ fun v2 v3 =>
      Option.bind (AV.toInt IntKind.i64 v2) fun v4 =>
        Option.bind (St.ld v3 y2 (1 : Nat)) fun v5 =>
          Option.bind (AV.toInt IntKind.i64 v5) fun v6 =>
            if St.same σ y2 (1 : Nat) [AV.int IntKind.i64 v6] = true then
              call false (54 : Nat) [AV.ptr y1, AV.int IntKind.i64 v6] v3 fun v7 v8 =>
                Option.bind (AV.toInt IntKind.i64 v7) fun v9 => J Ex.normal (f36e33 y0 y1 y2 (v4 == v9) y3 y0 y2 v1 v4 y1 y2 v6 v9 (v4 == v9)) v8
            else none := hide (by kernel_rfl)
theorem f36z44_f36e33 (y0 : Option (Nat × Nat)) (y1 : Option (Nat × Nat)) (y2 : Nat) (y3 : Bool) (y4 : Bool) (y5 : Option (Nat × Nat)) (y6 : Nat) (y7 : Int) (y8 : Int) (y9 : Option (Nat × Nat)) (y10 : Nat) (y11 : Int) (y12 : Int) (y13 : Bool) : Ann.clr f36a44 (f36e33 y0 y1 y2 y3 y4 y5 y6 y7 y8 y9 y10 y11 y12 y13) = f36e14 y3 := hide (by kernel_rfl)
theorem f36y47_f36e14 {R : Type} (call : Bool → CallF R) (dem : Bool) (N : Nat) (y0 : Bool) (J : KF R) (σ : St) : runK Try.prog call dem N f36c47 f36a47 J (f36e14 y0) σ = J .ret (f36e14 y0) σ := runK_ret' (by kernel_rfl) (by kernel_rfl)
theorem f36n45 {R : Type} (call : Bool → CallF R) (dem : Bool) (N : Nat) (J : KF R) (e : Env) (σ : St) : runK Try.prog call dem N f36c45 f36a45 J e σ = J .normal e σ := runK_skip' (by kernel_rfl)
theorem f36z43_f36e32 (y0 : Option (Nat × Nat)) (y1 : Option (Nat × Nat)) (y2 : Nat) (y3 : Bool) : Ann.clr f36a43 (f36e32 y0 y1 y2 y3) = f36e34 := hide (by kernel_rfl)
theorem f36z33_f36e34 : Ann.clr f36a33 (f36e34) = f36e34 := hide (by kernel_rfl)
theorem f36z23_f36e34 : Ann.clr f36a23 (f36e34) = f36e34 := hide (by kernel_rfl)
theorem f36z9_f36e34 : Ann.clr f36a9 (f36e34) = f36e34 := hide (by kernel_rfl)
theorem f36z6_f36e34 : Ann.clr f36a6 (f36e34) = f36e34 := hide (by kernel_rfl)
theorem f36z2_f36e34 : Ann.clr f36a2 (f36e34) = f36e34 := hide (by kernel_rfl)
theorem f36n4 {R : Type} (call : Bool → CallF R) (dem : Bool) (N : Nat) (J : KF R) (e : Env) (σ : St) : runK Try.prog call dem N f36c4 f36a4 J e σ = runK Try.prog call dem N f36c48 f36a48 (seqC (fun K e σ => runK Try.prog call dem N f36c49 f36a49 K e σ) f36a4 J) e σ := runK_seq' (by kernel_rfl) (by kernel_rfl) (by kernel_rfl)
theorem f36r48_f36e34 {R : Type} (call : Bool → CallF R) (dem : Bool) (N : Nat) (J : KF R) (σ : St) :
    runK Try.prog call dem N f36c48 f36a48 J (f36e34) σ =
J Ex.normal (f36e14 true) σ := hide (by kernel_rfl)
theorem f36z4_f36e14 (y0 : Bool) : Ann.clr f36a4 (f36e14 y0) = f36e14 y0 := hide (by kernel_rfl)
theorem f36y49_f36e14 {R : Type} (call : Bool → CallF R) (dem : Bool) (N : Nat) (y0 : Bool) (J : KF R) (σ : St) : runK Try.prog call dem N f36c49 f36a49 J (f36e14 y0) σ = J .ret (f36e14 y0) σ := runK_ret' (by kernel_rfl) (by kernel_rfl)
theorem f36b_f36e14_r {R : Type} (y0 : Bool) (σ : St) (K : AV → St → Option R) : bodyC Try.prog f36rs K (Ex.ret) (f36e14 y0) σ =
K (AV.bool y0) σ := hide (by kernel_rfl)
attribute [go_sem] f36_eq f36n0 f36r1_f36e0 f36z0_f36e1 f36n2 f36n3 f36r5_f36e2 f36z3_f36e3 f36n6 f36n7 f36n8 f36r10_f36e4 f36z8_f36e5 f36x11_f36e6 f36n12 f36z11_f36e6 f36r13_f36e6 f36z11_f36e7 f36z7_f36e6 f36x9_f36e6 f36n14 f36r16_f36e6 f36z14_f36e8 f36n17 f36r18_f36e9 f36z17_f36e10 f36n19 f36r20_f36e11 f36z19_f36e12 f36y21_f36e14 f36z19_f36e13 f36n15 f36r22_f36e6 f36z15_f36e15 f36x23_f36e16 f36n24 f36r26_f36e16 f36z24_f36e17 f36n27 f36r28_f36e18 f36z27_f36e19 f36n29 f36r30_f36e20 f36z29_f36e21 f36y31_f36e14 f36z29_f36e22 f36n25 f36r32_f36e16 f36z25_f36e23 f36x33_f36e24 f36n34 f36r36_f36e24 f36z34_f36e25 f36n37 f36r38_f36e26 f36z37_f36e27 f36n39 f36r40_f36e28 f36z39_f36e29 f36y41_f36e14 f36z39_f36e30 f36n35 f36r42_f36e24 f36z35_f36e31 f36x43_f36e32 f36n44 f36r46_f36e32 f36z44_f36e33 f36y47_f36e14 f36n45 f36z43_f36e32 f36z33_f36e34 f36z23_f36e34 f36z9_f36e34 f36z6_f36e34 f36z2_f36e34 f36n4 f36r48_f36e34 f36z4_f36e14 f36y49_f36e14 f36b_f36e14_r

noncomputable def f37rs : List ResultVar := [ResultVar.cell (4 : Nat) (94 : Nat), ResultVar.tmp (5 : Nat)]
noncomputable def f37c0 : Code := subCode [] (bodyOf Try.prog 37)
def f37a0 : Ann := subAnn [] ann37
noncomputable def f37c1 : Code := subCode [0] (bodyOf Try.prog 37)
def f37a1 : Ann := subAnn [0] ann37
noncomputable def f37c2 : Code := subCode [1] (bodyOf Try.prog 37)
def f37a2 : Ann := subAnn [1] ann37
noncomputable def f37c3 : Code := subCode [1, 0] (bodyOf Try.prog 37)
def f37a3 : Ann := subAnn [1, 0] ann37
noncomputable def f37c4 : Code := subCode [1, 1] (bodyOf Try.prog 37)
def f37a4 : Ann := subAnn [1, 1] ann37
noncomputable def f37c5 : Code := subCode [1, 0, 0] (bodyOf Try.prog 37)
def f37a5 : Ann := subAnn [1, 0, 0] ann37
noncomputable def f37c6 : Code := subCode [1, 0, 1] (bodyOf Try.prog 37)
def f37a6 : Ann := subAnn [1, 0, 1] ann37
noncomputable def f37c7 : Code := subCode [1, 0, 1, 0] (bodyOf Try.prog 37)
def f37a7 : Ann := subAnn [1, 0, 1, 0] ann37
noncomputable def f37c8 : Code := subCode [1, 0, 1, 0, 0] (bodyOf Try.prog 37)
def f37a8 : Ann := subAnn [1, 0, 1, 0, 0] ann37
noncomputable def f37c9 : Code := subCode [1, 0, 1, 0, 0, 0] (bodyOf Try.prog 37)
def f37a9 : Ann := subAnn [1, 0, 1, 0, 0, 0] ann37
noncomputable def f37c10 : Code := subCode [1, 0, 1, 0, 0, 1] (bodyOf Try.prog 37)
def f37a10 : Ann := subAnn [1, 0, 1, 0, 0, 1] ann37
noncomputable def f37c11 : Code := subCode [1, 0, 1, 0, 0, 1, 0] (bodyOf Try.prog 37)
def f37a11 : Ann := subAnn [1, 0, 1, 0, 0, 1, 0] ann37
noncomputable def f37c12 : Code := subCode [1, 0, 1, 0, 0, 1, 1] (bodyOf Try.prog 37)
def f37a12 : Ann := subAnn [1, 0, 1, 0, 0, 1, 1] ann37
noncomputable def f37c13 : Code := subCode [1, 0, 1, 0, 0, 1, 0, 0] (bodyOf Try.prog 37)
def f37a13 : Ann := subAnn [1, 0, 1, 0, 0, 1, 0, 0] ann37
noncomputable def f37c14 : Code := subCode [1, 0, 1, 0, 0, 1, 0, 1] (bodyOf Try.prog 37)
def f37a14 : Ann := subAnn [1, 0, 1, 0, 0, 1, 0, 1] ann37
noncomputable def f37c15 : Code := subCode [1, 0, 1, 0, 0, 1, 1, 0] (bodyOf Try.prog 37)
def f37a15 : Ann := subAnn [1, 0, 1, 0, 0, 1, 1, 0] ann37
noncomputable def f37c16 : Code := subCode [1, 0, 1, 0, 0, 1, 1, 1] (bodyOf Try.prog 37)
def f37a16 : Ann := subAnn [1, 0, 1, 0, 0, 1, 1, 1] ann37
noncomputable def f37c17 : Code := subCode [1, 0, 1, 0, 0, 1, 1, 0, 0] (bodyOf Try.prog 37)
def f37a17 : Ann := subAnn [1, 0, 1, 0, 0, 1, 1, 0, 0] ann37
noncomputable def f37c18 : Code := subCode [1, 0, 1, 0, 0, 1, 1, 0, 0, 0] (bodyOf Try.prog 37)
def f37a18 : Ann := subAnn [1, 0, 1, 0, 0, 1, 1, 0, 0, 0] ann37
noncomputable def f37c19 : Code := subCode [1, 0, 1, 0, 0, 1, 1, 0, 0, 1] (bodyOf Try.prog 37)
def f37a19 : Ann := subAnn [1, 0, 1, 0, 0, 1, 1, 0, 0, 1] ann37
noncomputable def f37c20 : Code := subCode [1, 0, 1, 0, 0, 1, 1, 0, 0, 1, 0] (bodyOf Try.prog 37)
def f37a20 : Ann := subAnn [1, 0, 1, 0, 0, 1, 1, 0, 0, 1, 0] ann37
noncomputable def f37c21 : Code := subCode [1, 0, 1, 0, 0, 1, 1, 0, 0, 1, 1] (bodyOf Try.prog 37)
def f37a21 : Ann := subAnn [1, 0, 1, 0, 0, 1, 1, 0, 0, 1, 1] ann37
noncomputable def f37c22 : Code := subCode [1, 0, 1, 0, 0, 1, 1, 0, 0, 1, 1, 0] (bodyOf Try.prog 37)
def f37a22 : Ann := subAnn [1, 0, 1, 0, 0, 1, 1, 0, 0, 1, 1, 0] ann37
noncomputable def f37c23 : Code := subCode [1, 0, 1, 0, 0, 1, 1, 0, 0, 1, 1, 1] (bodyOf Try.prog 37)
def f37a23 : Ann := subAnn [1, 0, 1, 0, 0, 1, 1, 0, 0, 1, 1, 1] ann37
noncomputable def f37c24 : Code := subCode [1, 0, 1, 0, 0, 1, 1, 0, 0, 1, 1, 0, 0] (bodyOf Try.prog 37)
def f37a24 : Ann := subAnn [1, 0, 1, 0, 0, 1, 1, 0, 0, 1, 1, 0, 0] ann37
noncomputable def f37c25 : Code := subCode [1, 0, 1, 0, 0, 1, 1, 0, 0, 1, 1, 0, 1] (bodyOf Try.prog 37)
def f37a25 : Ann := subAnn [1, 0, 1, 0, 0, 1, 1, 0, 0, 1, 1, 0, 1] ann37
noncomputable def f37c26 : Code := subCode [1, 1, 0] (bodyOf Try.prog 37)
def f37a26 : Ann := subAnn [1, 1, 0] ann37
noncomputable def f37c27 : Code := subCode [1, 1, 1] (bodyOf Try.prog 37)
def f37a27 : Ann := subAnn [1, 1, 1] ann37
noncomputable def f37L7 {R : Type} (call : Bool → CallF R) (dem : Bool) (N : Nat) : KF R → Env → St → Option R := fun K e σ => runK Try.prog call dem N f37c8 f37a8 K e σ
def f37e0 (y0 : Option (Nat × Nat)) (y1 : Int) : Env := AV.ptr y0 :: AV.int IntKind.i64 y1 :: Env.sp 22 []
def f37e1 (y0 : Option (Nat × Nat)) (y1 : Int) (y2 : Nat) (y3 : Bool) : Env := AV.ptr y0 :: AV.int IntKind.i64 y1 :: Env.sp 2 (AV.ptr (some (y2, (0 : Nat))) :: AV.bool y3 :: Env.sp 18 [])
def f37e2 (y0 : Option (Nat × Nat)) (y1 : Int) (y2 : Nat) : Env := AV.ptr y0 :: AV.int IntKind.i64 y1 :: Env.sp 2 (AV.ptr (some (y2, (0 : Nat))) :: Env.sp 19 [])
def f37e3 (y0 : Option (Nat × Nat)) (y1 : Int) (y2 : Nat) (y3 : Option (Nat × Nat)) (y4 : Option (Nat × Nat)) (y5 : Option (Nat × Nat)) (y6 : Option (Nat × Nat)) (y7 : Nat) (y8 : Option Nat) (y9 : Int) (y10 : Int) : Env := AV.ptr y0 :: AV.int IntKind.i64 y1 :: Env.sp 2 (AV.ptr (some (y2, (0 : Nat))) :: Env.sp 3 (AV.ptr y3 :: AV.ptr y4 :: AV.ptr y5 :: AV.slice y6 y7 y8 (3 : Nat) :: AV.int IntKind.i64 y9 :: AV.int IntKind.i64 y10 :: Env.sp 10 []))
def f37e4 (y0 : Int) (y1 : Nat) (y2 : Option (Nat × Nat)) (y3 : Nat) (y4 : Option Nat) (y5 : Int) (y6 : Int) : Env := Env.sp 1 (AV.int IntKind.i64 y0 :: Env.sp 2 (AV.ptr (some (y1, (0 : Nat))) :: Env.sp 6 (AV.slice y2 y3 y4 (3 : Nat) :: AV.int IntKind.i64 y5 :: AV.int IntKind.i64 y6 :: Env.sp 10 [])))
def f37e5 (y0 : Int) (y1 : Nat) (y2 : Option (Nat × Nat)) (y3 : Nat) (y4 : Option Nat) (y5 : Int) (y6 : Int) (y7 : Bool) : Env := Env.sp 1 (AV.int IntKind.i64 y0 :: Env.sp 2 (AV.ptr (some (y1, (0 : Nat))) :: Env.sp 6 (AV.slice y2 y3 y4 (3 : Nat) :: AV.int IntKind.i64 y5 :: AV.int IntKind.i64 y6 :: AV.bool y7 :: Env.sp 9 [])))
def f37e6 (y0 : Nat) : Env := Env.sp 4 (AV.ptr (some (y0, (0 : Nat))) :: Env.sp 19 [])
def f37e7 (y0 : Int) (y1 : Nat) (y2 : Nat) (y3 : Option (Nat × Nat)) (y4 : Nat) (y5 : Option Nat) (y6 : Int) (y7 : Int) (y8 : Option (Nat × Nat)) (y9 : Int) (y10 : Int) (y11 : ByteArray) : Env := Env.sp 1 (AV.int IntKind.i64 y0 :: Env.sp 2 (AV.ptr (some (y1, (0 : Nat))) :: Env.sp 2 (AV.ptr (some (y2, (0 : Nat))) :: Env.sp 3 (AV.slice y3 y4 y5 (3 : Nat) :: AV.int IntKind.i64 y6 :: AV.int IntKind.i64 y7 :: Env.sp 1 (AV.ptr y8 :: AV.agg [AV.int IntKind.i64 y9, AV.int IntKind.i64 y10, AV.str y11] :: Env.sp 7 [])))))
def f37e8 (y0 : Int) (y1 : Nat) (y2 : Nat) (y3 : Option (Nat × Nat)) (y4 : Nat) (y5 : Option Nat) (y6 : Int) (y7 : Int) : Env := Env.sp 1 (AV.int IntKind.i64 y0 :: Env.sp 2 (AV.ptr (some (y1, (0 : Nat))) :: Env.sp 2 (AV.ptr (some (y2, (0 : Nat))) :: Env.sp 3 (AV.slice y3 y4 y5 (3 : Nat) :: AV.int IntKind.i64 y6 :: AV.int IntKind.i64 y7 :: Env.sp 10 []))))
def f37e9 (y0 : Int) (y1 : Nat) (y2 : Nat) (y3 : Option (Nat × Nat)) (y4 : Nat) (y5 : Option Nat) (y6 : Int) (y7 : Int) (y8 : Nat) (y9 : Int) (y10 : Int) (y11 : Bool) : Env := Env.sp 1 (AV.int IntKind.i64 y0 :: Env.sp 2 (AV.ptr (some (y1, (0 : Nat))) :: Env.sp 2 (AV.ptr (some (y2, (0 : Nat))) :: Env.sp 3 (AV.slice y3 y4 y5 (3 : Nat) :: AV.int IntKind.i64 y6 :: AV.int IntKind.i64 y7 :: Env.sp 3 (AV.ptr (some (y8, (1 : Nat))) :: AV.int IntKind.i64 y9 :: AV.int IntKind.i64 y10 :: AV.bool y11 :: Env.sp 3 [])))))
def f37e10 (y0 : Int) (y1 : Nat) (y2 : Nat) (y3 : Option (Nat × Nat)) (y4 : Nat) (y5 : Option Nat) (y6 : Int) (y7 : Int) (y8 : Bool) : Env := Env.sp 1 (AV.int IntKind.i64 y0 :: Env.sp 2 (AV.ptr (some (y1, (0 : Nat))) :: Env.sp 2 (AV.ptr (some (y2, (0 : Nat))) :: Env.sp 3 (AV.slice y3 y4 y5 (3 : Nat) :: AV.int IntKind.i64 y6 :: AV.int IntKind.i64 y7 :: Env.sp 6 (AV.bool y8 :: Env.sp 3 [])))))
def f37e11 (y0 : Int) (y1 : Nat) (y2 : Bool) (y3 : Nat) (y4 : Option (Nat × Nat)) (y5 : Nat) (y6 : Option Nat) (y7 : Int) (y8 : Int) (y9 : Bool) (y10 : Int) (y11 : Int) (y12 : ByteArray) : Env := Env.sp 1 (AV.int IntKind.i64 y0 :: Env.sp 2 (AV.ptr (some (y1, (0 : Nat))) :: AV.bool y2 :: Env.sp 1 (AV.ptr (some (y3, (0 : Nat))) :: Env.sp 3 (AV.slice y4 y5 y6 (3 : Nat) :: AV.int IntKind.i64 y7 :: AV.int IntKind.i64 y8 :: Env.sp 6 (AV.bool y9 :: AV.agg [AV.int IntKind.i64 y10, AV.int IntKind.i64 y11, AV.str y12] :: Env.sp 2 [])))))
def f37e12 (y0 : Nat) (y1 : Bool) : Env := Env.sp 4 (AV.ptr (some (y0, (0 : Nat))) :: AV.bool y1 :: Env.sp 18 [])
def f37e13 (y0 : Int) (y1 : Nat) (y2 : Option (Nat × Nat)) (y3 : Nat) (y4 : Option Nat) (y5 : Int) (y6 : Int) (y7 : Int) : Env := Env.sp 1 (AV.int IntKind.i64 y0 :: Env.sp 2 (AV.ptr (some (y1, (0 : Nat))) :: Env.sp 6 (AV.slice y2 y3 y4 (3 : Nat) :: AV.int IntKind.i64 y5 :: AV.int IntKind.i64 y6 :: Env.sp 8 (AV.int IntKind.i64 y7 :: Env.sp 1 []))))
def f37e14 (y0 : Nat) (y1 : Bool) (y2 : Int) (y3 : Int) (y4 : ByteArray) : Env := Env.sp 4 (AV.ptr (some (y0, (0 : Nat))) :: AV.bool y1 :: Env.sp 17 (AV.agg [AV.int IntKind.i64 y2, AV.int IntKind.i64 y3, AV.str y4] :: []))

/- function 37 -/
theorem f37_eq {R : Type} (call : Bool → CallF R) (dem : Bool) (N : Nat) (y0 : Option (Nat × Nat)) (y1 : Int) (σ : St) (K : AV → St → Option R) :
    bodyK Try.prog call dem N ann 37 [AV.ptr y0, AV.int IntKind.i64 y1] σ K = runK Try.prog call dem N f37c0 f37a0 (bodyC Try.prog f37rs K) (f37e0 y0 y1) σ := bodyK_of (fn := ((Try.prog.funcs[37]?).get rfl)) (by kernel_rfl) (by kernel_rfl) (by kernel_rfl) (by kernel_rfl) (by kernel_rfl) (by kernel_rfl)
theorem f37n0 {R : Type} (call : Bool → CallF R) (dem : Bool) (N : Nat) (J : KF R) (e : Env) (σ : St) : runK Try.prog call dem N f37c0 f37a0 J e σ = runK Try.prog call dem N f37c1 f37a1 (seqC (fun K e σ => runK Try.prog call dem N f37c2 f37a2 K e σ) f37a0 J) e σ := runK_seq' (by kernel_rfl) (by kernel_rfl) (by kernel_rfl)
theorem f37r1_f37e0 {R : Type} (call : Bool → CallF R) (dem : Bool) (N : Nat) (y0 : Option (Nat × Nat)) (y1 : Int) (J : KF R) (σ : St) :
    runK Try.prog call dem N f37c1 f37a1 J (f37e0 y0 y1) σ =
J Ex.normal (f37e1 y0 y1 (St.next σ) false)
  (St.new σ (Blk.cells [AV.int IntKind.i64 (0 : Int), AV.int IntKind.i64 (0 : Int), AV.str (ByteArray.mk #[])] true)) := hide (by kernel_rfl)
theorem f37z0_f37e1 (y0 : Option (Nat × Nat)) (y1 : Int) (y2 : Nat) (y3 : Bool) : Ann.clr f37a0 (f37e1 y0 y1 y2 y3) = f37e2 y0 y1 y2 := hide (by kernel_rfl)
theorem f37n2 {R : Type} (call : Bool → CallF R) (dem : Bool) (N : Nat) (J : KF R) (e : Env) (σ : St) : runK Try.prog call dem N f37c2 f37a2 J e σ = runK Try.prog call dem N f37c3 f37a3 (seqC (fun K e σ => runK Try.prog call dem N f37c4 f37a4 K e σ) f37a2 J) e σ := runK_seq' (by kernel_rfl) (by kernel_rfl) (by kernel_rfl)
theorem f37n3 {R : Type} (call : Bool → CallF R) (dem : Bool) (N : Nat) (J : KF R) (e : Env) (σ : St) : runK Try.prog call dem N f37c3 f37a3 J e σ = runK Try.prog call dem N f37c5 f37a5 (seqC (fun K e σ => runK Try.prog call dem N f37c6 f37a6 K e σ) f37a3 J) e σ := runK_seq' (by kernel_rfl) (by kernel_rfl) (by kernel_rfl)
theorem f37r5_f37e2 {R : Type} (call : Bool → CallF R) (dem : Bool) (N : Nat) (y0 : Option (Nat × Nat)) (y1 : Int) (y2 : Nat) (J : KF R) (σ : St) :
    runK Try.prog call dem N f37c5 f37a5 J (f37e2 y0 y1 y2) σ =
Option.bind y0 fun v0 =>
  Option.bind (St.ld σ (Prod.fst v0) (Prod.snd v0 + (2 : Nat))) fun v1 =>
    Option.bind (AV.toSl (3 : Nat) v1) fun v2 =>
      J Ex.normal
        (f37e3 y0 y1 y2 y0 (some v0) (some (Prod.fst v0, Prod.snd v0 + (2 : Nat))) (Sl.o v2) (Sl.len v2) (Sl.cap v2) (↑(Sl.len v2) : Int) (0 : Int)) σ := hide (by kernel_rfl)
theorem f37z3_f37e3 (y0 : Option (Nat × Nat)) (y1 : Int) (y2 : Nat) (y3 : Option (Nat × Nat)) (y4 : Option (Nat × Nat)) (y5 : Option (Nat × Nat)) (y6 : Option (Nat × Nat)) (y7 : Nat) (y8 : Option Nat) (y9 : Int) (y10 : Int) : Ann.clr f37a3 (f37e3 y0 y1 y2 y3 y4 y5 y6 y7 y8 y9 y10) = f37e4 y1 y2 y6 y7 y8 y9 y10 := hide (by kernel_rfl)
theorem f37n6 {R : Type} (call : Bool → CallF R) (dem : Bool) (N : Nat) (J : KF R) (e : Env) (σ : St) : runK Try.prog call dem N f37c6 f37a6 J e σ = runK Try.prog call dem N f37c7 f37a7 (blockC 0 f37a6 J) e σ := runK_block' (by kernel_rfl) (by kernel_rfl)
theorem f37L7_eq {R : Type} (call : Bool → CallF R) (dem : Bool) (N : Nat) (J : KF R) (e : Env) (σ : St) : f37L7 call dem N J e σ = runK Try.prog call dem N f37c8 f37a8 J e σ := hide rfl
theorem f37z7_f37e4 (y0 : Int) (y1 : Nat) (y2 : Option (Nat × Nat)) (y3 : Nat) (y4 : Option Nat) (y5 : Int) (y6 : Int) : Ann.clr f37a7 (f37e4 y0 y1 y2 y3 y4 y5 y6) = f37e4 y0 y1 y2 y3 y4 y5 y6 := hide (by kernel_rfl)
theorem f37l7_f37e4 {R : Type} (call : Bool → CallF R) (dem : Bool) (N : Nat) (y0 : Int) (y1 : Nat) (y2 : Option (Nat × Nat)) (y3 : Nat) (y4 : Option Nat) (y5 : Int) (y6 : Int) (J : KF R) (σ : St) : runK Try.prog call dem N f37c7 f37a7 J (f37e4 y0 y1 y2 y3 y4 y5 y6) σ = loopK (f37L7 call dem N) f37a7 N J (f37e4 y0 y1 y2 y3 y4 y5 y6) σ := runK_loop' (by kernel_rfl) (by kernel_rfl) (by kernel_rfl)
theorem f37n8 {R : Type} (call : Bool → CallF R) (dem : Bool) (N : Nat) (J : KF R) (e : Env) (σ : St) : runK Try.prog call dem N f37c8 f37a8 J e σ = runK Try.prog call dem N f37c9 f37a9 (seqC (fun K e σ => runK Try.prog call dem N f37c10 f37a10 K e σ) f37a8 J) e σ := runK_seq' (by kernel_rfl) (by kernel_rfl) (by kernel_rfl)
theorem f37r9_f37e4 {R : Type} (call : Bool → CallF R) (dem : Bool) (N : Nat) (y0 : Int) (y1 : Nat) (y2 : Option (Nat × Nat)) (y3 : Nat) (y4 : Option Nat) (y5 : Int) (y6 : Int) (J : KF R) (σ : St) :
    runK Try.prog call dem N f37c9 f37a9 J (f37e4 y0 y1 y2 y3 y4 y5 y6) σ =
J Ex.normal (f37e5 y0 y1 y2 y3 y4 y5 y6 (decide (y6 < y5))) σ := hide (by kernel_rfl)
theorem f37z8_f37e5 (y0 : Int) (y1 : Nat) (y2 : Option (Nat × Nat)) (y3 : Nat) (y4 : Option Nat) (y5 : Int) (y6 : Int) (y7 : Bool) : Ann.clr f37a8 (f37e5 y0 y1 y2 y3 y4 y5 y6 y7) = f37e5 y0 y1 y2 y3 y4 y5 y6 y7 := hide (by kernel_rfl)
theorem f37n10 {R : Type} (call : Bool → CallF R) (dem : Bool) (N : Nat) (J : KF R) (e : Env) (σ : St) : runK Try.prog call dem N f37c10 f37a10 J e σ = runK Try.prog call dem N f37c11 f37a11 (seqC (fun K e σ => runK Try.prog call dem N f37c12 f37a12 K e σ) f37a10 J) e σ := runK_seq' (by kernel_rfl) (by kernel_rfl) (by kernel_rfl)
theorem f37x11_f37e5 {R : Type} (call : Bool → CallF R) (dem : Bool) (N : Nat) (y0 : Int) (y1 : Nat) (y2 : Option (Nat × Nat)) (y3 : Nat) (y4 : Option Nat) (y5 : Int) (y6 : Int) (y7 : Bool) (J : KF R) (σ : St) : runK Try.prog call dem N f37c11 f37a11 J (f37e5 y0 y1 y2 y3 y4 y5 y6 y7) σ = if y7 = true then runK Try.prog call dem N f37c13 f37a13 (condC f37a11 J) (f37e5 y0 y1 y2 y3 y4 y5 y6 y7) σ else runK Try.prog call dem N f37c14 f37a14 (condC f37a11 J) (f37e5 y0 y1 y2 y3 y4 y5 y6 y7) σ := runK_cond' (o := Operand.tmp (14 : Nat)) (by kernel_rfl) (by kernel_rfl) (by kernel_rfl) (by kernel_rfl)
theorem f37n13 {R : Type} (call : Bool → CallF R) (dem : Bool) (N : Nat) (J : KF R) (e : Env) (σ : St) : runK Try.prog call dem N f37c13 f37a13 J e σ = J .normal e σ := runK_skip' (by kernel_rfl)
theorem f37z11_f37e5 (y0 : Int) (y1 : Nat) (y2 : Option (Nat × Nat)) (y3 : Nat) (y4 : Option Nat) (y5 : Int) (y6 : Int) (y7 : Bool) : Ann.clr f37a11 (f37e5 y0 y1 y2 y3 y4 y5 y6 y7) = f37e4 y0 y1 y2 y3 y4 y5 y6 := hide (by kernel_rfl)
theorem f37y14_f37e5 {R : Type} (call : Bool → CallF R) (dem : Bool) (N : Nat) (y0 : Int) (y1 : Nat) (y2 : Option (Nat × Nat)) (y3 : Nat) (y4 : Option Nat) (y5 : Int) (y6 : Int) (y7 : Bool) (J : KF R) (σ : St) : runK Try.prog call dem N f37c14 f37a14 J (f37e5 y0 y1 y2 y3 y4 y5 y6 y7) σ = J (.exit 0) (f37e6 y1) σ := runK_exit' (by kernel_rfl) (by kernel_rfl)
theorem f37z10_f37e4 (y0 : Int) (y1 : Nat) (y2 : Option (Nat × Nat)) (y3 : Nat) (y4 : Option Nat) (y5 : Int) (y6 : Int) : Ann.clr f37a10 (f37e4 y0 y1 y2 y3 y4 y5 y6) = f37e4 y0 y1 y2 y3 y4 y5 y6 := hide (by kernel_rfl)
theorem f37n12 {R : Type} (call : Bool → CallF R) (dem : Bool) (N : Nat) (J : KF R) (e : Env) (σ : St) : runK Try.prog call dem N f37c12 f37a12 J e σ = runK Try.prog call dem N f37c15 f37a15 (seqC (fun K e σ => runK Try.prog call dem N f37c16 f37a16 K e σ) f37a12 J) e σ := runK_seq' (by kernel_rfl) (by kernel_rfl) (by kernel_rfl)
theorem f37n15 {R : Type} (call : Bool → CallF R) (dem : Bool) (N : Nat) (J : KF R) (e : Env) (σ : St) : runK Try.prog call dem N f37c15 f37a15 J e σ = runK Try.prog call dem N f37c17 f37a17 (blockC 1 f37a15 J) e σ := runK_block' (by kernel_rfl) (by kernel_rfl)
theorem f37n17 {R : Type} (call : Bool → CallF R) (dem : Bool) (N : Nat) (J : KF R) (e : Env) (σ : St) : runK Try.prog call dem N f37c17 f37a17 J e σ = runK Try.prog call dem N f37c18 f37a18 (seqC (fun K e σ => runK Try.prog call dem N f37c19 f37a19 K e σ) f37a17 J) e σ := runK_seq' (by kernel_rfl) (by kernel_rfl) (by kernel_rfl)
theorem f37r18_f37e4 {R : Type} (call : Bool → CallF R) (dem : Bool) (N : Nat) (y0 : Int) (y1 : Nat) (y2 : Option (Nat × Nat)) (y3 : Nat) (y4 : Option Nat) (y5 : Int) (y6 : Int) (J : KF R) (σ : St) :
    runK Try.prog call dem N f37c18 f37a18 J (f37e4 y0 y1 y2 y3 y4 y5 y6) σ =
if (0 : Int) ≤ y6 ∧ y6 < (↑y3 : Int) then
  Option.bind y2 fun v0 =>
    Option.bind (St.ld σ (Prod.fst v0) (Prod.snd v0 + Int.toNat y6 * (3 : Nat))) fun v1 =>
      Option.bind (AV.toInt IntKind.i64 v1) fun v2 =>
        Option.bind (St.ld σ (Prod.fst v0) (Prod.snd v0 + Int.toNat y6 * (3 : Nat) + (1 : Nat))) fun v3 =>
          Option.bind (AV.toInt IntKind.i64 v3) fun v4 =>
            Option.bind (St.ld σ (Prod.fst v0) (Prod.snd v0 + Int.toNat y6 * (3 : Nat) + (2 : Nat))) fun v5 =>
              Option.bind (AV.toStr v5) fun v6 =>
                Option.bind
                  (St.st (St.new σ (Blk.cells [AV.int IntKind.i64 (0 : Int), AV.int IntKind.i64 (0 : Int), AV.str (ByteArray.mk #[])] true))
                    (St.next σ) (0 : Nat) [AV.int IntKind.i64 v2, AV.int IntKind.i64 v4, AV.str v6])
                  fun v7 =>
                  J Ex.normal (f37e7 y0 y1 (St.next σ) y2 y3 y4 y5 y6 (some (Prod.fst v0, Prod.snd v0 + Int.toNat y6 * (3 : Nat))) v2 v4 v6) v7
else none := hide (by kernel_rfl)
theorem f37z17_f37e7 (y0 : Int) (y1 : Nat) (y2 : Nat) (y3 : Option (Nat × Nat)) (y4 : Nat) (y5 : Option Nat) (y6 : Int) (y7 : Int) (y8 : Option (Nat × Nat)) (y9 : Int) (y10 : Int) (y11 : ByteArray) : Ann.clr f37a17 (f37e7 y0 y1 y2 y3 y4 y5 y6 y7 y8 y9 y10 y11) = f37e8 y0 y1 y2 y3 y4 y5 y6 y7 := hide (by kernel_rfl)
theorem f37n19 {R : Type} (call : Bool → CallF R) (dem : Bool) (N : Nat) (J : KF R) (e : Env) (σ : St) : runK Try.prog call dem N f37c19 f37a19 J e σ = runK Try.prog call dem N f37c20 f37a20 (seqC (fun K e σ => runK Try.prog call dem N f37c21 f37a21 K e σ) f37a19 J) e σ := runK_seq' (by kernel_rfl) (by kernel_rfl) (by kernel_rfl)
theorem f37r20_f37e8 {R : Type} (call : Bool → CallF R) (dem : Bool) (N : Nat) (y0 : Int) (y1 : Nat) (y2 : Nat) (y3 : Option (Nat × Nat)) (y4 : Nat) (y5 : Option Nat) (y6 : Int) (y7 : Int) (J : KF R) (σ : St) :
    runK Try.prog call dem N f37c20 f37a20 J (f37e8 y0 y1 y2 y3 y4 y5 y6 y7) σ =
Option.bind (St.ld σ y2 (1 : Nat)) fun v0 =>
  Option.bind (AV.toInt IntKind.i64 v0) fun v1 => J Ex.normal (f37e9 y0 y1 y2 y3 y4 y5 y6 y7 y2 v1 y0 (v1 == y0)) σ := hide (by kernel_rfl)
theorem f37z19_f37e9 (y0 : Int) (y1 : Nat) (y2 : Nat) (y3 : Option (Nat × Nat)) (y4 : Nat) (y5 : Option Nat) (y6 : Int) (y7 : Int) (y8 : Nat) (y9 : Int) (y10 : Int) (y11 : Bool) : Ann.clr f37a19 (f37e9 y0 y1 y2 y3 y4 y5 y6 y7 y8 y9 y10 y11) = f37e10 y0 y1 y2 y3 y4 y5 y6 y7 y11 := hide (by kernel_rfl)
theorem f37x21_f37e10 {R : Type} (call : Bool → CallF R) (dem : Bool) (N : Nat) (y0 : Int) (y1 : Nat) (y2 : Nat) (y3 : Option (Nat × Nat)) (y4 : Nat) (y5 : Option Nat) (y6 : Int) (y7 : Int) (y8 : Bool) (J : KF R) (σ : St) : runK Try.prog call dem N f37c21 f37a21 J (f37e10 y0 y1 y2 y3 y4 y5 y6 y7 y8) σ = if y8 = true then runK Try.prog call dem N f37c22 f37a22 (condC f37a21 J) (f37e10 y0 y1 y2 y3 y4 y5 y6 y7 y8) σ else runK Try.prog call dem N f37c23 f37a23 (condC f37a21 J) (f37e10 y0 y1 y2 y3 y4 y5 y6 y7 y8) σ := runK_cond' (o := Operand.tmp (20 : Nat)) (by kernel_rfl) (by kernel_rfl) (by kernel_rfl) (by kernel_rfl)
theorem f37n22 {R : Type} (call : Bool → CallF R) (dem : Bool) (N : Nat) (J : KF R) (e : Env) (σ : St) : runK Try.prog call dem N f37c22 f37a22 J e σ = runK Try.prog call dem N f37c24 f37a24 (seqC (fun K e σ => runK Try.prog call dem N f37c25 f37a25 K e σ) f37a22 J) e σ := runK_seq' (by kernel_rfl) (by kernel_rfl) (by kernel_rfl)
theorem f37r24_f37e10 {R : Type} (call : Bool → CallF R) (dem : Bool) (N : Nat) (y0 : Int) (y1 : Nat) (y2 : Nat) (y3 : Option (Nat × Nat)) (y4 : Nat) (y5 : Option Nat) (y6 : Int) (y7 : Int) (y8 : Bool) (J : KF R) (σ : St) :
    runK Try.prog call dem N f37c24 f37a24 J (f37e10 y0 y1 y2 y3 y4 y5 y6 y7 y8) σ =
Option.bind (St.ld σ y2 (0 : Nat)) fun v0 =>
  Option.bind (AV.toInt IntKind.i64 v0) fun v1 =>
    Option.bind (St.ld σ y2 (1 : Nat)) fun v2 =>
      Option.bind (AV.toInt IntKind.i64 v2) fun v3 =>
        Option.bind (St.ld σ y2 (2 : Nat)) fun v4 =>
          Option.bind (AV.toStr v4) fun v5 =>
            Option.bind (St.st σ y1 (0 : Nat) [AV.int IntKind.i64 v1, AV.int IntKind.i64 v3, AV.str v5]) fun v6 =>
              J Ex.normal (f37e11 y0 y1 true y2 y3 y4 y5 y6 y7 y8 v1 v3 v5) v6 := hide (by kernel_rfl)
theorem f37z22_f37e11 (y0 : Int) (y1 : Nat) (y2 : Bool) (y3 : Nat) (y4 : Option (Nat × Nat)) (y5 : Nat) (y6 : Option Nat) (y7 : Int) (y8 : Int) (y9 : Bool) (y10 : Int) (y11 : Int) (y12 : ByteArray) : Ann.clr f37a22 (f37e11 y0 y1 y2 y3 y4 y5 y6 y7 y8 y9 y10 y11 y12) = f37e12 y1 y2 := hide (by kernel_rfl)
theorem f37y25_f37e12 {R : Type} (call : Bool → CallF R) (dem : Bool) (N : Nat) (y0 : Nat) (y1 : Bool) (J : KF R) (σ : St) : runK Try.prog call dem N f37c25 f37a25 J (f37e12 y0 y1) σ = J .ret (f37e12 y0 y1) σ := runK_ret' (by kernel_rfl) (by kernel_rfl)
theorem f37n23 {R : Type} (call : Bool → CallF R) (dem : Bool) (N : Nat) (J : KF R) (e : Env) (σ : St) : runK Try.prog call dem N f37c23 f37a23 J e σ = J .normal e σ := runK_skip' (by kernel_rfl)
theorem f37z21_f37e10 (y0 : Int) (y1 : Nat) (y2 : Nat) (y3 : Option (Nat × Nat)) (y4 : Nat) (y5 : Option Nat) (y6 : Int) (y7 : Int) (y8 : Bool) : Ann.clr f37a21 (f37e10 y0 y1 y2 y3 y4 y5 y6 y7 y8) = f37e4 y0 y1 y3 y4 y5 y6 y7 := hide (by kernel_rfl)
theorem f37z15_f37e4 (y0 : Int) (y1 : Nat) (y2 : Option (Nat × Nat)) (y3 : Nat) (y4 : Option Nat) (y5 : Int) (y6 : Int) : Ann.clr f37a15 (f37e4 y0 y1 y2 y3 y4 y5 y6) = f37e4 y0 y1 y2 y3 y4 y5 y6 := hide (by kernel_rfl)
theorem f37z12_f37e4 (y0 : Int) (y1 : Nat) (y2 : Option (Nat × Nat)) (y3 : Nat) (y4 : Option Nat) (y5 : Int) (y6 : Int) : Ann.clr f37a12 (f37e4 y0 y1 y2 y3 y4 y5 y6) = f37e4 y0 y1 y2 y3 y4 y5 y6 := hide (by kernel_rfl)
theorem f37r16_f37e4 {R : Type} (call : Bool → CallF R) (dem : Bool) (N : Nat) (y0 : Int) (y1 : Nat) (y2 : Option (Nat × Nat)) (y3 : Nat) (y4 : Option Nat) (y5 : Int) (y6 : Int) (J : KF R) (σ : St) :
    runK Try.prog call dem N f37c16 f37a16 J (f37e4 y0 y1 y2 y3 y4 y5 y6) σ =
J Ex.normal (f37e13 y0 y1 y2 y3 y4 y5 (IntKind.wrap IntKind.i64 (y6 + (1 : Int))) (IntKind.wrap IntKind.i64 (y6 + (1 : Int)))) σ := hide (by kernel_rfl)
theorem f37z7_f37e13 (y0 : Int) (y1 : Nat) (y2 : Option (Nat × Nat)) (y3 : Nat) (y4 : Option Nat) (y5 : Int) (y6 : Int) (y7 : Int) : Ann.clr f37a7 (f37e13 y0 y1 y2 y3 y4 y5 y6 y7) = f37e4 y0 y1 y2 y3 y4 y5 y6 := hide (by kernel_rfl)
theorem f37z6_f37e6 (y0 : Nat) : Ann.clr f37a6 (f37e6 y0) = f37e6 y0 := hide (by kernel_rfl)
theorem f37z2_f37e6 (y0 : Nat) : Ann.clr f37a2 (f37e6 y0) = f37e6 y0 := hide (by kernel_rfl)
theorem f37n4 {R : Type} (call : Bool → CallF R) (dem : Bool) (N : Nat) (J : KF R) (e : Env) (σ : St) : runK Try.prog call dem N f37c4 f37a4 J e σ = runK Try.prog call dem N f37c26 f37a26 (seqC (fun K e σ => runK Try.prog call dem N f37c27 f37a27 K e σ) f37a4 J) e σ := runK_seq' (by kernel_rfl) (by kernel_rfl) (by kernel_rfl)
theorem f37r26_f37e6 {R : Type} (call : Bool → CallF R) (dem : Bool) (N : Nat) (y0 : Nat) (J : KF R) (σ : St) :
    runK Try.prog call dem N f37c26 f37a26 J (f37e6 y0) σ =
Option.bind (St.st σ y0 (0 : Nat) [AV.int IntKind.i64 (0 : Int), AV.int IntKind.i64 (0 : Int), AV.str (ByteArray.mk #[])]) fun v0 =>
  J Ex.normal (f37e14 y0 false (0 : Int) (0 : Int) (ByteArray.mk #[])) v0 := hide (by kernel_rfl)
theorem f37z4_f37e14 (y0 : Nat) (y1 : Bool) (y2 : Int) (y3 : Int) (y4 : ByteArray) : Ann.clr f37a4 (f37e14 y0 y1 y2 y3 y4) = f37e12 y0 y1 := hide (by kernel_rfl)
theorem f37y27_f37e12 {R : Type} (call : Bool → CallF R) (dem : Bool) (N : Nat) (y0 : Nat) (y1 : Bool) (J : KF R) (σ : St) : runK Try.prog call dem N f37c27 f37a27 J (f37e12 y0 y1) σ = J .ret (f37e12 y0 y1) σ := runK_ret' (by kernel_rfl) (by kernel_rfl)
theorem f37b_f37e12_r {R : Type} (y0 : Nat) (y1 : Bool) (σ : St) (K : AV → St → Option R) : bodyC Try.prog f37rs K (Ex.ret) (f37e12 y0 y1) σ =
Option.bind (St.ld σ y0 (0 : Nat)) fun v0 =>
  Option.bind (AV.toInt IntKind.i64 v0) fun v1 =>
    Option.bind (St.ld σ y0 (1 : Nat)) fun v2 =>
      Option.bind (AV.toInt IntKind.i64 v2) fun v3 =>
        Option.bind (St.ld σ y0 (2 : Nat)) fun v4 =>
          Option.bind (AV.toStr v4) fun v5 => K (AV.tuple [AV.agg [AV.int IntKind.i64 v1, AV.int IntKind.i64 v3, AV.str v5], AV.bool y1]) σ := hide (by kernel_rfl)
attribute [go_sem] f37_eq f37n0 f37r1_f37e0 f37z0_f37e1 f37n2 f37n3 f37r5_f37e2 f37z3_f37e3 f37n6 f37L7_eq f37z7_f37e4 f37l7_f37e4 f37n8 f37r9_f37e4 f37z8_f37e5 f37n10 f37x11_f37e5 f37n13 f37z11_f37e5 f37y14_f37e5 f37z10_f37e4 f37n12 f37n15 f37n17 f37r18_f37e4 f37z17_f37e7 f37n19 f37r20_f37e8 f37z19_f37e9 f37x21_f37e10 f37n22 f37r24_f37e10 f37z22_f37e11 f37y25_f37e12 f37n23 f37z21_f37e10 f37z15_f37e4 f37z12_f37e4 f37r16_f37e4 f37z7_f37e13 f37z6_f37e6 f37z2_f37e6 f37n4 f37r26_f37e6 f37z4_f37e14 f37y27_f37e12 f37b_f37e12_r

noncomputable def f38rs : List ResultVar := [ResultVar.tmp (4 : Nat)]
noncomputable def f38c0 : Code := subCode [] (bodyOf Try.prog 38)
def f38a0 : Ann := subAnn [] ann38
noncomputable def f38c1 : Code := subCode [0] (bodyOf Try.prog 38)
def f38a1 : Ann := subAnn [0] ann38
noncomputable def f38c2 : Code := subCode [1] (bodyOf Try.prog 38)
def f38a2 : Ann := subAnn [1] ann38
noncomputable def f38c3 : Code := subCode [1, 0] (bodyOf Try.prog 38)
def f38a3 : Ann := subAnn [1, 0] ann38
noncomputable def f38c4 : Code := subCode [1, 1] (bodyOf Try.prog 38)
def f38a4 : Ann := subAnn [1, 1] ann38
noncomputable def f38c5 : Code := subCode [1, 0, 0] (bodyOf Try.prog 38)
def f38a5 : Ann := subAnn [1, 0, 0] ann38
noncomputable def f38c6 : Code := subCode [1, 0, 1] (bodyOf Try.prog 38)
def f38a6 : Ann := subAnn [1, 0, 1] ann38
noncomputable def f38c7 : Code := subCode [1, 0, 1, 0] (bodyOf Try.prog 38)
def f38a7 : Ann := subAnn [1, 0, 1, 0] ann38
noncomputable def f38c8 : Code := subCode [1, 0, 1, 0, 0] (bodyOf Try.prog 38)
def f38a8 : Ann := subAnn [1, 0, 1, 0, 0] ann38
noncomputable def f38c9 : Code := subCode [1, 0, 1, 0, 0, 0] (bodyOf Try.prog 38)
def f38a9 : Ann := subAnn [1, 0, 1, 0, 0, 0] ann38
noncomputable def f38c10 : Code := subCode [1, 0, 1, 0, 0, 1] (bodyOf Try.prog 38)
def f38a10 : Ann := subAnn [1, 0, 1, 0, 0, 1] ann38
noncomputable def f38c11 : Code := subCode [1, 0, 1, 0, 0, 0, 0] (bodyOf Try.prog 38)
def f38a11 : Ann := subAnn [1, 0, 1, 0, 0, 0, 0] ann38
noncomputable def f38c12 : Code := subCode [1, 0, 1, 0, 0, 0, 1] (bodyOf Try.prog 38)
def f38a12 : Ann := subAnn [1, 0, 1, 0, 0, 0, 1] ann38
noncomputable def f38c13 : Code := subCode [1, 0, 1, 0, 0, 0, 1, 0] (bodyOf Try.prog 38)
def f38a13 : Ann := subAnn [1, 0, 1, 0, 0, 0, 1, 0] ann38
noncomputable def f38c14 : Code := subCode [1, 0, 1, 0, 0, 0, 1, 1] (bodyOf Try.prog 38)
def f38a14 : Ann := subAnn [1, 0, 1, 0, 0, 0, 1, 1] ann38
noncomputable def f38c15 : Code := subCode [1, 0, 1, 0, 0, 1, 0] (bodyOf Try.prog 38)
def f38a15 : Ann := subAnn [1, 0, 1, 0, 0, 1, 0] ann38
noncomputable def f38c16 : Code := subCode [1, 0, 1, 0, 0, 1, 1] (bodyOf Try.prog 38)
def f38a16 : Ann := subAnn [1, 0, 1, 0, 0, 1, 1] ann38
noncomputable def f38c17 : Code := subCode [1, 0, 1, 0, 0, 1, 0, 0] (bodyOf Try.prog 38)
def f38a17 : Ann := subAnn [1, 0, 1, 0, 0, 1, 0, 0] ann38
noncomputable def f38c18 : Code := subCode [1, 0, 1, 0, 0, 1, 0, 0, 0] (bodyOf Try.prog 38)
def f38a18 : Ann := subAnn [1, 0, 1, 0, 0, 1, 0, 0, 0] ann38
noncomputable def f38c19 : Code := subCode [1, 0, 1, 0, 0, 1, 0, 0, 1] (bodyOf Try.prog 38)
def f38a19 : Ann := subAnn [1, 0, 1, 0, 0, 1, 0, 0, 1] ann38
noncomputable def f38c20 : Code := subCode [1, 0, 1, 0, 0, 1, 0, 0, 1, 0] (bodyOf Try.prog 38)
def f38a20 : Ann := subAnn [1, 0, 1, 0, 0, 1, 0, 0, 1, 0] ann38
noncomputable def f38c21 : Code := subCode [1, 0, 1, 0, 0, 1, 0, 0, 1, 1] (bodyOf Try.prog 38)
def f38a21 : Ann := subAnn [1, 0, 1, 0, 0, 1, 0, 0, 1, 1] ann38
noncomputable def f38c22 : Code := subCode [1, 0, 1, 0, 0, 1, 0, 0, 1, 0, 0] (bodyOf Try.prog 38)
def f38a22 : Ann := subAnn [1, 0, 1, 0, 0, 1, 0, 0, 1, 0, 0] ann38
noncomputable def f38c23 : Code := subCode [1, 0, 1, 0, 0, 1, 0, 0, 1, 0, 1] (bodyOf Try.prog 38)
def f38a23 : Ann := subAnn [1, 0, 1, 0, 0, 1, 0, 0, 1, 0, 1] ann38
noncomputable def f38c24 : Code := subCode [1, 1, 0] (bodyOf Try.prog 38)
def f38a24 : Ann := subAnn [1, 1, 0] ann38
noncomputable def f38c25 : Code := subCode [1, 1, 1] (bodyOf Try.prog 38)
def f38a25 : Ann := subAnn [1, 1, 1] ann38
noncomputable def f38L7 {R : Type} (call : Bool → CallF R) (dem : Bool) (N : Nat) : KF R → Env → St → Option R := fun K e σ => runK Try.prog call dem N f38c8 f38a8 K e σ
def f38e0 (y0 : Option (Nat × Nat)) (y1 : Int) : Env := AV.ptr y0 :: AV.int IntKind.i64 y1 :: Env.sp 16 []
def f38e1 (y0 : Option (Nat × Nat)) (y1 : Int) (y2 : Bool) : Env := AV.ptr y0 :: AV.int IntKind.i64 y1 :: Env.sp 2 (AV.bool y2 :: Env.sp 13 [])
def f38e2 (y0 : Option (Nat × Nat)) (y1 : Int) (y2 : Int) : Env := AV.ptr y0 :: AV.int IntKind.i64 y1 :: Env.sp 3 (AV.int IntKind.i64 y2 :: Env.sp 12 [])
def f38e3 (y0 : Option (Nat × Nat)) (y1 : Int) (y2 : Int) (y3 : Int) (y4 : Bool) : Env := AV.ptr y0 :: AV.int IntKind.i64 y1 :: Env.sp 3 (AV.int IntKind.i64 y2 :: AV.int IntKind.i64 y3 :: AV.bool y4 :: Env.sp 10 [])
def f38e4 (y0 : Option (Nat × Nat)) (y1 : Int) (y2 : Int) (y3 : Bool) : Env := AV.ptr y0 :: AV.int IntKind.i64 y1 :: Env.sp 3 (AV.int IntKind.i64 y2 :: Env.sp 1 (AV.bool y3 :: Env.sp 10 []))
def f38e5 : Env := Env.sp 18 []
def f38e6 (y0 : Option (Nat × Nat)) (y1 : Int) (y2 : Int) (y3 : Int) (y4 : Option (Nat × Nat)) (y5 : Option (Nat × Nat)) (y6 : Option (Nat × Nat)) (y7 : Int) (y8 : Int) (y9 : Int) (y10 : Bool) : Env := AV.ptr y0 :: AV.int IntKind.i64 y1 :: Env.sp 3 (AV.int IntKind.i64 y2 :: Env.sp 4 (AV.int IntKind.i64 y3 :: AV.ptr y4 :: AV.ptr y5 :: AV.ptr y6 :: AV.int IntKind.i64 y7 :: AV.int IntKind.i64 y8 :: AV.int IntKind.i64 y9 :: AV.bool y10 :: []))
def f38e7 (y0 : Option (Nat × Nat)) (y1 : Int) (y2 : Int) (y3 : Bool) : Env := AV.ptr y0 :: AV.int IntKind.i64 y1 :: Env.sp 3 (AV.int IntKind.i64 y2 :: Env.sp 11 (AV.bool y3 :: []))
def f38e8 (y0 : Option (Nat × Nat)) (y1 : Int) (y2 : Bool) (y3 : Int) (y4 : Bool) : Env := AV.ptr y0 :: AV.int IntKind.i64 y1 :: Env.sp 2 (AV.bool y2 :: AV.int IntKind.i64 y3 :: Env.sp 11 (AV.bool y4 :: []))
def f38e9 (y0 : Bool) : Env := Env.sp 4 (AV.bool y0 :: Env.sp 13 [])
def f38e10 (y0 : Option (Nat × Nat)) (y1 : Int) (y2 : Int) (y3 : Int) (y4 : Int) : Env := AV.ptr y0 :: AV.int IntKind.i64 y1 :: Env.sp 3 (AV.int IntKind.i64 y2 :: Env.sp 2 (AV.int IntKind.i64 y3 :: AV.int IntKind.i64 y4 :: Env.sp 8 []))

/- function 38 -/
theorem f38_eq {R : Type} (call : Bool → CallF R) (dem : Bool) (N : Nat) (y0 : Option (Nat × Nat)) (y1 : Int) (σ : St) (K : AV → St → Option R) :
    bodyK Try.prog call dem N ann 38 [AV.ptr y0, AV.int IntKind.i64 y1] σ K = runK Try.prog call dem N f38c0 f38a0 (bodyC Try.prog f38rs K) (f38e0 y0 y1) σ := bodyK_of (fn := ((Try.prog.funcs[38]?).get rfl)) (by kernel_rfl) (by kernel_rfl) (by kernel_rfl) (by kernel_rfl) (by kernel_rfl) (by kernel_rfl)
theorem f38n0 {R : Type} (call : Bool → CallF R) (dem : Bool) (N : Nat) (J : KF R) (e : Env) (σ : St) : runK Try.prog call dem N f38c0 f38a0 J e σ = runK Try.prog call dem N f38c1 f38a1 (seqC (fun K e σ => runK Try.prog call dem N f38c2 f38a2 K e σ) f38a0 J) e σ := runK_seq' (by kernel_rfl) (by kernel_rfl) (by kernel_rfl)
theorem f38r1_f38e0 {R : Type} (call : Bool → CallF R) (dem : Bool) (N : Nat) (y0 : Option (Nat × Nat)) (y1 : Int) (J : KF R) (σ : St) :
    runK Try.prog call dem N f38c1 f38a1 J (f38e0 y0 y1) σ =
J Ex.normal (f38e1 y0 y1 false) σ := hide (by kernel_rfl)
theorem f38z0_f38e1 (y0 : Option (Nat × Nat)) (y1 : Int) (y2 : Bool) : Ann.clr f38a0 (f38e1 y0 y1 y2) = f38e0 y0 y1 := hide (by kernel_rfl)
theorem f38n2 {R : Type} (call : Bool → CallF R) (dem : Bool) (N : Nat) (J : KF R) (e : Env) (σ : St) : runK Try.prog call dem N f38c2 f38a2 J e σ = runK Try.prog call dem N f38c3 f38a3 (seqC (fun K e σ => runK Try.prog call dem N f38c4 f38a4 K e σ) f38a2 J) e σ := runK_seq' (by kernel_rfl) (by kernel_rfl) (by kernel_rfl)
theorem f38n3 {R : Type} (call : Bool → CallF R) (dem : Bool) (N : Nat) (J : KF R) (e : Env) (σ : St) : runK Try.prog call dem N f38c3 f38a3 J e σ = runK Try.prog call dem N f38c5 f38a5 (seqC (fun K e σ => runK Try.prog call dem N f38c6 f38a6 K e σ) f38a3 J) e σ := runK_seq' (by kernel_rfl) (by kernel_rfl) (by kernel_rfl)
theorem f38r5_f38e0 {R : Type} (call : Bool → CallF R) (dem : Bool) (N : Nat) (y0 : Option (Nat × Nat)) (y1 : Int) (J : KF R) (σ : St) :
    runK Try.prog call dem N f38c5 f38a5 J (f38e0 y0 y1) σ =
J Ex.normal (f38e2 y0 y1 (1 : Int)) σ := hide (by kernel_rfl)
theorem f38z3_f38e2 (y0 : Option (Nat × Nat)) (y1 : Int) (y2 : Int) : Ann.clr f38a3 (f38e2 y0 y1 y2) = f38e2 y0 y1 y2 := hide (by kernel_rfl)
theorem f38n6 {R : Type} (call : Bool → CallF R) (dem : Bool) (N : Nat) (J : KF R) (e : Env) (σ : St) : runK Try.prog call dem N f38c6 f38a6 J e σ = runK Try.prog call dem N f38c7 f38a7 (blockC 0 f38a6 J) e σ := runK_block' (by kernel_rfl) (by kernel_rfl)
theorem f38L7_eq {R : Type} (call : Bool → CallF R) (dem : Bool) (N : Nat) (J : KF R) (e : Env) (σ : St) : f38L7 call dem N J e σ = runK Try.prog call dem N f38c8 f38a8 J e σ := hide rfl
theorem f38z7_f38e2 (y0 : Option (Nat × Nat)) (y1 : Int) (y2 : Int) : Ann.clr f38a7 (f38e2 y0 y1 y2) = f38e2 y0 y1 y2 := hide (by kernel_rfl)
theorem f38l7_f38e2 {R : Type} (call : Bool → CallF R) (dem : Bool) (N : Nat) (y0 : Option (Nat × Nat)) (y1 : Int) (y2 : Int) (J : KF R) (σ : St) : runK Try.prog call dem N f38c7 f38a7 J (f38e2 y0 y1 y2) σ = loopK (f38L7 call dem N) f38a7 N J (f38e2 y0 y1 y2) σ := runK_loop' (by kernel_rfl) (by kernel_rfl) (by kernel_rfl)
theorem f38n8 {R : Type} (call : Bool → CallF R) (dem : Bool) (N : Nat) (J : KF R) (e : Env) (σ : St) : runK Try.prog call dem N f38c8 f38a8 J e σ = runK Try.prog call dem N f38c9 f38a9 (seqC (fun K e σ => runK Try.prog call dem N f38c10 f38a10 K e σ) f38a8 J) e σ := runK_seq' (by kernel_rfl) (by kernel_rfl) (by kernel_rfl)
theorem f38n9 {R : Type} (call : Bool → CallF R) (dem : Bool) (N : Nat) (J : KF R) (e : Env) (σ : St) : runK Try.prog call dem N f38c9 f38a9 J e σ = runK Try.prog call dem N f38c11 f38a11 (seqC (fun K e σ => runK Try.prog call dem N f38c12 f38a12 K e σ) f38a9 J) e σ := runK_seq' (by kernel_rfl) (by kernel_rfl) (by kernel_rfl)
theorem f38r11_f38e2 {R : Type} (call : Bool → CallF R) (dem : Bool) (N : Nat) (y0 : Option (Nat × Nat)) (y1 : Int) (y2 : Int) (J : KF R) (σ : St) :
    runK Try.prog call dem N f38c11 f38a11 J (f38e2 y0 y1 y2) σ =
J Ex.normal (f38e3 y0 y1 y2 y2 (decide (y2 ≤ (8 : Int)))) σ := hide (by kernel_rfl)
theorem f38z9_f38e3 (y0 : Option (Nat × Nat)) (y1 : Int) (y2 : Int) (y3 : Int) (y4 : Bool) : Ann.clr f38a9 (f38e3 y0 y1 y2 y3 y4) = f38e4 y0 y1 y2 y4 := hide (by kernel_rfl)
theorem f38x12_f38e4 {R : Type} (call : Bool → CallF R) (dem : Bool) (N : Nat) (y0 : Option (Nat × Nat)) (y1 : Int) (y2 : Int) (y3 : Bool) (J : KF R) (σ : St) : runK Try.prog call dem N f38c12 f38a12 J (f38e4 y0 y1 y2 y3) σ = if y3 = true then runK Try.prog call dem N f38c13 f38a13 (condC f38a12 J) (f38e4 y0 y1 y2 y3) σ else runK Try.prog call dem N f38c14 f38a14 (condC f38a12 J) (f38e4 y0 y1 y2 y3) σ := runK_cond' (o := Operand.tmp (7 : Nat)) (by kernel_rfl) (by kernel_rfl) (by kernel_rfl) (by kernel_rfl)
theorem f38n13 {R : Type} (call : Bool → CallF R) (dem : Bool) (N : Nat) (J : KF R) (e : Env) (σ : St) : runK Try.prog call dem N f38c13 f38a13 J e σ = J .normal e σ := runK_skip' (by kernel_rfl)
theorem f38z12_f38e4 (y0 : Option (Nat × Nat)) (y1 : Int) (y2 : Int) (y3 : Bool) : Ann.clr f38a12 (f38e4 y0 y1 y2 y3) = f38e2 y0 y1 y2 := hide (by kernel_rfl)
theorem f38y14_f38e4 {R : Type} (call : Bool → CallF R) (dem : Bool) (N : Nat) (y0 : Option (Nat × Nat)) (y1 : Int) (y2 : Int) (y3 : Bool) (J : KF R) (σ : St) : runK Try.prog call dem N f38c14 f38a14 J (f38e4 y0 y1 y2 y3) σ = J (.exit 0) (f38e5) σ := runK_exit' (by kernel_rfl) (by kernel_rfl)
theorem f38z8_f38e2 (y0 : Option (Nat × Nat)) (y1 : Int) (y2 : Int) : Ann.clr f38a8 (f38e2 y0 y1 y2) = f38e2 y0 y1 y2 := hide (by kernel_rfl)
theorem f38n10 {R : Type} (call : Bool → CallF R) (dem : Bool) (N : Nat) (J : KF R) (e : Env) (σ : St) : runK Try.prog call dem N f38c10 f38a10 J e σ = runK Try.prog call dem N f38c15 f38a15 (seqC (fun K e σ => runK Try.prog call dem N f38c16 f38a16 K e σ) f38a10 J) e σ := runK_seq' (by kernel_rfl) (by kernel_rfl) (by kernel_rfl)
theorem f38n15 {R : Type} (call : Bool → CallF R) (dem : Bool) (N : Nat) (J : KF R) (e : Env) (σ : St) : runK Try.prog call dem N f38c15 f38a15 J e σ = runK Try.prog call dem N f38c17 f38a17 (blockC 1 f38a15 J) e σ := runK_block' (by kernel_rfl) (by kernel_rfl)
theorem f38n17 {R : Type} (call : Bool → CallF R) (dem : Bool) (N : Nat) (J : KF R) (e : Env) (σ : St) : runK Try.prog call dem N f38c17 f38a17 J e σ = runK Try.prog call dem N f38c18 f38a18 (seqC (fun K e σ => runK Try.prog call dem N f38c19 f38a19 K e σ) f38a17 J) e σ := runK_seq' (by kernel_rfl) (by kernel_rfl) (by kernel_rfl)
theorem f38r18_f38e2 {R : Type} (call : Bool → CallF R) (dem : Bool) (N : Nat) (y0 : Option (Nat × Nat)) (y1 : Int) (y2 : Int) (J : KF R) (σ : St) :
    runK Try.prog call dem N f38c18 f38a18 J (f38e2 y0 y1 y2) σ =
Option.bind y0 fun v0 =>
  Option.bind (St.ld σ (Prod.fst v0) (Prod.snd v0)) fun v1 =>
    Option.bind (AV.toInt IntKind.i64 v1) fun v2 =>
      J Ex.normal
        (f38e6 y0 y1 y2 y1 y0 (some v0) (some (Prod.fst v0, Prod.snd v0)) v2 y2 (IntKind.wrap IntKind.i64 (v2 + y2))
          (y1 == IntKind.wrap IntKind.i64 (v2 + y2)))
        σ := hide (by kernel_rfl)
theorem f38z17_f38e6 (y0 : Option (Nat × Nat)) (y1 : Int) (y2 : Int) (y3 : Int) (y4 : Option (Nat × Nat)) (y5 : Option (Nat × Nat)) (y6 : Option (Nat × Nat)) (y7 : Int) (y8 : Int) (y9 : Int) (y10 : Bool) : Ann.clr f38a17 (f38e6 y0 y1 y2 y3 y4 y5 y6 y7 y8 y9 y10) = f38e7 y0 y1 y2 y10 := hide (by kernel_rfl)
theorem f38x19_f38e7 {R : Type} (call : Bool → CallF R) (dem : Bool) (N : Nat) (y0 : Option (Nat × Nat)) (y1 : Int) (y2 : Int) (y3 : Bool) (J : KF R) (σ : St) : runK Try.prog call dem N f38c19 f38a19 J (f38e7 y0 y1 y2 y3) σ = if y3 = true then runK Try.prog call dem N f38c20 f38a20 (condC f38a19 J) (f38e7 y0 y1 y2 y3) σ else runK Try.prog call dem N f38c21 f38a21 (condC f38a19 J) (f38e7 y0 y1 y2 y3) σ := runK_cond' (o := Operand.tmp (17 : Nat)) (by kernel_rfl) (by kernel_rfl) (by kernel_rfl) (by kernel_rfl)
theorem f38n20 {R : Type} (call : Bool → CallF R) (dem : Bool) (N : Nat) (J : KF R) (e : Env) (σ : St) : runK Try.prog call dem N f38c20 f38a20 J e σ = runK Try.prog call dem N f38c22 f38a22 (seqC (fun K e σ => runK Try.prog call dem N f38c23 f38a23 K e σ) f38a20 J) e σ := runK_seq' (by kernel_rfl) (by kernel_rfl) (by kernel_rfl)
theorem f38r22_f38e7 {R : Type} (call : Bool → CallF R) (dem : Bool) (N : Nat) (y0 : Option (Nat × Nat)) (y1 : Int) (y2 : Int) (y3 : Bool) (J : KF R) (σ : St) :
    runK Try.prog call dem N f38c22 f38a22 J (f38e7 y0 y1 y2 y3) σ =
J Ex.normal (f38e8 y0 y1 true y2 y3) σ := hide (by kernel_rfl)
theorem f38z20_f38e8 (y0 : Option (Nat × Nat)) (y1 : Int) (y2 : Bool) (y3 : Int) (y4 : Bool) : Ann.clr f38a20 (f38e8 y0 y1 y2 y3 y4) = f38e9 y2 := hide (by kernel_rfl)
theorem f38y23_f38e9 {R : Type} (call : Bool → CallF R) (dem : Bool) (N : Nat) (y0 : Bool) (J : KF R) (σ : St) : runK Try.prog call dem N f38c23 f38a23 J (f38e9 y0) σ = J .ret (f38e9 y0) σ := runK_ret' (by kernel_rfl) (by kernel_rfl)
theorem f38n21 {R : Type} (call : Bool → CallF R) (dem : Bool) (N : Nat) (J : KF R) (e : Env) (σ : St) : runK Try.prog call dem N f38c21 f38a21 J e σ = J .normal e σ := runK_skip' (by kernel_rfl)
theorem f38z19_f38e7 (y0 : Option (Nat × Nat)) (y1 : Int) (y2 : Int) (y3 : Bool) : Ann.clr f38a19 (f38e7 y0 y1 y2 y3) = f38e2 y0 y1 y2 := hide (by kernel_rfl)
theorem f38z15_f38e2 (y0 : Option (Nat × Nat)) (y1 : Int) (y2 : Int) : Ann.clr f38a15 (f38e2 y0 y1 y2) = f38e2 y0 y1 y2 := hide (by kernel_rfl)
theorem f38z10_f38e2 (y0 : Option (Nat × Nat)) (y1 : Int) (y2 : Int) : Ann.clr f38a10 (f38e2 y0 y1 y2) = f38e2 y0 y1 y2 := hide (by kernel_rfl)
theorem f38r16_f38e2 {R : Type} (call : Bool → CallF R) (dem : Bool) (N : Nat) (y0 : Option (Nat × Nat)) (y1 : Int) (y2 : Int) (J : KF R) (σ : St) :
    runK Try.prog call dem N f38c16 f38a16 J (f38e2 y0 y1 y2) σ =
J Ex.normal (f38e10 y0 y1 (IntKind.wrap IntKind.i64 (y2 + (1 : Int))) y2 (IntKind.wrap IntKind.i64 (y2 + (1 : Int)))) σ := hide (by kernel_rfl)
theorem f38z7_f38e10 (y0 : Option (Nat × Nat)) (y1 : Int) (y2 : Int) (y3 : Int) (y4 : Int) : Ann.clr f38a7 (f38e10 y0 y1 y2 y3 y4) = f38e2 y0 y1 y2 := hide (by kernel_rfl)
theorem f38z6_f38e5 : Ann.clr f38a6 (f38e5) = f38e5 := hide (by kernel_rfl)
theorem f38z2_f38e5 : Ann.clr f38a2 (f38e5) = f38e5 := hide (by kernel_rfl)
theorem f38n4 {R : Type} (call : Bool → CallF R) (dem : Bool) (N : Nat) (J : KF R) (e : Env) (σ : St) : runK Try.prog call dem N f38c4 f38a4 J e σ = runK Try.prog call dem N f38c24 f38a24 (seqC (fun K e σ => runK Try.prog call dem N f38c25 f38a25 K e σ) f38a4 J) e σ := runK_seq' (by kernel_rfl) (by kernel_rfl) (by kernel_rfl)
theorem f38r24_f38e5 {R : Type} (call : Bool → CallF R) (dem : Bool) (N : Nat) (J : KF R) (σ : St) :
    runK Try.prog call dem N f38c24 f38a24 J (f38e5) σ =
J Ex.normal (f38e9 false) σ := hide (by kernel_rfl)
theorem f38z4_f38e9 (y0 : Bool) : Ann.clr f38a4 (f38e9 y0) = f38e9 y0 := hide (by kernel_rfl)
theorem f38y25_f38e9 {R : Type} (call : Bool → CallF R) (dem : Bool) (N : Nat) (y0 : Bool) (J : KF R) (σ : St) : runK Try.prog call dem N f38c25 f38a25 J (f38e9 y0) σ = J .ret (f38e9 y0) σ := runK_ret' (by kernel_rfl) (by kernel_rfl)
theorem f38b_f38e9_r {R : Type} (y0 : Bool) (σ : St) (K : AV → St → Option R) : bodyC Try.prog f38rs K (Ex.ret) (f38e9 y0) σ =
K (AV.bool y0) σ := hide (by kernel_rfl)
attribute [go_sem] f38_eq f38n0 f38r1_f38e0 f38z0_f38e1 f38n2 f38n3 f38r5_f38e0 f38z3_f38e2 f38n6 f38L7_eq f38z7_f38e2 f38l7_f38e2 f38n8 f38n9 f38r11_f38e2 f38z9_f38e3 f38x12_f38e4 f38n13 f38z12_f38e4 f38y14_f38e4 f38z8_f38e2 f38n10 f38n15 f38n17 f38r18_f38e2 f38z17_f38e6 f38x19_f38e7 f38n20 f38r22_f38e7 f38z20_f38e8 f38y23_f38e9 f38n21 f38z19_f38e7 f38z15_f38e2 f38z10_f38e2 f38r16_f38e2 f38z7_f38e10 f38z6_f38e5 f38z2_f38e5 f38n4 f38r24_f38e5 f38z4_f38e9 f38y25_f38e9 f38b_f38e9_r

end Go.Proofs.Ytmgacgonoodkfaa
