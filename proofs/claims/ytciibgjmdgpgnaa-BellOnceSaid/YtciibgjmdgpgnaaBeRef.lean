/- What the machine does with each piece of code, in plain text. PRINTED by a program of this workplace; Lean checks it. -/
import Derived.Test.YtciibgjmdgpgnaaBeAnn
import Derived.Test.YtciibgjmdgpgnaaProg
import Derived.KernelRfl
import Derived.Attr
namespace Go.Proofs.Ytciibgjmdgpgnaa
open Go.AM
set_option maxRecDepth 100000
set_option linter.unusedVariables false
noncomputable def f15rs : List ResultVar := [ResultVar.tmp (0 : Nat)]
noncomputable def f15c0 : Code := subCode [] (bodyOf Try.prog 15)
def f15a0 : Ann := subAnn [] ann15
noncomputable def f15c1 : Code := subCode [0] (bodyOf Try.prog 15)
def f15a1 : Ann := subAnn [0] ann15
noncomputable def f15c2 : Code := subCode [1] (bodyOf Try.prog 15)
def f15a2 : Ann := subAnn [1] ann15
noncomputable def f15c3 : Code := subCode [1, 0] (bodyOf Try.prog 15)
def f15a3 : Ann := subAnn [1, 0] ann15
noncomputable def f15c4 : Code := subCode [1, 1] (bodyOf Try.prog 15)
def f15a4 : Ann := subAnn [1, 1] ann15
noncomputable def f15c5 : Code := subCode [1, 1, 0] (bodyOf Try.prog 15)
def f15a5 : Ann := subAnn [1, 1, 0] ann15
noncomputable def f15c6 : Code := subCode [1, 1, 1] (bodyOf Try.prog 15)
def f15a6 : Ann := subAnn [1, 1, 1] ann15
noncomputable def f15c7 : Code := subCode [1, 1, 0, 0] (bodyOf Try.prog 15)
def f15a7 : Ann := subAnn [1, 1, 0, 0] ann15
noncomputable def f15c8 : Code := subCode [1, 1, 0, 1] (bodyOf Try.prog 15)
def f15a8 : Ann := subAnn [1, 1, 0, 1] ann15
noncomputable def f15c9 : Code := subCode [1, 1, 0, 1, 0] (bodyOf Try.prog 15)
def f15a9 : Ann := subAnn [1, 1, 0, 1, 0] ann15
noncomputable def f15c10 : Code := subCode [1, 1, 0, 1, 0, 0] (bodyOf Try.prog 15)
def f15a10 : Ann := subAnn [1, 1, 0, 1, 0, 0] ann15
noncomputable def f15c11 : Code := subCode [1, 1, 0, 1, 0, 0, 0] (bodyOf Try.prog 15)
def f15a11 : Ann := subAnn [1, 1, 0, 1, 0, 0, 0] ann15
noncomputable def f15c12 : Code := subCode [1, 1, 0, 1, 0, 0, 1] (bodyOf Try.prog 15)
def f15a12 : Ann := subAnn [1, 1, 0, 1, 0, 0, 1] ann15
noncomputable def f15c13 : Code := subCode [1, 1, 0, 1, 0, 0, 0, 0] (bodyOf Try.prog 15)
def f15a13 : Ann := subAnn [1, 1, 0, 1, 0, 0, 0, 0] ann15
noncomputable def f15c14 : Code := subCode [1, 1, 0, 1, 0, 0, 0, 1] (bodyOf Try.prog 15)
def f15a14 : Ann := subAnn [1, 1, 0, 1, 0, 0, 0, 1] ann15
noncomputable def f15c15 : Code := subCode [1, 1, 0, 1, 0, 0, 0, 1, 0] (bodyOf Try.prog 15)
def f15a15 : Ann := subAnn [1, 1, 0, 1, 0, 0, 0, 1, 0] ann15
noncomputable def f15c16 : Code := subCode [1, 1, 0, 1, 0, 0, 0, 1, 1] (bodyOf Try.prog 15)
def f15a16 : Ann := subAnn [1, 1, 0, 1, 0, 0, 0, 1, 1] ann15
noncomputable def f15c17 : Code := subCode [1, 1, 0, 1, 0, 0, 1, 0] (bodyOf Try.prog 15)
def f15a17 : Ann := subAnn [1, 1, 0, 1, 0, 0, 1, 0] ann15
noncomputable def f15c18 : Code := subCode [1, 1, 0, 1, 0, 0, 1, 1] (bodyOf Try.prog 15)
def f15a18 : Ann := subAnn [1, 1, 0, 1, 0, 0, 1, 1] ann15
noncomputable def f15c19 : Code := subCode [1, 1, 0, 1, 0, 0, 1, 0, 0] (bodyOf Try.prog 15)
def f15a19 : Ann := subAnn [1, 1, 0, 1, 0, 0, 1, 0, 0] ann15
noncomputable def f15c20 : Code := subCode [1, 1, 1, 0] (bodyOf Try.prog 15)
def f15a20 : Ann := subAnn [1, 1, 1, 0] ann15
noncomputable def f15c21 : Code := subCode [1, 1, 1, 1] (bodyOf Try.prog 15)
def f15a21 : Ann := subAnn [1, 1, 1, 1] ann15
noncomputable def f15L9 {R : Type} (call : Bool → CallF R) (dem : Bool) (N : Nat) : KF R → Env → St → Option R := fun K e σ => runK Try.prog call dem N f15c10 f15a10 K e σ
def f15e0 : Env := Env.sp 15 []
def f15e1 (y0 : Option (Nat × Nat)) : Env := AV.ptr y0 :: Env.sp 14 []
def f15e2 (y0 : Nat) (y1 : Int) (y2 : Int) (y3 : Int) (y4 : Int) (y5 : Int) (y6 : Int) (y7 : Int) (y8 : Int) (y9 : Int) (y10 : Int) (y11 : Int) (y12 : Int) (y13 : Int) (y14 : Int) (y15 : Int) (y16 : Int) (y17 : Int) (y18 : Int) (y19 : Int) (y20 : Int) (y21 : Int) (y22 : Int) (y23 : Int) (y24 : Int) (y25 : Int) (y26 : Int) (y27 : Int) (y28 : Int) (y29 : Int) (y30 : Int) (y31 : Int) (y32 : Int) (y33 : Int) (y34 : Nat) : Env := Env.sp 1 (AV.ptr (some (y0, (0 : Nat))) :: Env.sp 1 (AV.agg
  [AV.int IntKind.i64 y1, AV.int IntKind.i64 y2, AV.int IntKind.i64 y3, AV.int IntKind.i64 y4, AV.int IntKind.i64 y5, AV.int IntKind.i64 y6,
    AV.int IntKind.i64 y7, AV.int IntKind.i64 y8, AV.int IntKind.i64 y9, AV.int IntKind.i64 y10, AV.int IntKind.i64 y11, AV.int IntKind.i64 y12,
    AV.int IntKind.i64 y13, AV.int IntKind.i64 y14, AV.int IntKind.i64 y15, AV.int IntKind.i64 y16, AV.int IntKind.i64 y17, AV.int IntKind.i64 y18,
    AV.int IntKind.i64 y19, AV.int IntKind.i64 y20, AV.int IntKind.i64 y21, AV.int IntKind.i64 y22, AV.int IntKind.i64 y23, AV.int IntKind.i64 y24,
    AV.int IntKind.i64 y25, AV.int IntKind.i64 y26, AV.int IntKind.i64 y27, AV.int IntKind.i64 y28, AV.int IntKind.i64 y29, AV.int IntKind.i64 y30,
    AV.int IntKind.i64 y31, AV.int IntKind.i64 y32, AV.int IntKind.i64 y33] :: AV.ptr (some (y34, (0 : Nat))) :: Env.sp 10 []))
def f15e3 (y0 : Nat) : Env := Env.sp 1 (AV.ptr (some (y0, (0 : Nat))) :: Env.sp 13 [])
def f15e4 (y0 : Nat) (y1 : Int) : Env := Env.sp 1 (AV.ptr (some (y0, (0 : Nat))) :: AV.int IntKind.i64 y1 :: Env.sp 12 [])
def f15e5 (y0 : Nat) (y1 : Int) (y2 : Int) (y3 : Bool) : Env := Env.sp 1 (AV.ptr (some (y0, (0 : Nat))) :: AV.int IntKind.i64 y1 :: Env.sp 2 (AV.int IntKind.i64 y2 :: AV.bool y3 :: Env.sp 8 []))
def f15e6 (y0 : Nat) (y1 : Int) (y2 : Bool) : Env := Env.sp 1 (AV.ptr (some (y0, (0 : Nat))) :: AV.int IntKind.i64 y1 :: Env.sp 3 (AV.bool y2 :: Env.sp 8 []))
def f15e7 (y0 : Nat) (y1 : Int) (y2 : Nat) (y3 : Int) (y4 : Nat) (y5 : Nat) (y6 : Option (Nat × Nat)) : Env := Env.sp 1 (AV.ptr (some (y0, (0 : Nat))) :: AV.int IntKind.i64 y1 :: Env.sp 6 (AV.ptr (some (y2, (0 : Nat))) :: AV.int IntKind.i64 y3 :: AV.ptr (some (y4, (0 : Nat))) :: AV.ptr (some (y5, (1 : Nat))) :: AV.ptr y6 :: Env.sp 1 []))
def f15e8 (y0 : Nat) (y1 : Int) (y2 : Int) (y3 : Int) : Env := Env.sp 1 (AV.ptr (some (y0, (0 : Nat))) :: AV.int IntKind.i64 y1 :: Env.sp 4 (AV.int IntKind.i64 y2 :: AV.int IntKind.i64 y3 :: Env.sp 6 []))
def f15e9 (y0 : Nat) (y1 : Nat) (y2 : Nat) : Env := AV.ptr (some (y0, (0 : Nat))) :: AV.ptr (some (y1, (0 : Nat))) :: Env.sp 12 (AV.ptr (some (y2, (0 : Nat))) :: [])
def f15e10 (y0 : Nat) : Env := AV.ptr (some (y0, (0 : Nat))) :: Env.sp 14 []

/- function 15 -/
theorem f15_eq {R : Type} (call : Bool → CallF R) (dem : Bool) (N : Nat) (σ : St) (K : AV → St → Option R) :
    bodyK Try.prog call dem N ann 15 [] σ K = runK Try.prog call dem N f15c0 f15a0 (bodyC Try.prog f15rs K) (f15e0) σ := bodyK_of (fn := ((Try.prog.funcs[15]?).get rfl)) (by kernel_rfl) (by kernel_rfl) (by kernel_rfl) (by kernel_rfl) (by kernel_rfl) (by kernel_rfl)
theorem f15n0 {R : Type} (call : Bool → CallF R) (dem : Bool) (N : Nat) (J : KF R) (e : Env) (σ : St) : runK Try.prog call dem N f15c0 f15a0 J e σ = runK Try.prog call dem N f15c1 f15a1 (seqC (fun K e σ => runK Try.prog call dem N f15c2 f15a2 K e σ) f15a0 J) e σ := runK_seq' (by kernel_rfl) (by kernel_rfl) (by kernel_rfl)
theorem f15r1_f15e0 {R : Type} (call : Bool → CallF R) (dem : Bool) (N : Nat) (J : KF R) (σ : St) :
    runK Try.prog call dem N f15c1 f15a1 J (f15e0) σ =
J Ex.normal (f15e1 none) σ := hide (by kernel_rfl)
theorem f15z0_f15e1 (y0 : Option (Nat × Nat)) : Ann.clr f15a0 (f15e1 y0) = f15e0 := hide (by kernel_rfl)
theorem f15n2 {R : Type} (call : Bool → CallF R) (dem : Bool) (N : Nat) (J : KF R) (e : Env) (σ : St) : runK Try.prog call dem N f15c2 f15a2 J e σ = runK Try.prog call dem N f15c3 f15a3 (seqC (fun K e σ => runK Try.prog call dem N f15c4 f15a4 K e σ) f15a2 J) e σ := runK_seq' (by kernel_rfl) (by kernel_rfl) (by kernel_rfl)
theorem f15r3_f15e0 {R : Type} (call : Bool → CallF R) (dem : Bool) (N : Nat) (J : KF R) (σ : St) :
    runK Try.prog call dem N f15c3 f15a3 J (f15e0) σ =
J Ex.normal
  (f15e2 (St.next σ) (0 : Int) (0 : Int) (0 : Int) (0 : Int) (0 : Int) (0 : Int) (0 : Int) (0 : Int) (0 : Int) (0 : Int) (0 : Int) (0 : Int) (0 : Int)
    (0 : Int) (0 : Int) (0 : Int) (0 : Int) (0 : Int) (0 : Int) (0 : Int) (0 : Int) (0 : Int) (0 : Int) (0 : Int) (0 : Int) (0 : Int) (0 : Int)
    (0 : Int) (0 : Int) (0 : Int) (0 : Int) (0 : Int) (0 : Int) (St.next σ))
  (St.new σ
    (Blk.cells
      [AV.int IntKind.i64 (0 : Int), AV.int IntKind.i64 (0 : Int), AV.int IntKind.i64 (0 : Int), AV.int IntKind.i64 (0 : Int),
        AV.int IntKind.i64 (0 : Int), AV.int IntKind.i64 (0 : Int), AV.int IntKind.i64 (0 : Int), AV.int IntKind.i64 (0 : Int),
        AV.int IntKind.i64 (0 : Int), AV.int IntKind.i64 (0 : Int), AV.int IntKind.i64 (0 : Int), AV.int IntKind.i64 (0 : Int),
        AV.int IntKind.i64 (0 : Int), AV.int IntKind.i64 (0 : Int), AV.int IntKind.i64 (0 : Int), AV.int IntKind.i64 (0 : Int),
        AV.int IntKind.i64 (0 : Int), AV.int IntKind.i64 (0 : Int), AV.int IntKind.i64 (0 : Int), AV.int IntKind.i64 (0 : Int),
        AV.int IntKind.i64 (0 : Int), AV.int IntKind.i64 (0 : Int), AV.int IntKind.i64 (0 : Int), AV.int IntKind.i64 (0 : Int),
        AV.int IntKind.i64 (0 : Int), AV.int IntKind.i64 (0 : Int), AV.int IntKind.i64 (0 : Int), AV.int IntKind.i64 (0 : Int),
        AV.int IntKind.i64 (0 : Int), AV.int IntKind.i64 (0 : Int), AV.int IntKind.i64 (0 : Int), AV.int IntKind.i64 (0 : Int),
        AV.int IntKind.i64 (0 : Int)]
      true)) := hide (by kernel_rfl)
theorem f15z2_f15e2 (y0 : Nat) (y1 : Int) (y2 : Int) (y3 : Int) (y4 : Int) (y5 : Int) (y6 : Int) (y7 : Int) (y8 : Int) (y9 : Int) (y10 : Int) (y11 : Int) (y12 : Int) (y13 : Int) (y14 : Int) (y15 : Int) (y16 : Int) (y17 : Int) (y18 : Int) (y19 : Int) (y20 : Int) (y21 : Int) (y22 : Int) (y23 : Int) (y24 : Int) (y25 : Int) (y26 : Int) (y27 : Int) (y28 : Int) (y29 : Int) (y30 : Int) (y31 : Int) (y32 : Int) (y33 : Int) (y34 : Nat) : Ann.clr f15a2 (f15e2 y0 y1 y2 y3 y4 y5 y6 y7 y8 y9 y10 y11 y12 y13 y14 y15 y16 y17 y18 y19 y20 y21 y22 y23 y24 y25 y26 y27 y28 y29 y30 y31 y32 y33 y34) = f15e3 y0 := hide (by kernel_rfl)
theorem f15n4 {R : Type} (call : Bool → CallF R) (dem : Bool) (N : Nat) (J : KF R) (e : Env) (σ : St) : runK Try.prog call dem N f15c4 f15a4 J e σ = runK Try.prog call dem N f15c5 f15a5 (seqC (fun K e σ => runK Try.prog call dem N f15c6 f15a6 K e σ) f15a4 J) e σ := runK_seq' (by kernel_rfl) (by kernel_rfl) (by kernel_rfl)
theorem f15n5 {R : Type} (call : Bool → CallF R) (dem : Bool) (N : Nat) (J : KF R) (e : Env) (σ : St) : runK Try.prog call dem N f15c5 f15a5 J e σ = runK Try.prog call dem N f15c7 f15a7 (seqC (fun K e σ => runK Try.prog call dem N f15c8 f15a8 K e σ) f15a5 J) e σ := runK_seq' (by kernel_rfl) (by kernel_rfl) (by kernel_rfl)
theorem f15r7_f15e3 {R : Type} (call : Bool → CallF R) (dem : Bool) (N : Nat) (y0 : Nat) (J : KF R) (σ : St) :
    runK Try.prog call dem N f15c7 f15a7 J (f15e3 y0) σ =
J Ex.normal (f15e4 y0 (0 : Int)) σ := hide (by kernel_rfl)
theorem f15z5_f15e4 (y0 : Nat) (y1 : Int) : Ann.clr f15a5 (f15e4 y0 y1) = f15e4 y0 y1 := hide (by kernel_rfl)
theorem f15n8 {R : Type} (call : Bool → CallF R) (dem : Bool) (N : Nat) (J : KF R) (e : Env) (σ : St) : runK Try.prog call dem N f15c8 f15a8 J e σ = runK Try.prog call dem N f15c9 f15a9 (blockC 0 f15a8 J) e σ := runK_block' (by kernel_rfl) (by kernel_rfl)
theorem f15L9_eq {R : Type} (call : Bool → CallF R) (dem : Bool) (N : Nat) (J : KF R) (e : Env) (σ : St) : f15L9 call dem N J e σ = runK Try.prog call dem N f15c10 f15a10 J e σ := hide rfl
theorem f15z9_f15e4 (y0 : Nat) (y1 : Int) : Ann.clr f15a9 (f15e4 y0 y1) = f15e4 y0 y1 := hide (by kernel_rfl)
theorem f15l9_f15e4 {R : Type} (call : Bool → CallF R) (dem : Bool) (N : Nat) (y0 : Nat) (y1 : Int) (J : KF R) (σ : St) : runK Try.prog call dem N f15c9 f15a9 J (f15e4 y0 y1) σ = loopK (f15L9 call dem N) f15a9 N J (f15e4 y0 y1) σ := runK_loop' (by kernel_rfl) (by kernel_rfl) (by kernel_rfl)
theorem f15n10 {R : Type} (call : Bool → CallF R) (dem : Bool) (N : Nat) (J : KF R) (e : Env) (σ : St) : runK Try.prog call dem N f15c10 f15a10 J e σ = runK Try.prog call dem N f15c11 f15a11 (seqC (fun K e σ => runK Try.prog call dem N f15c12 f15a12 K e σ) f15a10 J) e σ := runK_seq' (by kernel_rfl) (by kernel_rfl) (by kernel_rfl)
theorem f15n11 {R : Type} (call : Bool → CallF R) (dem : Bool) (N : Nat) (J : KF R) (e : Env) (σ : St) : runK Try.prog call dem N f15c11 f15a11 J e σ = runK Try.prog call dem N f15c13 f15a13 (seqC (fun K e σ => runK Try.prog call dem N f15c14 f15a14 K e σ) f15a11 J) e σ := runK_seq' (by kernel_rfl) (by kernel_rfl) (by kernel_rfl)
theorem f15r13_f15e4 {R : Type} (call : Bool → CallF R) (dem : Bool) (N : Nat) (y0 : Nat) (y1 : Int) (J : KF R) (σ : St) :
    runK Try.prog call dem N f15c13 f15a13 J (f15e4 y0 y1) σ =
J Ex.normal (f15e5 y0 y1 y1 (decide (y1 < (16 : Int)))) σ := hide (by kernel_rfl)
theorem f15z11_f15e5 (y0 : Nat) (y1 : Int) (y2 : Int) (y3 : Bool) : Ann.clr f15a11 (f15e5 y0 y1 y2 y3) = f15e6 y0 y1 y3 := hide (by kernel_rfl)
theorem f15x14_f15e6 {R : Type} (call : Bool → CallF R) (dem : Bool) (N : Nat) (y0 : Nat) (y1 : Int) (y2 : Bool) (J : KF R) (σ : St) : runK Try.prog call dem N f15c14 f15a14 J (f15e6 y0 y1 y2) σ = if y2 = true then runK Try.prog call dem N f15c15 f15a15 (condC f15a14 J) (f15e6 y0 y1 y2) σ else runK Try.prog call dem N f15c16 f15a16 (condC f15a14 J) (f15e6 y0 y1 y2) σ := runK_cond' (o := Operand.tmp (6 : Nat)) (by kernel_rfl) (by kernel_rfl) (by kernel_rfl) (by kernel_rfl)
theorem f15n15 {R : Type} (call : Bool → CallF R) (dem : Bool) (N : Nat) (J : KF R) (e : Env) (σ : St) : runK Try.prog call dem N f15c15 f15a15 J e σ = J .normal e σ := runK_skip' (by kernel_rfl)
theorem f15z14_f15e6 (y0 : Nat) (y1 : Int) (y2 : Bool) : Ann.clr f15a14 (f15e6 y0 y1 y2) = f15e4 y0 y1 := hide (by kernel_rfl)
theorem f15y16_f15e6 {R : Type} (call : Bool → CallF R) (dem : Bool) (N : Nat) (y0 : Nat) (y1 : Int) (y2 : Bool) (J : KF R) (σ : St) : runK Try.prog call dem N f15c16 f15a16 J (f15e6 y0 y1 y2) σ = J (.exit 0) (f15e3 y0) σ := runK_exit' (by kernel_rfl) (by kernel_rfl)
theorem f15z10_f15e4 (y0 : Nat) (y1 : Int) : Ann.clr f15a10 (f15e4 y0 y1) = f15e4 y0 y1 := hide (by kernel_rfl)
theorem f15n12 {R : Type} (call : Bool → CallF R) (dem : Bool) (N : Nat) (J : KF R) (e : Env) (σ : St) : runK Try.prog call dem N f15c12 f15a12 J e σ = runK Try.prog call dem N f15c17 f15a17 (seqC (fun K e σ => runK Try.prog call dem N f15c18 f15a18 K e σ) f15a12 J) e σ := runK_seq' (by kernel_rfl) (by kernel_rfl) (by kernel_rfl)
theorem f15n17 {R : Type} (call : Bool → CallF R) (dem : Bool) (N : Nat) (J : KF R) (e : Env) (σ : St) : runK Try.prog call dem N f15c17 f15a17 J e σ = runK Try.prog call dem N f15c19 f15a19 (blockC 1 f15a17 J) e σ := runK_block' (by kernel_rfl) (by kernel_rfl)
theorem f15r19_f15e4 {R : Type} (call : Bool → CallF R) (dem : Bool) (N : Nat) (y0 : Nat) (y1 : Int) (J : KF R) (σ : St) :
    runK Try.prog call dem N f15c19 f15a19 J (f15e4 y0 y1) σ =
if (0 : Nat) < (1 : Nat) ∧ (0 : Int) ≤ y1 ∧ y1 < (16 : Int) then
  Option.bind (St.st σ y0 ((1 : Nat) + Int.toNat y1 * (1 : Nat)) [AV.int IntKind.i64 (-1 : Int)]) fun v0 =>
    J Ex.normal (f15e7 y0 y1 y0 y1 y0 y0 (some (y0, (1 : Nat) + Int.toNat y1 * (1 : Nat)))) v0
else none := hide (by kernel_rfl)
theorem f15z17_f15e7 (y0 : Nat) (y1 : Int) (y2 : Nat) (y3 : Int) (y4 : Nat) (y5 : Nat) (y6 : Option (Nat × Nat)) : Ann.clr f15a17 (f15e7 y0 y1 y2 y3 y4 y5 y6) = f15e4 y0 y1 := hide (by kernel_rfl)
theorem f15z12_f15e4 (y0 : Nat) (y1 : Int) : Ann.clr f15a12 (f15e4 y0 y1) = f15e4 y0 y1 := hide (by kernel_rfl)
theorem f15r18_f15e4 {R : Type} (call : Bool → CallF R) (dem : Bool) (N : Nat) (y0 : Nat) (y1 : Int) (J : KF R) (σ : St) :
    runK Try.prog call dem N f15c18 f15a18 J (f15e4 y0 y1) σ =
J Ex.normal (f15e8 y0 (IntKind.wrap IntKind.i64 (y1 + (1 : Int))) y1 (IntKind.wrap IntKind.i64 (y1 + (1 : Int)))) σ := hide (by kernel_rfl)
theorem f15z9_f15e8 (y0 : Nat) (y1 : Int) (y2 : Int) (y3 : Int) : Ann.clr f15a9 (f15e8 y0 y1 y2 y3) = f15e4 y0 y1 := hide (by kernel_rfl)
theorem f15z8_f15e3 (y0 : Nat) : Ann.clr f15a8 (f15e3 y0) = f15e3 y0 := hide (by kernel_rfl)
theorem f15z4_f15e3 (y0 : Nat) : Ann.clr f15a4 (f15e3 y0) = f15e3 y0 := hide (by kernel_rfl)
theorem f15n6 {R : Type} (call : Bool → CallF R) (dem : Bool) (N : Nat) (J : KF R) (e : Env) (σ : St) : runK Try.prog call dem N f15c6 f15a6 J e σ = runK Try.prog call dem N f15c20 f15a20 (seqC (fun K e σ => runK Try.prog call dem N f15c21 f15a21 K e σ) f15a6 J) e σ := runK_seq' (by kernel_rfl) (by kernel_rfl) (by kernel_rfl)
theorem f15r20_f15e3 {R : Type} (call : Bool → CallF R) (dem : Bool) (N : Nat) (y0 : Nat) (J : KF R) (σ : St) :
    runK Try.prog call dem N f15c20 f15a20 J (f15e3 y0) σ =
J Ex.normal (f15e9 y0 y0 y0) σ := hide (by kernel_rfl)
theorem f15z6_f15e9 (y0 : Nat) (y1 : Nat) (y2 : Nat) : Ann.clr f15a6 (f15e9 y0 y1 y2) = f15e10 y0 := hide (by kernel_rfl)
theorem f15y21_f15e10 {R : Type} (call : Bool → CallF R) (dem : Bool) (N : Nat) (y0 : Nat) (J : KF R) (σ : St) : runK Try.prog call dem N f15c21 f15a21 J (f15e10 y0) σ = J .ret (f15e10 y0) σ := runK_ret' (by kernel_rfl) (by kernel_rfl)
theorem f15b_f15e10_r {R : Type} (y0 : Nat) (σ : St) (K : AV → St → Option R) : bodyC Try.prog f15rs K (Ex.ret) (f15e10 y0) σ =
K (AV.ptr (some (y0, (0 : Nat)))) σ := hide (by kernel_rfl)
attribute [go_sem] f15_eq f15n0 f15r1_f15e0 f15z0_f15e1 f15n2 f15r3_f15e0 f15z2_f15e2 f15n4 f15n5 f15r7_f15e3 f15z5_f15e4 f15n8 f15L9_eq f15z9_f15e4 f15l9_f15e4 f15n10 f15n11 f15r13_f15e4 f15z11_f15e5 f15x14_f15e6 f15n15 f15z14_f15e6 f15y16_f15e6 f15z10_f15e4 f15n12 f15n17 f15r19_f15e4 f15z17_f15e7 f15z12_f15e4 f15r18_f15e4 f15z9_f15e8 f15z8_f15e3 f15z4_f15e3 f15n6 f15r20_f15e3 f15z6_f15e9 f15y21_f15e10 f15b_f15e10_r

noncomputable def f18rs : List ResultVar := [ResultVar.tmp (2 : Nat)]
noncomputable def f18c0 : Code := subCode [] (bodyOf Try.prog 18)
def f18a0 : Ann := subAnn [] ann18
noncomputable def f18c1 : Code := subCode [0] (bodyOf Try.prog 18)
def f18a1 : Ann := subAnn [0] ann18
noncomputable def f18c2 : Code := subCode [1] (bodyOf Try.prog 18)
def f18a2 : Ann := subAnn [1] ann18
noncomputable def f18c3 : Code := subCode [1, 0] (bodyOf Try.prog 18)
def f18a3 : Ann := subAnn [1, 0] ann18
noncomputable def f18c4 : Code := subCode [1, 1] (bodyOf Try.prog 18)
def f18a4 : Ann := subAnn [1, 1] ann18
noncomputable def f18c5 : Code := subCode [1, 1, 0] (bodyOf Try.prog 18)
def f18a5 : Ann := subAnn [1, 1, 0] ann18
noncomputable def f18c6 : Code := subCode [1, 1, 1] (bodyOf Try.prog 18)
def f18a6 : Ann := subAnn [1, 1, 1] ann18
noncomputable def f18c7 : Code := subCode [1, 1, 0, 0] (bodyOf Try.prog 18)
def f18a7 : Ann := subAnn [1, 1, 0, 0] ann18
noncomputable def f18c8 : Code := subCode [1, 1, 0, 1] (bodyOf Try.prog 18)
def f18a8 : Ann := subAnn [1, 1, 0, 1] ann18
noncomputable def f18c9 : Code := subCode [1, 1, 0, 1, 0] (bodyOf Try.prog 18)
def f18a9 : Ann := subAnn [1, 1, 0, 1, 0] ann18
noncomputable def f18c10 : Code := subCode [1, 1, 0, 1, 0, 0] (bodyOf Try.prog 18)
def f18a10 : Ann := subAnn [1, 1, 0, 1, 0, 0] ann18
noncomputable def f18c11 : Code := subCode [1, 1, 0, 1, 0, 0, 0] (bodyOf Try.prog 18)
def f18a11 : Ann := subAnn [1, 1, 0, 1, 0, 0, 0] ann18
noncomputable def f18c12 : Code := subCode [1, 1, 0, 1, 0, 0, 1] (bodyOf Try.prog 18)
def f18a12 : Ann := subAnn [1, 1, 0, 1, 0, 0, 1] ann18
noncomputable def f18c13 : Code := subCode [1, 1, 0, 1, 0, 0, 0, 0] (bodyOf Try.prog 18)
def f18a13 : Ann := subAnn [1, 1, 0, 1, 0, 0, 0, 0] ann18
noncomputable def f18c14 : Code := subCode [1, 1, 0, 1, 0, 0, 0, 1] (bodyOf Try.prog 18)
def f18a14 : Ann := subAnn [1, 1, 0, 1, 0, 0, 0, 1] ann18
noncomputable def f18c15 : Code := subCode [1, 1, 0, 1, 0, 0, 0, 1, 0] (bodyOf Try.prog 18)
def f18a15 : Ann := subAnn [1, 1, 0, 1, 0, 0, 0, 1, 0] ann18
noncomputable def f18c16 : Code := subCode [1, 1, 0, 1, 0, 0, 0, 1, 1] (bodyOf Try.prog 18)
def f18a16 : Ann := subAnn [1, 1, 0, 1, 0, 0, 0, 1, 1] ann18
noncomputable def f18c17 : Code := subCode [1, 1, 0, 1, 0, 0, 1, 0] (bodyOf Try.prog 18)
def f18a17 : Ann := subAnn [1, 1, 0, 1, 0, 0, 1, 0] ann18
noncomputable def f18c18 : Code := subCode [1, 1, 0, 1, 0, 0, 1, 1] (bodyOf Try.prog 18)
def f18a18 : Ann := subAnn [1, 1, 0, 1, 0, 0, 1, 1] ann18
noncomputable def f18c19 : Code := subCode [1, 1, 0, 1, 0, 0, 1, 0, 0] (bodyOf Try.prog 18)
def f18a19 : Ann := subAnn [1, 1, 0, 1, 0, 0, 1, 0, 0] ann18
noncomputable def f18c20 : Code := subCode [1, 1, 0, 1, 0, 0, 1, 0, 0, 0] (bodyOf Try.prog 18)
def f18a20 : Ann := subAnn [1, 1, 0, 1, 0, 0, 1, 0, 0, 0] ann18
noncomputable def f18c21 : Code := subCode [1, 1, 0, 1, 0, 0, 1, 0, 0, 1] (bodyOf Try.prog 18)
def f18a21 : Ann := subAnn [1, 1, 0, 1, 0, 0, 1, 0, 0, 1] ann18
noncomputable def f18c22 : Code := subCode [1, 1, 0, 1, 0, 0, 1, 0, 0, 1, 0] (bodyOf Try.prog 18)
def f18a22 : Ann := subAnn [1, 1, 0, 1, 0, 0, 1, 0, 0, 1, 0] ann18
noncomputable def f18c23 : Code := subCode [1, 1, 0, 1, 0, 0, 1, 0, 0, 1, 1] (bodyOf Try.prog 18)
def f18a23 : Ann := subAnn [1, 1, 0, 1, 0, 0, 1, 0, 0, 1, 1] ann18
noncomputable def f18c24 : Code := subCode [1, 1, 1, 0] (bodyOf Try.prog 18)
def f18a24 : Ann := subAnn [1, 1, 1, 0] ann18
noncomputable def f18c25 : Code := subCode [1, 1, 1, 1] (bodyOf Try.prog 18)
def f18a25 : Ann := subAnn [1, 1, 1, 1] ann18
noncomputable def f18L9 {R : Type} (call : Bool → CallF R) (dem : Bool) (N : Nat) : KF R → Env → St → Option R := fun K e σ => runK Try.prog call dem N f18c10 f18a10 K e σ
def f18e0 (y0 : Option (Nat × Nat)) : Env := AV.ptr y0 :: Env.sp 36 []
def f18e1 (y0 : Option (Nat × Nat)) (y1 : Int) : Env := AV.ptr y0 :: Env.sp 1 (AV.int IntKind.i64 y1 :: Env.sp 34 [])
def f18e2 (y0 : Option (Nat × Nat)) (y1 : Int) : Env := AV.ptr y0 :: Env.sp 2 (AV.int IntKind.i64 y1 :: Env.sp 33 [])
def f18e3 (y0 : Option (Nat × Nat)) (y1 : Int) (y2 : Int) : Env := AV.ptr y0 :: Env.sp 2 (AV.int IntKind.i64 y1 :: AV.int IntKind.i64 y2 :: Env.sp 32 [])
def f18e4 (y0 : Option (Nat × Nat)) (y1 : Int) (y2 : Int) (y3 : Int) (y4 : Bool) : Env := AV.ptr y0 :: Env.sp 2 (AV.int IntKind.i64 y1 :: AV.int IntKind.i64 y2 :: AV.int IntKind.i64 y3 :: AV.bool y4 :: Env.sp 30 [])
def f18e5 (y0 : Option (Nat × Nat)) (y1 : Int) (y2 : Int) (y3 : Bool) : Env := AV.ptr y0 :: Env.sp 2 (AV.int IntKind.i64 y1 :: AV.int IntKind.i64 y2 :: Env.sp 1 (AV.bool y3 :: Env.sp 30 []))
def f18e6 (y0 : Int) : Env := Env.sp 3 (AV.int IntKind.i64 y0 :: Env.sp 33 [])
def f18e7 (y0 : Option (Nat × Nat)) (y1 : Int) (y2 : Int) (y3 : Option (Nat × Nat)) (y4 : Int) (y5 : Option (Nat × Nat)) (y6 : Option (Nat × Nat)) (y7 : Option (Nat × Nat)) (y8 : Int) (y9 : Bool) (y10 : Bool) (y11 : Int) (y12 : Bool) (y13 : Bool) (y14 : Bool) (y15 : Bool) : Env := AV.ptr y0 :: Env.sp 2 (AV.int IntKind.i64 y1 :: AV.int IntKind.i64 y2 :: Env.sp 4 (AV.ptr y3 :: AV.int IntKind.i64 y4 :: AV.ptr y5 :: AV.ptr y6 :: AV.ptr y7 :: AV.int IntKind.i64 y8 :: AV.bool y9 :: AV.bool y10 :: AV.int IntKind.i64 y11 :: AV.bool y12 :: AV.bool y13 :: AV.tuple [] :: AV.tuple [] :: AV.tuple [] :: AV.tuple [] :: AV.tuple [] :: AV.tuple [] :: AV.tuple [] :: AV.tuple [] :: AV.bool y14 :: AV.bool y15 :: Env.sp 7 []))
def f18e8 (y0 : Option (Nat × Nat)) (y1 : Int) (y2 : Int) (y3 : Option (Nat × Nat)) (y4 : Int) (y5 : Option (Nat × Nat)) (y6 : Option (Nat × Nat)) (y7 : Option (Nat × Nat)) (y8 : Int) (y9 : Bool) (y10 : Bool) (y11 : Int) (y12 : Bool) (y13 : Bool) (y14 : Option (Nat × Nat)) (y15 : Int) (y16 : Option (Nat × Nat)) (y17 : Option (Nat × Nat)) (y18 : Option (Nat × Nat)) (y19 : Int) (y20 : Int) (y21 : Bool) (y22 : Bool) (y23 : Bool) : Env := AV.ptr y0 :: Env.sp 2 (AV.int IntKind.i64 y1 :: AV.int IntKind.i64 y2 :: Env.sp 4 (AV.ptr y3 :: AV.int IntKind.i64 y4 :: AV.ptr y5 :: AV.ptr y6 :: AV.ptr y7 :: AV.int IntKind.i64 y8 :: AV.bool y9 :: AV.bool y10 :: AV.int IntKind.i64 y11 :: AV.bool y12 :: AV.bool y13 :: AV.ptr y14 :: AV.int IntKind.i64 y15 :: AV.ptr y16 :: AV.ptr y17 :: AV.ptr y18 :: AV.int IntKind.i64 y19 :: AV.int IntKind.i64 y20 :: AV.bool y21 :: AV.bool y22 :: AV.bool y23 :: Env.sp 7 []))
def f18e9 (y0 : Option (Nat × Nat)) (y1 : Int) (y2 : Int) (y3 : Option (Nat × Nat)) (y4 : Int) (y5 : Option (Nat × Nat)) (y6 : Option (Nat × Nat)) (y7 : Option (Nat × Nat)) (y8 : Int) (y9 : Bool) (y10 : Bool) (y11 : Bool) : Env := AV.ptr y0 :: Env.sp 2 (AV.int IntKind.i64 y1 :: AV.int IntKind.i64 y2 :: Env.sp 4 (AV.ptr y3 :: AV.int IntKind.i64 y4 :: AV.ptr y5 :: AV.ptr y6 :: AV.ptr y7 :: AV.int IntKind.i64 y8 :: AV.bool y9 :: AV.bool y10 :: AV.tuple [] :: AV.tuple [] :: AV.tuple [] :: AV.tuple [] :: AV.tuple [] :: AV.tuple [] :: AV.tuple [] :: AV.tuple [] :: AV.tuple [] :: AV.tuple [] :: AV.tuple [] :: AV.tuple [] :: AV.bool y11 :: Env.sp 7 []))
def f18e10 (y0 : Option (Nat × Nat)) (y1 : Int) (y2 : Int) (y3 : Bool) : Env := AV.ptr y0 :: Env.sp 2 (AV.int IntKind.i64 y1 :: AV.int IntKind.i64 y2 :: Env.sp 24 (AV.bool y3 :: Env.sp 7 []))
def f18e11 (y0 : Option (Nat × Nat)) (y1 : Int) (y2 : Int) (y3 : Bool) (y4 : Option (Nat × Nat)) (y5 : Int) (y6 : Option (Nat × Nat)) (y7 : Option (Nat × Nat)) (y8 : Option (Nat × Nat)) (y9 : Int) : Env := AV.ptr y0 :: Env.sp 2 (AV.int IntKind.i64 y1 :: AV.int IntKind.i64 y2 :: Env.sp 24 (AV.bool y3 :: AV.ptr y4 :: AV.int IntKind.i64 y5 :: AV.ptr y6 :: AV.ptr y7 :: AV.ptr y8 :: AV.int IntKind.i64 y9 :: Env.sp 1 []))
def f18e12 (y0 : Option (Nat × Nat)) (y1 : Int) (y2 : Int) (y3 : Int) (y4 : Int) : Env := AV.ptr y0 :: Env.sp 2 (AV.int IntKind.i64 y1 :: AV.int IntKind.i64 y2 :: Env.sp 2 (AV.int IntKind.i64 y3 :: AV.int IntKind.i64 y4 :: Env.sp 28 []))
def f18e13 (y0 : Int) (y1 : Int) (y2 : Int) : Env := Env.sp 2 (AV.int IntKind.i64 y0 :: AV.int IntKind.i64 y1 :: Env.sp 32 (AV.int IntKind.i64 y2 :: []))
def f18e14 (y0 : Int) : Env := Env.sp 2 (AV.int IntKind.i64 y0 :: Env.sp 34 [])

/- function 18 -/
theorem f18_eq {R : Type} (call : Bool → CallF R) (dem : Bool) (N : Nat) (y0 : Option (Nat × Nat)) (σ : St) (K : AV → St → Option R) :
    bodyK Try.prog call dem N ann 18 [AV.ptr y0] σ K = runK Try.prog call dem N f18c0 f18a0 (bodyC Try.prog f18rs K) (f18e0 y0) σ := bodyK_of (fn := ((Try.prog.funcs[18]?).get rfl)) (by kernel_rfl) (by kernel_rfl) (by kernel_rfl) (by kernel_rfl) (by kernel_rfl) (by kernel_rfl)
theorem f18n0 {R : Type} (call : Bool → CallF R) (dem : Bool) (N : Nat) (J : KF R) (e : Env) (σ : St) : runK Try.prog call dem N f18c0 f18a0 J e σ = runK Try.prog call dem N f18c1 f18a1 (seqC (fun K e σ => runK Try.prog call dem N f18c2 f18a2 K e σ) f18a0 J) e σ := runK_seq' (by kernel_rfl) (by kernel_rfl) (by kernel_rfl)
theorem f18r1_f18e0 {R : Type} (call : Bool → CallF R) (dem : Bool) (N : Nat) (y0 : Option (Nat × Nat)) (J : KF R) (σ : St) :
    runK Try.prog call dem N f18c1 f18a1 J (f18e0 y0) σ =
J Ex.normal (f18e1 y0 (0 : Int)) σ := hide (by kernel_rfl)
theorem f18z0_f18e1 (y0 : Option (Nat × Nat)) (y1 : Int) : Ann.clr f18a0 (f18e1 y0 y1) = f18e0 y0 := hide (by kernel_rfl)
theorem f18n2 {R : Type} (call : Bool → CallF R) (dem : Bool) (N : Nat) (J : KF R) (e : Env) (σ : St) : runK Try.prog call dem N f18c2 f18a2 J e σ = runK Try.prog call dem N f18c3 f18a3 (seqC (fun K e σ => runK Try.prog call dem N f18c4 f18a4 K e σ) f18a2 J) e σ := runK_seq' (by kernel_rfl) (by kernel_rfl) (by kernel_rfl)
theorem f18r3_f18e0 {R : Type} (call : Bool → CallF R) (dem : Bool) (N : Nat) (y0 : Option (Nat × Nat)) (J : KF R) (σ : St) :
    runK Try.prog call dem N f18c3 f18a3 J (f18e0 y0) σ =
J Ex.normal (f18e2 y0 (-1 : Int)) σ := hide (by kernel_rfl)
theorem f18z2_f18e2 (y0 : Option (Nat × Nat)) (y1 : Int) : Ann.clr f18a2 (f18e2 y0 y1) = f18e2 y0 y1 := hide (by kernel_rfl)
theorem f18n4 {R : Type} (call : Bool → CallF R) (dem : Bool) (N : Nat) (J : KF R) (e : Env) (σ : St) : runK Try.prog call dem N f18c4 f18a4 J e σ = runK Try.prog call dem N f18c5 f18a5 (seqC (fun K e σ => runK Try.prog call dem N f18c6 f18a6 K e σ) f18a4 J) e σ := runK_seq' (by kernel_rfl) (by kernel_rfl) (by kernel_rfl)
theorem f18n5 {R : Type} (call : Bool → CallF R) (dem : Bool) (N : Nat) (J : KF R) (e : Env) (σ : St) : runK Try.prog call dem N f18c5 f18a5 J e σ = runK Try.prog call dem N f18c7 f18a7 (seqC (fun K e σ => runK Try.prog call dem N f18c8 f18a8 K e σ) f18a5 J) e σ := runK_seq' (by kernel_rfl) (by kernel_rfl) (by kernel_rfl)
theorem f18r7_f18e2 {R : Type} (call : Bool → CallF R) (dem : Bool) (N : Nat) (y0 : Option (Nat × Nat)) (y1 : Int) (J : KF R) (σ : St) :
    runK Try.prog call dem N f18c7 f18a7 J (f18e2 y0 y1) σ =
J Ex.normal (f18e3 y0 y1 (0 : Int)) σ := hide (by kernel_rfl)
theorem f18z5_f18e3 (y0 : Option (Nat × Nat)) (y1 : Int) (y2 : Int) : Ann.clr f18a5 (f18e3 y0 y1 y2) = f18e3 y0 y1 y2 := hide (by kernel_rfl)
theorem f18n8 {R : Type} (call : Bool → CallF R) (dem : Bool) (N : Nat) (J : KF R) (e : Env) (σ : St) : runK Try.prog call dem N f18c8 f18a8 J e σ = runK Try.prog call dem N f18c9 f18a9 (blockC 0 f18a8 J) e σ := runK_block' (by kernel_rfl) (by kernel_rfl)
theorem f18L9_eq {R : Type} (call : Bool → CallF R) (dem : Bool) (N : Nat) (J : KF R) (e : Env) (σ : St) : f18L9 call dem N J e σ = runK Try.prog call dem N f18c10 f18a10 J e σ := hide rfl
theorem f18z9_f18e3 (y0 : Option (Nat × Nat)) (y1 : Int) (y2 : Int) : Ann.clr f18a9 (f18e3 y0 y1 y2) = f18e3 y0 y1 y2 := hide (by kernel_rfl)
theorem f18l9_f18e3 {R : Type} (call : Bool → CallF R) (dem : Bool) (N : Nat) (y0 : Option (Nat × Nat)) (y1 : Int) (y2 : Int) (J : KF R) (σ : St) : runK Try.prog call dem N f18c9 f18a9 J (f18e3 y0 y1 y2) σ = loopK (f18L9 call dem N) f18a9 N J (f18e3 y0 y1 y2) σ := runK_loop' (by kernel_rfl) (by kernel_rfl) (by kernel_rfl)
theorem f18n10 {R : Type} (call : Bool → CallF R) (dem : Bool) (N : Nat) (J : KF R) (e : Env) (σ : St) : runK Try.prog call dem N f18c10 f18a10 J e σ = runK Try.prog call dem N f18c11 f18a11 (seqC (fun K e σ => runK Try.prog call dem N f18c12 f18a12 K e σ) f18a10 J) e σ := runK_seq' (by kernel_rfl) (by kernel_rfl) (by kernel_rfl)
theorem f18n11 {R : Type} (call : Bool → CallF R) (dem : Bool) (N : Nat) (J : KF R) (e : Env) (σ : St) : runK Try.prog call dem N f18c11 f18a11 J e σ = runK Try.prog call dem N f18c13 f18a13 (seqC (fun K e σ => runK Try.prog call dem N f18c14 f18a14 K e σ) f18a11 J) e σ := runK_seq' (by kernel_rfl) (by kernel_rfl) (by kernel_rfl)
theorem f18r13_f18e3 {R : Type} (call : Bool → CallF R) (dem : Bool) (N : Nat) (y0 : Option (Nat × Nat)) (y1 : Int) (y2 : Int) (J : KF R) (σ : St) :
    runK Try.prog call dem N f18c13 f18a13 J (f18e3 y0 y1 y2) σ =
J Ex.normal (f18e4 y0 y1 y2 y2 (decide (y2 < (16 : Int)))) σ := hide (by kernel_rfl)
theorem f18z11_f18e4 (y0 : Option (Nat × Nat)) (y1 : Int) (y2 : Int) (y3 : Int) (y4 : Bool) : Ann.clr f18a11 (f18e4 y0 y1 y2 y3 y4) = f18e5 y0 y1 y2 y4 := hide (by kernel_rfl)
theorem f18x14_f18e5 {R : Type} (call : Bool → CallF R) (dem : Bool) (N : Nat) (y0 : Option (Nat × Nat)) (y1 : Int) (y2 : Int) (y3 : Bool) (J : KF R) (σ : St) : runK Try.prog call dem N f18c14 f18a14 J (f18e5 y0 y1 y2 y3) σ = if y3 = true then runK Try.prog call dem N f18c15 f18a15 (condC f18a14 J) (f18e5 y0 y1 y2 y3) σ else runK Try.prog call dem N f18c16 f18a16 (condC f18a14 J) (f18e5 y0 y1 y2 y3) σ := runK_cond' (o := Operand.tmp (6 : Nat)) (by kernel_rfl) (by kernel_rfl) (by kernel_rfl) (by kernel_rfl)
theorem f18n15 {R : Type} (call : Bool → CallF R) (dem : Bool) (N : Nat) (J : KF R) (e : Env) (σ : St) : runK Try.prog call dem N f18c15 f18a15 J e σ = J .normal e σ := runK_skip' (by kernel_rfl)
theorem f18z14_f18e5 (y0 : Option (Nat × Nat)) (y1 : Int) (y2 : Int) (y3 : Bool) : Ann.clr f18a14 (f18e5 y0 y1 y2 y3) = f18e3 y0 y1 y2 := hide (by kernel_rfl)
theorem f18y16_f18e5 {R : Type} (call : Bool → CallF R) (dem : Bool) (N : Nat) (y0 : Option (Nat × Nat)) (y1 : Int) (y2 : Int) (y3 : Bool) (J : KF R) (σ : St) : runK Try.prog call dem N f18c16 f18a16 J (f18e5 y0 y1 y2 y3) σ = J (.exit 0) (f18e6 y1) σ := runK_exit' (by kernel_rfl) (by kernel_rfl)
theorem f18z10_f18e3 (y0 : Option (Nat × Nat)) (y1 : Int) (y2 : Int) : Ann.clr f18a10 (f18e3 y0 y1 y2) = f18e3 y0 y1 y2 := hide (by kernel_rfl)
theorem f18n12 {R : Type} (call : Bool → CallF R) (dem : Bool) (N : Nat) (J : KF R) (e : Env) (σ : St) : runK Try.prog call dem N f18c12 f18a12 J e σ = runK Try.prog call dem N f18c17 f18a17 (seqC (fun K e σ => runK Try.prog call dem N f18c18 f18a18 K e σ) f18a12 J) e σ := runK_seq' (by kernel_rfl) (by kernel_rfl) (by kernel_rfl)
theorem f18n17 {R : Type} (call : Bool → CallF R) (dem : Bool) (N : Nat) (J : KF R) (e : Env) (σ : St) : runK Try.prog call dem N f18c17 f18a17 J e σ = runK Try.prog call dem N f18c19 f18a19 (blockC 1 f18a17 J) e σ := runK_block' (by kernel_rfl) (by kernel_rfl)
theorem f18n19 {R : Type} (call : Bool → CallF R) (dem : Bool) (N : Nat) (J : KF R) (e : Env) (σ : St) : runK Try.prog call dem N f18c19 f18a19 J e σ = runK Try.prog call dem N f18c20 f18a20 (seqC (fun K e σ => runK Try.prog call dem N f18c21 f18a21 K e σ) f18a19 J) e σ := runK_seq' (by kernel_rfl) (by kernel_rfl) (by kernel_rfl)
theorem f18r20_f18e3 {R : Type} (call : Bool → CallF R) (dem : Bool) (N : Nat) (y0 : Option (Nat × Nat)) (y1 : Int) (y2 : Int) (J : KF R) (σ : St) :
    runK Try.prog call dem N f18c20 f18a20 J (f18e3 y0 y1 y2) σ =
Option.bind y0 fun v0 =>
  if (0 : Nat) < (1 : Nat) ∧ (0 : Int) ≤ y2 ∧ y2 < (16 : Int) then
    Option.bind (St.ld σ (Prod.fst v0) (Prod.snd v0 + (1 : Nat) + Int.toNat y2 * (1 : Nat))) fun v1 =>
      Option.bind (AV.toInt IntKind.i64 v1) fun v2 =>
        if decide (v2 ≥ (0 : Int)) = true then
          if decide (y1 < (0 : Int)) = true then
            J Ex.normal
              (f18e7 y0 y1 y2 y0 y2 (some v0) (some (Prod.fst v0, Prod.snd v0 + (1 : Nat)))
                (some (Prod.fst v0, Prod.snd v0 + (1 : Nat) + Int.toNat y2 * (1 : Nat))) v2 (decide (v2 ≥ (0 : Int))) true y1
                (decide (y1 < (0 : Int))) true true true)
              σ
          else
            Option.bind y0 fun v3 =>
              if (0 : Nat) < (1 : Nat) ∧ (0 : Int) ≤ y2 ∧ y2 < (16 : Int) then
                Option.bind (St.ld σ (Prod.fst v3) (Prod.snd v3 + (1 : Nat) + Int.toNat y2 * (1 : Nat))) fun v4 =>
                  Option.bind (AV.toInt IntKind.i64 v4) fun v5 =>
                    J Ex.normal
                      (f18e8 y0 y1 y2 y0 y2 (some v0) (some (Prod.fst v0, Prod.snd v0 + (1 : Nat)))
                        (some (Prod.fst v0, Prod.snd v0 + (1 : Nat) + Int.toNat y2 * (1 : Nat))) v2 (decide (v2 ≥ (0 : Int))) true y1
                        (decide (y1 < (0 : Int))) false y0 y2 (some v3) (some (Prod.fst v3, Prod.snd v3 + (1 : Nat)))
                        (some (Prod.fst v3, Prod.snd v3 + (1 : Nat) + Int.toNat y2 * (1 : Nat))) v5 y1 (decide (v5 < y1)) (decide (v5 < y1))
                        (decide (v5 < y1)))
                      σ
              else none
        else
          J Ex.normal
            (f18e9 y0 y1 y2 y0 y2 (some v0) (some (Prod.fst v0, Prod.snd v0 + (1 : Nat)))
              (some (Prod.fst v0, Prod.snd v0 + (1 : Nat) + Int.toNat y2 * (1 : Nat))) v2 (decide (v2 ≥ (0 : Int))) false false)
            σ
  else none := hide (by kernel_rfl)
theorem f18z19_f18e7 (y0 : Option (Nat × Nat)) (y1 : Int) (y2 : Int) (y3 : Option (Nat × Nat)) (y4 : Int) (y5 : Option (Nat × Nat)) (y6 : Option (Nat × Nat)) (y7 : Option (Nat × Nat)) (y8 : Int) (y9 : Bool) (y10 : Bool) (y11 : Int) (y12 : Bool) (y13 : Bool) (y14 : Bool) (y15 : Bool) : Ann.clr f18a19 (f18e7 y0 y1 y2 y3 y4 y5 y6 y7 y8 y9 y10 y11 y12 y13 y14 y15) = f18e10 y0 y1 y2 y15 := hide (by kernel_rfl)
theorem f18x21_f18e10 {R : Type} (call : Bool → CallF R) (dem : Bool) (N : Nat) (y0 : Option (Nat × Nat)) (y1 : Int) (y2 : Int) (y3 : Bool) (J : KF R) (σ : St) : runK Try.prog call dem N f18c21 f18a21 J (f18e10 y0 y1 y2 y3) σ = if y3 = true then runK Try.prog call dem N f18c22 f18a22 (condC f18a21 J) (f18e10 y0 y1 y2 y3) σ else runK Try.prog call dem N f18c23 f18a23 (condC f18a21 J) (f18e10 y0 y1 y2 y3) σ := runK_cond' (o := Operand.tmp (29 : Nat)) (by kernel_rfl) (by kernel_rfl) (by kernel_rfl) (by kernel_rfl)
theorem f18r22_f18e10 {R : Type} (call : Bool → CallF R) (dem : Bool) (N : Nat) (y0 : Option (Nat × Nat)) (y1 : Int) (y2 : Int) (y3 : Bool) (J : KF R) (σ : St) :
    runK Try.prog call dem N f18c22 f18a22 J (f18e10 y0 y1 y2 y3) σ =
Option.bind y0 fun v0 =>
  if (0 : Nat) < (1 : Nat) ∧ (0 : Int) ≤ y2 ∧ y2 < (16 : Int) then
    Option.bind (St.ld σ (Prod.fst v0) (Prod.snd v0 + (1 : Nat) + Int.toNat y2 * (1 : Nat))) fun v1 =>
      Option.bind (AV.toInt IntKind.i64 v1) fun v2 =>
        J Ex.normal
          (f18e11 y0 v2 y2 y3 y0 y2 (some v0) (some (Prod.fst v0, Prod.snd v0 + (1 : Nat)))
            (some (Prod.fst v0, Prod.snd v0 + (1 : Nat) + Int.toNat y2 * (1 : Nat))) v2)
          σ
  else none := hide (by kernel_rfl)
theorem f18z21_f18e11 (y0 : Option (Nat × Nat)) (y1 : Int) (y2 : Int) (y3 : Bool) (y4 : Option (Nat × Nat)) (y5 : Int) (y6 : Option (Nat × Nat)) (y7 : Option (Nat × Nat)) (y8 : Option (Nat × Nat)) (y9 : Int) : Ann.clr f18a21 (f18e11 y0 y1 y2 y3 y4 y5 y6 y7 y8 y9) = f18e3 y0 y1 y2 := hide (by kernel_rfl)
theorem f18n23 {R : Type} (call : Bool → CallF R) (dem : Bool) (N : Nat) (J : KF R) (e : Env) (σ : St) : runK Try.prog call dem N f18c23 f18a23 J e σ = J .normal e σ := runK_skip' (by kernel_rfl)
theorem f18z21_f18e10 (y0 : Option (Nat × Nat)) (y1 : Int) (y2 : Int) (y3 : Bool) : Ann.clr f18a21 (f18e10 y0 y1 y2 y3) = f18e3 y0 y1 y2 := hide (by kernel_rfl)
theorem f18z19_f18e8 (y0 : Option (Nat × Nat)) (y1 : Int) (y2 : Int) (y3 : Option (Nat × Nat)) (y4 : Int) (y5 : Option (Nat × Nat)) (y6 : Option (Nat × Nat)) (y7 : Option (Nat × Nat)) (y8 : Int) (y9 : Bool) (y10 : Bool) (y11 : Int) (y12 : Bool) (y13 : Bool) (y14 : Option (Nat × Nat)) (y15 : Int) (y16 : Option (Nat × Nat)) (y17 : Option (Nat × Nat)) (y18 : Option (Nat × Nat)) (y19 : Int) (y20 : Int) (y21 : Bool) (y22 : Bool) (y23 : Bool) : Ann.clr f18a19 (f18e8 y0 y1 y2 y3 y4 y5 y6 y7 y8 y9 y10 y11 y12 y13 y14 y15 y16 y17 y18 y19 y20 y21 y22 y23) = f18e10 y0 y1 y2 y23 := hide (by kernel_rfl)
theorem f18z19_f18e9 (y0 : Option (Nat × Nat)) (y1 : Int) (y2 : Int) (y3 : Option (Nat × Nat)) (y4 : Int) (y5 : Option (Nat × Nat)) (y6 : Option (Nat × Nat)) (y7 : Option (Nat × Nat)) (y8 : Int) (y9 : Bool) (y10 : Bool) (y11 : Bool) : Ann.clr f18a19 (f18e9 y0 y1 y2 y3 y4 y5 y6 y7 y8 y9 y10 y11) = f18e10 y0 y1 y2 y11 := hide (by kernel_rfl)
theorem f18z17_f18e3 (y0 : Option (Nat × Nat)) (y1 : Int) (y2 : Int) : Ann.clr f18a17 (f18e3 y0 y1 y2) = f18e3 y0 y1 y2 := hide (by kernel_rfl)
theorem f18z12_f18e3 (y0 : Option (Nat × Nat)) (y1 : Int) (y2 : Int) : Ann.clr f18a12 (f18e3 y0 y1 y2) = f18e3 y0 y1 y2 := hide (by kernel_rfl)
theorem f18r18_f18e3 {R : Type} (call : Bool → CallF R) (dem : Bool) (N : Nat) (y0 : Option (Nat × Nat)) (y1 : Int) (y2 : Int) (J : KF R) (σ : St) :
    runK Try.prog call dem N f18c18 f18a18 J (f18e3 y0 y1 y2) σ =
J Ex.normal (f18e12 y0 y1 (IntKind.wrap IntKind.i64 (y2 + (1 : Int))) y2 (IntKind.wrap IntKind.i64 (y2 + (1 : Int)))) σ := hide (by kernel_rfl)
theorem f18z9_f18e12 (y0 : Option (Nat × Nat)) (y1 : Int) (y2 : Int) (y3 : Int) (y4 : Int) : Ann.clr f18a9 (f18e12 y0 y1 y2 y3 y4) = f18e3 y0 y1 y2 := hide (by kernel_rfl)
theorem f18z8_f18e6 (y0 : Int) : Ann.clr f18a8 (f18e6 y0) = f18e6 y0 := hide (by kernel_rfl)
theorem f18z4_f18e6 (y0 : Int) : Ann.clr f18a4 (f18e6 y0) = f18e6 y0 := hide (by kernel_rfl)
theorem f18n6 {R : Type} (call : Bool → CallF R) (dem : Bool) (N : Nat) (J : KF R) (e : Env) (σ : St) : runK Try.prog call dem N f18c6 f18a6 J e σ = runK Try.prog call dem N f18c24 f18a24 (seqC (fun K e σ => runK Try.prog call dem N f18c25 f18a25 K e σ) f18a6 J) e σ := runK_seq' (by kernel_rfl) (by kernel_rfl) (by kernel_rfl)
theorem f18r24_f18e6 {R : Type} (call : Bool → CallF R) (dem : Bool) (N : Nat) (y0 : Int) (J : KF R) (σ : St) :
    runK Try.prog call dem N f18c24 f18a24 J (f18e6 y0) σ =
J Ex.normal (f18e13 y0 y0 y0) σ := hide (by kernel_rfl)
theorem f18z6_f18e13 (y0 : Int) (y1 : Int) (y2 : Int) : Ann.clr f18a6 (f18e13 y0 y1 y2) = f18e14 y0 := hide (by kernel_rfl)
theorem f18y25_f18e14 {R : Type} (call : Bool → CallF R) (dem : Bool) (N : Nat) (y0 : Int) (J : KF R) (σ : St) : runK Try.prog call dem N f18c25 f18a25 J (f18e14 y0) σ = J .ret (f18e14 y0) σ := runK_ret' (by kernel_rfl) (by kernel_rfl)
theorem f18b_f18e14_r {R : Type} (y0 : Int) (σ : St) (K : AV → St → Option R) : bodyC Try.prog f18rs K (Ex.ret) (f18e14 y0) σ =
K (AV.int IntKind.i64 y0) σ := hide (by kernel_rfl)
attribute [go_sem] f18_eq f18n0 f18r1_f18e0 f18z0_f18e1 f18n2 f18r3_f18e0 f18z2_f18e2 f18n4 f18n5 f18r7_f18e2 f18z5_f18e3 f18n8 f18L9_eq f18z9_f18e3 f18l9_f18e3 f18n10 f18n11 f18r13_f18e3 f18z11_f18e4 f18x14_f18e5 f18n15 f18z14_f18e5 f18y16_f18e5 f18z10_f18e3 f18n12 f18n17 f18n19 f18r20_f18e3 f18z19_f18e7 f18x21_f18e10 f18r22_f18e10 f18z21_f18e11 f18n23 f18z21_f18e10 f18z19_f18e8 f18z19_f18e9 f18z17_f18e3 f18z12_f18e3 f18r18_f18e3 f18z9_f18e12 f18z8_f18e6 f18z4_f18e6 f18n6 f18r24_f18e6 f18z6_f18e13 f18y25_f18e14 f18b_f18e14_r

noncomputable def f25rs : List ResultVar := [ResultVar.tmp (6 : Nat)]
noncomputable def f25c0 : Code := subCode [] (bodyOf Try.prog 25)
def f25a0 : Ann := subAnn [] ann25
noncomputable def f25c1 : Code := subCode [0] (bodyOf Try.prog 25)
def f25a1 : Ann := subAnn [0] ann25
noncomputable def f25c2 : Code := subCode [1] (bodyOf Try.prog 25)
def f25a2 : Ann := subAnn [1] ann25
noncomputable def f25c3 : Code := subCode [1, 0] (bodyOf Try.prog 25)
def f25a3 : Ann := subAnn [1, 0] ann25
noncomputable def f25c4 : Code := subCode [1, 1] (bodyOf Try.prog 25)
def f25a4 : Ann := subAnn [1, 1] ann25
noncomputable def f25c5 : Code := subCode [1, 0, 0] (bodyOf Try.prog 25)
def f25a5 : Ann := subAnn [1, 0, 0] ann25
noncomputable def f25c6 : Code := subCode [1, 0, 1] (bodyOf Try.prog 25)
def f25a6 : Ann := subAnn [1, 0, 1] ann25
noncomputable def f25c7 : Code := subCode [1, 0, 1, 0] (bodyOf Try.prog 25)
def f25a7 : Ann := subAnn [1, 0, 1, 0] ann25
noncomputable def f25c8 : Code := subCode [1, 0, 1, 1] (bodyOf Try.prog 25)
def f25a8 : Ann := subAnn [1, 0, 1, 1] ann25
noncomputable def f25c9 : Code := subCode [1, 0, 1, 0, 0] (bodyOf Try.prog 25)
def f25a9 : Ann := subAnn [1, 0, 1, 0, 0] ann25
noncomputable def f25c10 : Code := subCode [1, 0, 1, 0, 1] (bodyOf Try.prog 25)
def f25a10 : Ann := subAnn [1, 0, 1, 0, 1] ann25
noncomputable def f25c11 : Code := subCode [1, 1, 0] (bodyOf Try.prog 25)
def f25a11 : Ann := subAnn [1, 1, 0] ann25
noncomputable def f25c12 : Code := subCode [1, 1, 1] (bodyOf Try.prog 25)
def f25a12 : Ann := subAnn [1, 1, 1] ann25
noncomputable def f25c13 : Code := subCode [1, 1, 1, 0] (bodyOf Try.prog 25)
def f25a13 : Ann := subAnn [1, 1, 1, 0] ann25
noncomputable def f25c14 : Code := subCode [1, 1, 1, 1] (bodyOf Try.prog 25)
def f25a14 : Ann := subAnn [1, 1, 1, 1] ann25
noncomputable def f25c15 : Code := subCode [1, 1, 1, 1, 0] (bodyOf Try.prog 25)
def f25a15 : Ann := subAnn [1, 1, 1, 1, 0] ann25
noncomputable def f25c16 : Code := subCode [1, 1, 1, 1, 1] (bodyOf Try.prog 25)
def f25a16 : Ann := subAnn [1, 1, 1, 1, 1] ann25
def f25e0 (y0 : Option (Nat × Nat)) (y1 : Int) (y2 : Int) : Env := AV.ptr y0 :: AV.int IntKind.i64 y1 :: AV.int IntKind.i64 y2 :: Env.sp 32 []
def f25e1 (y0 : Option (Nat × Nat)) (y1 : Int) (y2 : Int) (y3 : Int) : Env := AV.ptr y0 :: AV.int IntKind.i64 y1 :: AV.int IntKind.i64 y2 :: Env.sp 3 (AV.int IntKind.i64 y3 :: Env.sp 28 [])
def f25e2 (y0 : Option (Nat × Nat)) (y1 : Int) (y2 : Int) (y3 : Int) (y4 : Bool) (y5 : Bool) (y6 : Bool) (y7 : Bool) (y8 : Bool) (y9 : Bool) : Env := AV.ptr y0 :: AV.int IntKind.i64 y1 :: AV.int IntKind.i64 y2 :: Env.sp 4 (AV.int IntKind.i64 y3 :: AV.bool y4 :: AV.bool y5 :: AV.bool y6 :: AV.tuple [] :: AV.tuple [] :: AV.bool y7 :: AV.bool y8 :: AV.tuple [] :: AV.tuple [] :: AV.bool y9 :: Env.sp 17 [])
def f25e3 (y0 : Option (Nat × Nat)) (y1 : Int) (y2 : Int) (y3 : Int) (y4 : Bool) (y5 : Bool) (y6 : Bool) (y7 : Int) (y8 : Bool) (y9 : Bool) (y10 : Bool) (y11 : Bool) : Env := AV.ptr y0 :: AV.int IntKind.i64 y1 :: AV.int IntKind.i64 y2 :: Env.sp 4 (AV.int IntKind.i64 y3 :: AV.bool y4 :: AV.bool y5 :: AV.bool y6 :: AV.int IntKind.i64 y7 :: AV.bool y8 :: AV.bool y9 :: AV.bool y10 :: AV.tuple [] :: AV.tuple [] :: AV.bool y11 :: Env.sp 17 [])
def f25e4 (y0 : Option (Nat × Nat)) (y1 : Int) (y2 : Int) (y3 : Int) (y4 : Bool) (y5 : Bool) (y6 : Bool) (y7 : Int) (y8 : Bool) (y9 : Bool) (y10 : Bool) (y11 : Int) (y12 : Bool) (y13 : Bool) : Env := AV.ptr y0 :: AV.int IntKind.i64 y1 :: AV.int IntKind.i64 y2 :: Env.sp 4 (AV.int IntKind.i64 y3 :: AV.bool y4 :: AV.bool y5 :: AV.bool y6 :: AV.int IntKind.i64 y7 :: AV.bool y8 :: AV.bool y9 :: AV.bool y10 :: AV.int IntKind.i64 y11 :: AV.bool y12 :: AV.bool y13 :: Env.sp 17 [])
def f25e5 (y0 : Option (Nat × Nat)) (y1 : Int) (y2 : Int) (y3 : Bool) : Env := AV.ptr y0 :: AV.int IntKind.i64 y1 :: AV.int IntKind.i64 y2 :: Env.sp 14 (AV.bool y3 :: Env.sp 17 [])
def f25e6 (y0 : Option (Nat × Nat)) (y1 : Int) (y2 : Int) (y3 : Int) (y4 : Bool) : Env := AV.ptr y0 :: AV.int IntKind.i64 y1 :: AV.int IntKind.i64 y2 :: Env.sp 3 (AV.int IntKind.i64 y3 :: Env.sp 10 (AV.bool y4 :: Env.sp 17 []))
def f25e7 (y0 : Int) : Env := Env.sp 6 (AV.int IntKind.i64 y0 :: Env.sp 28 [])
def f25e8 (y0 : Option (Nat × Nat)) (y1 : Int) (y2 : Int) (y3 : Option (Nat × Nat)) (y4 : Int) (y5 : Option (Nat × Nat)) (y6 : Option (Nat × Nat)) (y7 : Option (Nat × Nat)) (y8 : Int) (y9 : Int) (y10 : Int) (y11 : Option (Nat × Nat)) (y12 : Option (Nat × Nat)) (y13 : Option (Nat × Nat)) : Env := AV.ptr y0 :: AV.int IntKind.i64 y1 :: AV.int IntKind.i64 y2 :: Env.sp 15 (AV.ptr y3 :: AV.int IntKind.i64 y4 :: AV.ptr y5 :: AV.ptr y6 :: AV.ptr y7 :: AV.int IntKind.i64 y8 :: AV.int IntKind.i64 y9 :: AV.int IntKind.i64 y10 :: AV.ptr y11 :: AV.ptr y12 :: AV.ptr y13 :: Env.sp 6 [])
def f25e9 (y0 : Option (Nat × Nat)) (y1 : Int) (y2 : Int) (y3 : Option (Nat × Nat)) (y4 : Int) (y5 : Int) (y6 : Option (Nat × Nat)) (y7 : Option (Nat × Nat)) (y8 : Option (Nat × Nat)) : Env := AV.ptr y0 :: AV.int IntKind.i64 y1 :: AV.int IntKind.i64 y2 :: Env.sp 26 (AV.ptr y3 :: AV.int IntKind.i64 y4 :: AV.int IntKind.i64 y5 :: AV.ptr y6 :: AV.ptr y7 :: AV.ptr y8 :: [])
def f25e10 : Env := Env.sp 35 []

/- function 25 -/
theorem f25_eq {R : Type} (call : Bool → CallF R) (dem : Bool) (N : Nat) (y0 : Option (Nat × Nat)) (y1 : Int) (y2 : Int) (σ : St) (K : AV → St → Option R) :
    bodyK Try.prog call dem N ann 25 [AV.ptr y0, AV.int IntKind.i64 y1, AV.int IntKind.i64 y2] σ K = runK Try.prog call dem N f25c0 f25a0 (bodyC Try.prog f25rs K) (f25e0 y0 y1 y2) σ := bodyK_of (fn := ((Try.prog.funcs[25]?).get rfl)) (by kernel_rfl) (by kernel_rfl) (by kernel_rfl) (by kernel_rfl) (by kernel_rfl) (by kernel_rfl)
theorem f25n0 {R : Type} (call : Bool → CallF R) (dem : Bool) (N : Nat) (J : KF R) (e : Env) (σ : St) : runK Try.prog call dem N f25c0 f25a0 J e σ = runK Try.prog call dem N f25c1 f25a1 (seqC (fun K e σ => runK Try.prog call dem N f25c2 f25a2 K e σ) f25a0 J) e σ := runK_seq' (by kernel_rfl) (by kernel_rfl) (by kernel_rfl)
theorem f25r1_f25e0 {R : Type} (call : Bool → CallF R) (dem : Bool) (N : Nat) (y0 : Option (Nat × Nat)) (y1 : Int) (y2 : Int) (J : KF R) (σ : St) :
    runK Try.prog call dem N f25c1 f25a1 J (f25e0 y0 y1 y2) σ =
J Ex.normal (f25e1 y0 y1 y2 (0 : Int)) σ := hide (by kernel_rfl)
theorem f25z0_f25e1 (y0 : Option (Nat × Nat)) (y1 : Int) (y2 : Int) (y3 : Int) : Ann.clr f25a0 (f25e1 y0 y1 y2 y3) = f25e0 y0 y1 y2 := hide (by kernel_rfl)
theorem f25n2 {R : Type} (call : Bool → CallF R) (dem : Bool) (N : Nat) (J : KF R) (e : Env) (σ : St) : runK Try.prog call dem N f25c2 f25a2 J e σ = runK Try.prog call dem N f25c3 f25a3 (seqC (fun K e σ => runK Try.prog call dem N f25c4 f25a4 K e σ) f25a2 J) e σ := runK_seq' (by kernel_rfl) (by kernel_rfl) (by kernel_rfl)
theorem f25n3 {R : Type} (call : Bool → CallF R) (dem : Bool) (N : Nat) (J : KF R) (e : Env) (σ : St) : runK Try.prog call dem N f25c3 f25a3 J e σ = runK Try.prog call dem N f25c5 f25a5 (seqC (fun K e σ => runK Try.prog call dem N f25c6 f25a6 K e σ) f25a3 J) e σ := runK_seq' (by kernel_rfl) (by kernel_rfl) (by kernel_rfl)
theorem f25r5_f25e0 {R : Type} (call : Bool → CallF R) (dem : Bool) (N : Nat) (y0 : Option (Nat × Nat)) (y1 : Int) (y2 : Int) (J : KF R) (σ : St) :
    runK Try.prog call dem N f25c5 f25a5 J (f25e0 y0 y1 y2) σ =
call dem (31 : Nat) [AV.int IntKind.i64 y1] σ fun v0 v1 =>
  Option.bind (AV.toBool v0) fun v2 =>
    if (!v2) = true then J Ex.normal (f25e2 y0 y1 y2 y1 v2 (!v2) true true true true) v1
    else
      if decide (y2 < (1 : Int)) = true then
        J Ex.normal (f25e3 y0 y1 y2 y1 v2 (!v2) false y2 (decide (y2 < (1 : Int))) (decide (y2 < (1 : Int))) true true) v1
      else
        J Ex.normal
          (f25e4 y0 y1 y2 y1 v2 (!v2) false y2 (decide (y2 < (1 : Int))) (decide (y2 < (1 : Int))) false y2 (decide (y2 > (4096 : Int)))
            (decide (y2 > (4096 : Int))))
          v1 := hide (by kernel_rfl)
theorem f25z3_f25e2 (y0 : Option (Nat × Nat)) (y1 : Int) (y2 : Int) (y3 : Int) (y4 : Bool) (y5 : Bool) (y6 : Bool) (y7 : Bool) (y8 : Bool) (y9 : Bool) : Ann.clr f25a3 (f25e2 y0 y1 y2 y3 y4 y5 y6 y7 y8 y9) = f25e5 y0 y1 y2 y9 := hide (by kernel_rfl)
theorem f25x6_f25e5 {R : Type} (call : Bool → CallF R) (dem : Bool) (N : Nat) (y0 : Option (Nat × Nat)) (y1 : Int) (y2 : Int) (y3 : Bool) (J : KF R) (σ : St) : runK Try.prog call dem N f25c6 f25a6 J (f25e5 y0 y1 y2 y3) σ = if y3 = true then runK Try.prog call dem N f25c7 f25a7 (condC f25a6 J) (f25e5 y0 y1 y2 y3) σ else runK Try.prog call dem N f25c8 f25a8 (condC f25a6 J) (f25e5 y0 y1 y2 y3) σ := runK_cond' (o := Operand.tmp (17 : Nat)) (by kernel_rfl) (by kernel_rfl) (by kernel_rfl) (by kernel_rfl)
theorem f25n7 {R : Type} (call : Bool → CallF R) (dem : Bool) (N : Nat) (J : KF R) (e : Env) (σ : St) : runK Try.prog call dem N f25c7 f25a7 J e σ = runK Try.prog call dem N f25c9 f25a9 (seqC (fun K e σ => runK Try.prog call dem N f25c10 f25a10 K e σ) f25a7 J) e σ := runK_seq' (by kernel_rfl) (by kernel_rfl) (by kernel_rfl)
theorem f25r9_f25e5 {R : Type} (call : Bool → CallF R) (dem : Bool) (N : Nat) (y0 : Option (Nat × Nat)) (y1 : Int) (y2 : Int) (y3 : Bool) (J : KF R) (σ : St) :
    runK Try.prog call dem N f25c9 f25a9 J (f25e5 y0 y1 y2 y3) σ =
J Ex.normal (f25e6 y0 y1 y2 (1 : Int) y3) σ := hide (by kernel_rfl)
theorem f25z7_f25e6 (y0 : Option (Nat × Nat)) (y1 : Int) (y2 : Int) (y3 : Int) (y4 : Bool) : Ann.clr f25a7 (f25e6 y0 y1 y2 y3 y4) = f25e7 y3 := hide (by kernel_rfl)
theorem f25y10_f25e7 {R : Type} (call : Bool → CallF R) (dem : Bool) (N : Nat) (y0 : Int) (J : KF R) (σ : St) : runK Try.prog call dem N f25c10 f25a10 J (f25e7 y0) σ = J .ret (f25e7 y0) σ := runK_ret' (by kernel_rfl) (by kernel_rfl)
theorem f25n8 {R : Type} (call : Bool → CallF R) (dem : Bool) (N : Nat) (J : KF R) (e : Env) (σ : St) : runK Try.prog call dem N f25c8 f25a8 J e σ = J .normal e σ := runK_skip' (by kernel_rfl)
theorem f25z6_f25e5 (y0 : Option (Nat × Nat)) (y1 : Int) (y2 : Int) (y3 : Bool) : Ann.clr f25a6 (f25e5 y0 y1 y2 y3) = f25e0 y0 y1 y2 := hide (by kernel_rfl)
theorem f25z3_f25e3 (y0 : Option (Nat × Nat)) (y1 : Int) (y2 : Int) (y3 : Int) (y4 : Bool) (y5 : Bool) (y6 : Bool) (y7 : Int) (y8 : Bool) (y9 : Bool) (y10 : Bool) (y11 : Bool) : Ann.clr f25a3 (f25e3 y0 y1 y2 y3 y4 y5 y6 y7 y8 y9 y10 y11) = f25e5 y0 y1 y2 y11 := hide (by kernel_rfl)
theorem f25z3_f25e4 (y0 : Option (Nat × Nat)) (y1 : Int) (y2 : Int) (y3 : Int) (y4 : Bool) (y5 : Bool) (y6 : Bool) (y7 : Int) (y8 : Bool) (y9 : Bool) (y10 : Bool) (y11 : Int) (y12 : Bool) (y13 : Bool) : Ann.clr f25a3 (f25e4 y0 y1 y2 y3 y4 y5 y6 y7 y8 y9 y10 y11 y12 y13) = f25e5 y0 y1 y2 y13 := hide (by kernel_rfl)
theorem f25z2_f25e0 (y0 : Option (Nat × Nat)) (y1 : Int) (y2 : Int) : Ann.clr f25a2 (f25e0 y0 y1 y2) = f25e0 y0 y1 y2 := hide (by kernel_rfl)
theorem f25n4 {R : Type} (call : Bool → CallF R) (dem : Bool) (N : Nat) (J : KF R) (e : Env) (σ : St) : runK Try.prog call dem N f25c4 f25a4 J e σ = runK Try.prog call dem N f25c11 f25a11 (seqC (fun K e σ => runK Try.prog call dem N f25c12 f25a12 K e σ) f25a4 J) e σ := runK_seq' (by kernel_rfl) (by kernel_rfl) (by kernel_rfl)
theorem f25r11_f25e0 {R : Type} (call : Bool → CallF R) (dem : Bool) (N : Nat) (y0 : Option (Nat × Nat)) (y1 : Int) (y2 : Int) (J : KF R) (σ : St) :
    runK Try.prog call dem N f25c11 f25a11 J (f25e0 y0 y1 y2) σ =
Option.bind y0 fun v0 =>
  Option.bind (St.ld σ (Prod.fst v0) (Prod.snd v0)) fun v1 =>
    Option.bind (AV.toInt IntKind.i64 v1) fun v2 =>
      Option.bind y0 fun v3 =>
        if (0 : Nat) < (1 : Nat) ∧ (0 : Int) ≤ y1 ∧ y1 < (16 : Int) then
          Option.bind
            (St.st σ (Prod.fst v3) (Prod.snd v3 + (1 : Nat) + Int.toNat y1 * (1 : Nat)) [AV.int IntKind.i64 (IntKind.wrap IntKind.i64 (v2 + y2))])
            fun v4 =>
            J Ex.normal
              (f25e8 y0 y1 y2 y0 y1 y0 (some v0) (some (Prod.fst v0, Prod.snd v0)) v2 y2 (IntKind.wrap IntKind.i64 (v2 + y2)) (some v3)
                (some (Prod.fst v3, Prod.snd v3 + (1 : Nat))) (some (Prod.fst v3, Prod.snd v3 + (1 : Nat) + Int.toNat y1 * (1 : Nat))))
              v4
        else none := hide (by kernel_rfl)
theorem f25z4_f25e8 (y0 : Option (Nat × Nat)) (y1 : Int) (y2 : Int) (y3 : Option (Nat × Nat)) (y4 : Int) (y5 : Option (Nat × Nat)) (y6 : Option (Nat × Nat)) (y7 : Option (Nat × Nat)) (y8 : Int) (y9 : Int) (y10 : Int) (y11 : Option (Nat × Nat)) (y12 : Option (Nat × Nat)) (y13 : Option (Nat × Nat)) : Ann.clr f25a4 (f25e8 y0 y1 y2 y3 y4 y5 y6 y7 y8 y9 y10 y11 y12 y13) = f25e0 y0 y1 y2 := hide (by kernel_rfl)
theorem f25n12 {R : Type} (call : Bool → CallF R) (dem : Bool) (N : Nat) (J : KF R) (e : Env) (σ : St) : runK Try.prog call dem N f25c12 f25a12 J e σ = runK Try.prog call dem N f25c13 f25a13 (seqC (fun K e σ => runK Try.prog call dem N f25c14 f25a14 K e σ) f25a12 J) e σ := runK_seq' (by kernel_rfl) (by kernel_rfl) (by kernel_rfl)
theorem f25r13_f25e0 {R : Type} (call : Bool → CallF R) (dem : Bool) (N : Nat) (y0 : Option (Nat × Nat)) (y1 : Int) (y2 : Int) (J : KF R) (σ : St) :
    runK Try.prog call dem N f25c13 f25a13 J (f25e0 y0 y1 y2) σ =
Option.bind y0 fun v0 =>
  if (0 : Nat) < (1 : Nat) ∧ (0 : Int) ≤ y1 ∧ y1 < (16 : Int) then
    Option.bind (St.st σ (Prod.fst v0) (Prod.snd v0 + (17 : Nat) + Int.toNat y1 * (1 : Nat)) [AV.int IntKind.i64 y2]) fun v1 =>
      J Ex.normal
        (f25e9 y0 y1 y2 y0 y1 y2 (some v0) (some (Prod.fst v0, Prod.snd v0 + (17 : Nat)))
          (some (Prod.fst v0, Prod.snd v0 + (17 : Nat) + Int.toNat y1 * (1 : Nat))))
        v1
  else none := hide (by kernel_rfl)
theorem f25z12_f25e9 (y0 : Option (Nat × Nat)) (y1 : Int) (y2 : Int) (y3 : Option (Nat × Nat)) (y4 : Int) (y5 : Int) (y6 : Option (Nat × Nat)) (y7 : Option (Nat × Nat)) (y8 : Option (Nat × Nat)) : Ann.clr f25a12 (f25e9 y0 y1 y2 y3 y4 y5 y6 y7 y8) = f25e10 := hide (by kernel_rfl)
theorem f25n14 {R : Type} (call : Bool → CallF R) (dem : Bool) (N : Nat) (J : KF R) (e : Env) (σ : St) : runK Try.prog call dem N f25c14 f25a14 J e σ = runK Try.prog call dem N f25c15 f25a15 (seqC (fun K e σ => runK Try.prog call dem N f25c16 f25a16 K e σ) f25a14 J) e σ := runK_seq' (by kernel_rfl) (by kernel_rfl) (by kernel_rfl)
theorem f25r15_f25e10 {R : Type} (call : Bool → CallF R) (dem : Bool) (N : Nat) (J : KF R) (σ : St) :
    runK Try.prog call dem N f25c15 f25a15 J (f25e10) σ =
J Ex.normal (f25e7 (0 : Int)) σ := hide (by kernel_rfl)
theorem f25z14_f25e7 (y0 : Int) : Ann.clr f25a14 (f25e7 y0) = f25e7 y0 := hide (by kernel_rfl)
theorem f25y16_f25e7 {R : Type} (call : Bool → CallF R) (dem : Bool) (N : Nat) (y0 : Int) (J : KF R) (σ : St) : runK Try.prog call dem N f25c16 f25a16 J (f25e7 y0) σ = J .ret (f25e7 y0) σ := runK_ret' (by kernel_rfl) (by kernel_rfl)
theorem f25b_f25e7_r {R : Type} (y0 : Int) (σ : St) (K : AV → St → Option R) : bodyC Try.prog f25rs K (Ex.ret) (f25e7 y0) σ =
K (AV.int IntKind.i64 y0) σ := hide (by kernel_rfl)
attribute [go_sem] f25_eq f25n0 f25r1_f25e0 f25z0_f25e1 f25n2 f25n3 f25r5_f25e0 f25z3_f25e2 f25x6_f25e5 f25n7 f25r9_f25e5 f25z7_f25e6 f25y10_f25e7 f25n8 f25z6_f25e5 f25z3_f25e3 f25z3_f25e4 f25z2_f25e0 f25n4 f25r11_f25e0 f25z4_f25e8 f25n12 f25r13_f25e0 f25z12_f25e9 f25n14 f25r15_f25e10 f25z14_f25e7 f25y16_f25e7 f25b_f25e7_r

noncomputable def f26rs : List ResultVar := [ResultVar.tmp (4 : Nat), ResultVar.tmp (5 : Nat)]
noncomputable def f26c0 : Code := subCode [] (bodyOf Try.prog 26)
def f26a0 : Ann := subAnn [] ann26
noncomputable def f26c1 : Code := subCode [0] (bodyOf Try.prog 26)
def f26a1 : Ann := subAnn [0] ann26
noncomputable def f26c2 : Code := subCode [1] (bodyOf Try.prog 26)
def f26a2 : Ann := subAnn [1] ann26
noncomputable def f26c3 : Code := subCode [1, 0] (bodyOf Try.prog 26)
def f26a3 : Ann := subAnn [1, 0] ann26
noncomputable def f26c4 : Code := subCode [1, 1] (bodyOf Try.prog 26)
def f26a4 : Ann := subAnn [1, 1] ann26
noncomputable def f26c5 : Code := subCode [1, 0, 0] (bodyOf Try.prog 26)
def f26a5 : Ann := subAnn [1, 0, 0] ann26
noncomputable def f26c6 : Code := subCode [1, 0, 1] (bodyOf Try.prog 26)
def f26a6 : Ann := subAnn [1, 0, 1] ann26
noncomputable def f26c7 : Code := subCode [1, 0, 1, 0] (bodyOf Try.prog 26)
def f26a7 : Ann := subAnn [1, 0, 1, 0] ann26
noncomputable def f26c8 : Code := subCode [1, 0, 1, 1] (bodyOf Try.prog 26)
def f26a8 : Ann := subAnn [1, 0, 1, 1] ann26
noncomputable def f26c9 : Code := subCode [1, 0, 1, 0, 0] (bodyOf Try.prog 26)
def f26a9 : Ann := subAnn [1, 0, 1, 0, 0] ann26
noncomputable def f26c10 : Code := subCode [1, 0, 1, 0, 1] (bodyOf Try.prog 26)
def f26a10 : Ann := subAnn [1, 0, 1, 0, 1] ann26
noncomputable def f26c11 : Code := subCode [1, 1, 0] (bodyOf Try.prog 26)
def f26a11 : Ann := subAnn [1, 1, 0] ann26
noncomputable def f26c12 : Code := subCode [1, 1, 1] (bodyOf Try.prog 26)
def f26a12 : Ann := subAnn [1, 1, 1] ann26
noncomputable def f26c13 : Code := subCode [1, 1, 1, 0] (bodyOf Try.prog 26)
def f26a13 : Ann := subAnn [1, 1, 1, 0] ann26
noncomputable def f26c14 : Code := subCode [1, 1, 1, 1] (bodyOf Try.prog 26)
def f26a14 : Ann := subAnn [1, 1, 1, 1] ann26
noncomputable def f26c15 : Code := subCode [1, 1, 1, 1, 0] (bodyOf Try.prog 26)
def f26a15 : Ann := subAnn [1, 1, 1, 1, 0] ann26
noncomputable def f26c16 : Code := subCode [1, 1, 1, 1, 1] (bodyOf Try.prog 26)
def f26a16 : Ann := subAnn [1, 1, 1, 1, 1] ann26
def f26e0 (y0 : Option (Nat × Nat)) (y1 : Int) : Env := AV.ptr y0 :: AV.int IntKind.i64 y1 :: Env.sp 21 []
def f26e1 (y0 : Option (Nat × Nat)) (y1 : Int) (y2 : Bool) (y3 : Int) : Env := AV.ptr y0 :: AV.int IntKind.i64 y1 :: Env.sp 2 (AV.bool y2 :: AV.int IntKind.i64 y3 :: Env.sp 17 [])
def f26e2 (y0 : Option (Nat × Nat)) (y1 : Int) (y2 : Int) (y3 : Bool) (y4 : Bool) : Env := AV.ptr y0 :: AV.int IntKind.i64 y1 :: Env.sp 5 (AV.int IntKind.i64 y2 :: AV.bool y3 :: AV.bool y4 :: Env.sp 13 [])
def f26e3 (y0 : Option (Nat × Nat)) (y1 : Int) (y2 : Bool) : Env := AV.ptr y0 :: AV.int IntKind.i64 y1 :: Env.sp 7 (AV.bool y2 :: Env.sp 13 [])
def f26e4 (y0 : Option (Nat × Nat)) (y1 : Int) (y2 : Bool) (y3 : Int) (y4 : Bool) : Env := AV.ptr y0 :: AV.int IntKind.i64 y1 :: Env.sp 2 (AV.bool y2 :: AV.int IntKind.i64 y3 :: Env.sp 3 (AV.bool y4 :: Env.sp 13 []))
def f26e5 (y0 : Bool) (y1 : Int) : Env := Env.sp 4 (AV.bool y0 :: AV.int IntKind.i64 y1 :: Env.sp 17 [])
def f26e6 (y0 : Option (Nat × Nat)) (y1 : Int) (y2 : Bool) (y3 : Option (Nat × Nat)) (y4 : Int) (y5 : Option (Nat × Nat)) (y6 : Option (Nat × Nat)) (y7 : Option (Nat × Nat)) (y8 : Int) (y9 : Bool) : Env := AV.ptr y0 :: AV.int IntKind.i64 y1 :: Env.sp 4 (AV.bool y2 :: Env.sp 3 (AV.ptr y3 :: AV.int IntKind.i64 y4 :: AV.ptr y5 :: AV.ptr y6 :: AV.ptr y7 :: AV.int IntKind.i64 y8 :: AV.bool y9 :: Env.sp 6 []))
def f26e7 (y0 : Option (Nat × Nat)) (y1 : Int) (y2 : Bool) : Env := AV.ptr y0 :: AV.int IntKind.i64 y1 :: Env.sp 4 (AV.bool y2 :: Env.sp 16 [])
def f26e8 (y0 : Option (Nat × Nat)) (y1 : Int) (y2 : Bool) (y3 : Option (Nat × Nat)) (y4 : Int) (y5 : Option (Nat × Nat)) (y6 : Option (Nat × Nat)) (y7 : Option (Nat × Nat)) : Env := AV.ptr y0 :: AV.int IntKind.i64 y1 :: Env.sp 4 (AV.bool y2 :: Env.sp 10 (AV.ptr y3 :: AV.int IntKind.i64 y4 :: AV.ptr y5 :: AV.ptr y6 :: AV.ptr y7 :: Env.sp 1 []))
def f26e9 (y0 : Bool) : Env := Env.sp 6 (AV.bool y0 :: Env.sp 16 [])
def f26e10 (y0 : Bool) (y1 : Int) (y2 : Bool) (y3 : Bool) : Env := Env.sp 4 (AV.bool y0 :: AV.int IntKind.i64 y1 :: AV.bool y2 :: Env.sp 15 (AV.bool y3 :: []))

/- function 26 -/
theorem f26_eq {R : Type} (call : Bool → CallF R) (dem : Bool) (N : Nat) (y0 : Option (Nat × Nat)) (y1 : Int) (σ : St) (K : AV → St → Option R) :
    bodyK Try.prog call dem N ann 26 [AV.ptr y0, AV.int IntKind.i64 y1] σ K = runK Try.prog call dem N f26c0 f26a0 (bodyC Try.prog f26rs K) (f26e0 y0 y1) σ := bodyK_of (fn := ((Try.prog.funcs[26]?).get rfl)) (by kernel_rfl) (by kernel_rfl) (by kernel_rfl) (by kernel_rfl) (by kernel_rfl) (by kernel_rfl)
theorem f26n0 {R : Type} (call : Bool → CallF R) (dem : Bool) (N : Nat) (J : KF R) (e : Env) (σ : St) : runK Try.prog call dem N f26c0 f26a0 J e σ = runK Try.prog call dem N f26c1 f26a1 (seqC (fun K e σ => runK Try.prog call dem N f26c2 f26a2 K e σ) f26a0 J) e σ := runK_seq' (by kernel_rfl) (by kernel_rfl) (by kernel_rfl)
theorem f26r1_f26e0 {R : Type} (call : Bool → CallF R) (dem : Bool) (N : Nat) (y0 : Option (Nat × Nat)) (y1 : Int) (J : KF R) (σ : St) :
    runK Try.prog call dem N f26c1 f26a1 J (f26e0 y0 y1) σ =
J Ex.normal (f26e1 y0 y1 false (0 : Int)) σ := hide (by kernel_rfl)
theorem f26z0_f26e1 (y0 : Option (Nat × Nat)) (y1 : Int) (y2 : Bool) (y3 : Int) : Ann.clr f26a0 (f26e1 y0 y1 y2 y3) = f26e0 y0 y1 := hide (by kernel_rfl)
theorem f26n2 {R : Type} (call : Bool → CallF R) (dem : Bool) (N : Nat) (J : KF R) (e : Env) (σ : St) : runK Try.prog call dem N f26c2 f26a2 J e σ = runK Try.prog call dem N f26c3 f26a3 (seqC (fun K e σ => runK Try.prog call dem N f26c4 f26a4 K e σ) f26a2 J) e σ := runK_seq' (by kernel_rfl) (by kernel_rfl) (by kernel_rfl)
theorem f26n3 {R : Type} (call : Bool → CallF R) (dem : Bool) (N : Nat) (J : KF R) (e : Env) (σ : St) : runK Try.prog call dem N f26c3 f26a3 J e σ = runK Try.prog call dem N f26c5 f26a5 (seqC (fun K e σ => runK Try.prog call dem N f26c6 f26a6 K e σ) f26a3 J) e σ := runK_seq' (by kernel_rfl) (by kernel_rfl) (by kernel_rfl)
theorem f26r5_f26e0 {R : Type} (call : Bool → CallF R) (dem : Bool) (N : Nat) (y0 : Option (Nat × Nat)) (y1 : Int) (J : KF R) (σ : St) :
    runK Try.prog call dem N f26c5 f26a5 J (f26e0 y0 y1) σ =
call dem (31 : Nat) [AV.int IntKind.i64 y1] σ fun v0 v1 => Option.bind (AV.toBool v0) fun v2 => J Ex.normal (f26e2 y0 y1 y1 v2 !v2) v1 := hide (by kernel_rfl)
theorem f26z3_f26e2 (y0 : Option (Nat × Nat)) (y1 : Int) (y2 : Int) (y3 : Bool) (y4 : Bool) : Ann.clr f26a3 (f26e2 y0 y1 y2 y3 y4) = f26e3 y0 y1 y4 := hide (by kernel_rfl)
theorem f26x6_f26e3 {R : Type} (call : Bool → CallF R) (dem : Bool) (N : Nat) (y0 : Option (Nat × Nat)) (y1 : Int) (y2 : Bool) (J : KF R) (σ : St) : runK Try.prog call dem N f26c6 f26a6 J (f26e3 y0 y1 y2) σ = if y2 = true then runK Try.prog call dem N f26c7 f26a7 (condC f26a6 J) (f26e3 y0 y1 y2) σ else runK Try.prog call dem N f26c8 f26a8 (condC f26a6 J) (f26e3 y0 y1 y2) σ := runK_cond' (o := Operand.tmp (9 : Nat)) (by kernel_rfl) (by kernel_rfl) (by kernel_rfl) (by kernel_rfl)
theorem f26n7 {R : Type} (call : Bool → CallF R) (dem : Bool) (N : Nat) (J : KF R) (e : Env) (σ : St) : runK Try.prog call dem N f26c7 f26a7 J e σ = runK Try.prog call dem N f26c9 f26a9 (seqC (fun K e σ => runK Try.prog call dem N f26c10 f26a10 K e σ) f26a7 J) e σ := runK_seq' (by kernel_rfl) (by kernel_rfl) (by kernel_rfl)
theorem f26r9_f26e3 {R : Type} (call : Bool → CallF R) (dem : Bool) (N : Nat) (y0 : Option (Nat × Nat)) (y1 : Int) (y2 : Bool) (J : KF R) (σ : St) :
    runK Try.prog call dem N f26c9 f26a9 J (f26e3 y0 y1 y2) σ =
J Ex.normal (f26e4 y0 y1 false (1 : Int) y2) σ := hide (by kernel_rfl)
theorem f26z7_f26e4 (y0 : Option (Nat × Nat)) (y1 : Int) (y2 : Bool) (y3 : Int) (y4 : Bool) : Ann.clr f26a7 (f26e4 y0 y1 y2 y3 y4) = f26e5 y2 y3 := hide (by kernel_rfl)
theorem f26y10_f26e5 {R : Type} (call : Bool → CallF R) (dem : Bool) (N : Nat) (y0 : Bool) (y1 : Int) (J : KF R) (σ : St) : runK Try.prog call dem N f26c10 f26a10 J (f26e5 y0 y1) σ = J .ret (f26e5 y0 y1) σ := runK_ret' (by kernel_rfl) (by kernel_rfl)
theorem f26n8 {R : Type} (call : Bool → CallF R) (dem : Bool) (N : Nat) (J : KF R) (e : Env) (σ : St) : runK Try.prog call dem N f26c8 f26a8 J e σ = J .normal e σ := runK_skip' (by kernel_rfl)
theorem f26z6_f26e3 (y0 : Option (Nat × Nat)) (y1 : Int) (y2 : Bool) : Ann.clr f26a6 (f26e3 y0 y1 y2) = f26e0 y0 y1 := hide (by kernel_rfl)
theorem f26z2_f26e0 (y0 : Option (Nat × Nat)) (y1 : Int) : Ann.clr f26a2 (f26e0 y0 y1) = f26e0 y0 y1 := hide (by kernel_rfl)
theorem f26n4 {R : Type} (call : Bool → CallF R) (dem : Bool) (N : Nat) (J : KF R) (e : Env) (σ : St) : runK Try.prog call dem N f26c4 f26a4 J e σ = runK Try.prog call dem N f26c11 f26a11 (seqC (fun K e σ => runK Try.prog call dem N f26c12 f26a12 K e σ) f26a4 J) e σ := runK_seq' (by kernel_rfl) (by kernel_rfl) (by kernel_rfl)
theorem f26r11_f26e0 {R : Type} (call : Bool → CallF R) (dem : Bool) (N : Nat) (y0 : Option (Nat × Nat)) (y1 : Int) (J : KF R) (σ : St) :
    runK Try.prog call dem N f26c11 f26a11 J (f26e0 y0 y1) σ =
Option.bind y0 fun v0 =>
  if (0 : Nat) < (1 : Nat) ∧ (0 : Int) ≤ y1 ∧ y1 < (16 : Int) then
    Option.bind (St.ld σ (Prod.fst v0) (Prod.snd v0 + (1 : Nat) + Int.toNat y1 * (1 : Nat))) fun v1 =>
      Option.bind (AV.toInt IntKind.i64 v1) fun v2 =>
        J Ex.normal
          (f26e6 y0 y1 (decide (v2 ≥ (0 : Int))) y0 y1 (some v0) (some (Prod.fst v0, Prod.snd v0 + (1 : Nat)))
            (some (Prod.fst v0, Prod.snd v0 + (1 : Nat) + Int.toNat y1 * (1 : Nat))) v2 (decide (v2 ≥ (0 : Int))))
          σ
  else none := hide (by kernel_rfl)
theorem f26z4_f26e6 (y0 : Option (Nat × Nat)) (y1 : Int) (y2 : Bool) (y3 : Option (Nat × Nat)) (y4 : Int) (y5 : Option (Nat × Nat)) (y6 : Option (Nat × Nat)) (y7 : Option (Nat × Nat)) (y8 : Int) (y9 : Bool) : Ann.clr f26a4 (f26e6 y0 y1 y2 y3 y4 y5 y6 y7 y8 y9) = f26e7 y0 y1 y2 := hide (by kernel_rfl)
theorem f26n12 {R : Type} (call : Bool → CallF R) (dem : Bool) (N : Nat) (J : KF R) (e : Env) (σ : St) : runK Try.prog call dem N f26c12 f26a12 J e σ = runK Try.prog call dem N f26c13 f26a13 (seqC (fun K e σ => runK Try.prog call dem N f26c14 f26a14 K e σ) f26a12 J) e σ := runK_seq' (by kernel_rfl) (by kernel_rfl) (by kernel_rfl)
theorem f26r13_f26e7 {R : Type} (call : Bool → CallF R) (dem : Bool) (N : Nat) (y0 : Option (Nat × Nat)) (y1 : Int) (y2 : Bool) (J : KF R) (σ : St) :
    runK Try.prog call dem N f26c13 f26a13 J (f26e7 y0 y1 y2) σ =
Option.bind y0 fun v0 =>
  if (0 : Nat) < (1 : Nat) ∧ (0 : Int) ≤ y1 ∧ y1 < (16 : Int) then
    Option.bind (St.st σ (Prod.fst v0) (Prod.snd v0 + (1 : Nat) + Int.toNat y1 * (1 : Nat)) [AV.int IntKind.i64 (-1 : Int)]) fun v1 =>
      J Ex.normal
        (f26e8 y0 y1 y2 y0 y1 (some v0) (some (Prod.fst v0, Prod.snd v0 + (1 : Nat)))
          (some (Prod.fst v0, Prod.snd v0 + (1 : Nat) + Int.toNat y1 * (1 : Nat))))
        v1
  else none := hide (by kernel_rfl)
theorem f26z12_f26e8 (y0 : Option (Nat × Nat)) (y1 : Int) (y2 : Bool) (y3 : Option (Nat × Nat)) (y4 : Int) (y5 : Option (Nat × Nat)) (y6 : Option (Nat × Nat)) (y7 : Option (Nat × Nat)) : Ann.clr f26a12 (f26e8 y0 y1 y2 y3 y4 y5 y6 y7) = f26e9 y2 := hide (by kernel_rfl)
theorem f26n14 {R : Type} (call : Bool → CallF R) (dem : Bool) (N : Nat) (J : KF R) (e : Env) (σ : St) : runK Try.prog call dem N f26c14 f26a14 J e σ = runK Try.prog call dem N f26c15 f26a15 (seqC (fun K e σ => runK Try.prog call dem N f26c16 f26a16 K e σ) f26a14 J) e σ := runK_seq' (by kernel_rfl) (by kernel_rfl) (by kernel_rfl)
theorem f26r15_f26e9 {R : Type} (call : Bool → CallF R) (dem : Bool) (N : Nat) (y0 : Bool) (J : KF R) (σ : St) :
    runK Try.prog call dem N f26c15 f26a15 J (f26e9 y0) σ =
J Ex.normal (f26e10 y0 (0 : Int) y0 y0) σ := hide (by kernel_rfl)
theorem f26z14_f26e10 (y0 : Bool) (y1 : Int) (y2 : Bool) (y3 : Bool) : Ann.clr f26a14 (f26e10 y0 y1 y2 y3) = f26e5 y0 y1 := hide (by kernel_rfl)
theorem f26y16_f26e5 {R : Type} (call : Bool → CallF R) (dem : Bool) (N : Nat) (y0 : Bool) (y1 : Int) (J : KF R) (σ : St) : runK Try.prog call dem N f26c16 f26a16 J (f26e5 y0 y1) σ = J .ret (f26e5 y0 y1) σ := runK_ret' (by kernel_rfl) (by kernel_rfl)
theorem f26b_f26e5_r {R : Type} (y0 : Bool) (y1 : Int) (σ : St) (K : AV → St → Option R) : bodyC Try.prog f26rs K (Ex.ret) (f26e5 y0 y1) σ =
K (AV.tuple [AV.bool y0, AV.int IntKind.i64 y1]) σ := hide (by kernel_rfl)
attribute [go_sem] f26_eq f26n0 f26r1_f26e0 f26z0_f26e1 f26n2 f26n3 f26r5_f26e0 f26z3_f26e2 f26x6_f26e3 f26n7 f26r9_f26e3 f26z7_f26e4 f26y10_f26e5 f26n8 f26z6_f26e3 f26z2_f26e0 f26n4 f26r11_f26e0 f26z4_f26e6 f26n12 f26r13_f26e7 f26z12_f26e8 f26n14 f26r15_f26e9 f26z14_f26e10 f26y16_f26e5 f26b_f26e5_r

noncomputable def f27rs : List ResultVar := [ResultVar.tmp (4 : Nat), ResultVar.tmp (5 : Nat)]
noncomputable def f27c0 : Code := subCode [] (bodyOf Try.prog 27)
def f27a0 : Ann := subAnn [] ann27
noncomputable def f27c1 : Code := subCode [0] (bodyOf Try.prog 27)
def f27a1 : Ann := subAnn [0] ann27
noncomputable def f27c2 : Code := subCode [1] (bodyOf Try.prog 27)
def f27a2 : Ann := subAnn [1] ann27
noncomputable def f27c3 : Code := subCode [1, 0] (bodyOf Try.prog 27)
def f27a3 : Ann := subAnn [1, 0] ann27
noncomputable def f27c4 : Code := subCode [1, 1] (bodyOf Try.prog 27)
def f27a4 : Ann := subAnn [1, 1] ann27
noncomputable def f27c5 : Code := subCode [1, 0, 0] (bodyOf Try.prog 27)
def f27a5 : Ann := subAnn [1, 0, 0] ann27
noncomputable def f27c6 : Code := subCode [1, 0, 1] (bodyOf Try.prog 27)
def f27a6 : Ann := subAnn [1, 0, 1] ann27
noncomputable def f27c7 : Code := subCode [1, 0, 1, 0] (bodyOf Try.prog 27)
def f27a7 : Ann := subAnn [1, 0, 1, 0] ann27
noncomputable def f27c8 : Code := subCode [1, 0, 1, 1] (bodyOf Try.prog 27)
def f27a8 : Ann := subAnn [1, 0, 1, 1] ann27
noncomputable def f27c9 : Code := subCode [1, 0, 1, 0, 0] (bodyOf Try.prog 27)
def f27a9 : Ann := subAnn [1, 0, 1, 0, 0] ann27
noncomputable def f27c10 : Code := subCode [1, 0, 1, 0, 1] (bodyOf Try.prog 27)
def f27a10 : Ann := subAnn [1, 0, 1, 0, 1] ann27
noncomputable def f27c11 : Code := subCode [1, 1, 0] (bodyOf Try.prog 27)
def f27a11 : Ann := subAnn [1, 1, 0] ann27
noncomputable def f27c12 : Code := subCode [1, 1, 1] (bodyOf Try.prog 27)
def f27a12 : Ann := subAnn [1, 1, 1] ann27
noncomputable def f27c13 : Code := subCode [1, 1, 0, 0] (bodyOf Try.prog 27)
def f27a13 : Ann := subAnn [1, 1, 0, 0] ann27
noncomputable def f27c14 : Code := subCode [1, 1, 0, 1] (bodyOf Try.prog 27)
def f27a14 : Ann := subAnn [1, 1, 0, 1] ann27
noncomputable def f27c15 : Code := subCode [1, 1, 0, 1, 0] (bodyOf Try.prog 27)
def f27a15 : Ann := subAnn [1, 1, 0, 1, 0] ann27
noncomputable def f27c16 : Code := subCode [1, 1, 0, 1, 1] (bodyOf Try.prog 27)
def f27a16 : Ann := subAnn [1, 1, 0, 1, 1] ann27
noncomputable def f27c17 : Code := subCode [1, 1, 0, 1, 0, 0] (bodyOf Try.prog 27)
def f27a17 : Ann := subAnn [1, 1, 0, 1, 0, 0] ann27
noncomputable def f27c18 : Code := subCode [1, 1, 0, 1, 0, 1] (bodyOf Try.prog 27)
def f27a18 : Ann := subAnn [1, 1, 0, 1, 0, 1] ann27
noncomputable def f27c19 : Code := subCode [1, 1, 1, 0] (bodyOf Try.prog 27)
def f27a19 : Ann := subAnn [1, 1, 1, 0] ann27
noncomputable def f27c20 : Code := subCode [1, 1, 1, 1] (bodyOf Try.prog 27)
def f27a20 : Ann := subAnn [1, 1, 1, 1] ann27
noncomputable def f27c21 : Code := subCode [1, 1, 1, 1, 0] (bodyOf Try.prog 27)
def f27a21 : Ann := subAnn [1, 1, 1, 1, 0] ann27
noncomputable def f27c22 : Code := subCode [1, 1, 1, 1, 1] (bodyOf Try.prog 27)
def f27a22 : Ann := subAnn [1, 1, 1, 1, 1] ann27
noncomputable def f27c23 : Code := subCode [1, 1, 1, 1, 0, 0] (bodyOf Try.prog 27)
def f27a23 : Ann := subAnn [1, 1, 1, 1, 0, 0] ann27
noncomputable def f27c24 : Code := subCode [1, 1, 1, 1, 0, 1] (bodyOf Try.prog 27)
def f27a24 : Ann := subAnn [1, 1, 1, 1, 0, 1] ann27
noncomputable def f27c25 : Code := subCode [1, 1, 1, 1, 0, 1, 0] (bodyOf Try.prog 27)
def f27a25 : Ann := subAnn [1, 1, 1, 1, 0, 1, 0] ann27
noncomputable def f27c26 : Code := subCode [1, 1, 1, 1, 0, 1, 1] (bodyOf Try.prog 27)
def f27a26 : Ann := subAnn [1, 1, 1, 1, 0, 1, 1] ann27
noncomputable def f27c27 : Code := subCode [1, 1, 1, 1, 1, 0] (bodyOf Try.prog 27)
def f27a27 : Ann := subAnn [1, 1, 1, 1, 1, 0] ann27
noncomputable def f27c28 : Code := subCode [1, 1, 1, 1, 1, 1] (bodyOf Try.prog 27)
def f27a28 : Ann := subAnn [1, 1, 1, 1, 1, 1] ann27
noncomputable def f27c29 : Code := subCode [1, 1, 1, 1, 1, 1, 0] (bodyOf Try.prog 27)
def f27a29 : Ann := subAnn [1, 1, 1, 1, 1, 1, 0] ann27
noncomputable def f27c30 : Code := subCode [1, 1, 1, 1, 1, 1, 1] (bodyOf Try.prog 27)
def f27a30 : Ann := subAnn [1, 1, 1, 1, 1, 1, 1] ann27
def f27e0 (y0 : Option (Nat × Nat)) (y1 : Int) : Env := AV.ptr y0 :: AV.int IntKind.i64 y1 :: Env.sp 29 []
def f27e1 (y0 : Option (Nat × Nat)) (y1 : Int) (y2 : Int) (y3 : Int) : Env := AV.ptr y0 :: AV.int IntKind.i64 y1 :: Env.sp 2 (AV.int IntKind.i64 y2 :: AV.int IntKind.i64 y3 :: Env.sp 25 [])
def f27e2 (y0 : Option (Nat × Nat)) (y1 : Int) (y2 : Int) (y3 : Bool) (y4 : Bool) : Env := AV.ptr y0 :: AV.int IntKind.i64 y1 :: Env.sp 5 (AV.int IntKind.i64 y2 :: AV.bool y3 :: AV.bool y4 :: Env.sp 21 [])
def f27e3 (y0 : Option (Nat × Nat)) (y1 : Int) (y2 : Bool) : Env := AV.ptr y0 :: AV.int IntKind.i64 y1 :: Env.sp 7 (AV.bool y2 :: Env.sp 21 [])
def f27e4 (y0 : Option (Nat × Nat)) (y1 : Int) (y2 : Int) (y3 : Int) (y4 : Bool) : Env := AV.ptr y0 :: AV.int IntKind.i64 y1 :: Env.sp 2 (AV.int IntKind.i64 y2 :: AV.int IntKind.i64 y3 :: Env.sp 3 (AV.bool y4 :: Env.sp 21 []))
def f27e5 (y0 : Int) (y1 : Int) : Env := Env.sp 4 (AV.int IntKind.i64 y0 :: AV.int IntKind.i64 y1 :: Env.sp 25 [])
def f27e6 (y0 : Option (Nat × Nat)) (y1 : Int) (y2 : Option (Nat × Nat)) (y3 : Int) (y4 : Option (Nat × Nat)) (y5 : Option (Nat × Nat)) (y6 : Option (Nat × Nat)) (y7 : Int) (y8 : Bool) : Env := AV.ptr y0 :: AV.int IntKind.i64 y1 :: Env.sp 8 (AV.ptr y2 :: AV.int IntKind.i64 y3 :: AV.ptr y4 :: AV.ptr y5 :: AV.ptr y6 :: AV.int IntKind.i64 y7 :: AV.bool y8 :: Env.sp 14 [])
def f27e7 (y0 : Option (Nat × Nat)) (y1 : Int) (y2 : Bool) : Env := AV.ptr y0 :: AV.int IntKind.i64 y1 :: Env.sp 14 (AV.bool y2 :: Env.sp 14 [])
def f27e8 (y0 : Option (Nat × Nat)) (y1 : Int) (y2 : Int) (y3 : Int) (y4 : Bool) : Env := AV.ptr y0 :: AV.int IntKind.i64 y1 :: Env.sp 2 (AV.int IntKind.i64 y2 :: AV.int IntKind.i64 y3 :: Env.sp 10 (AV.bool y4 :: Env.sp 14 []))
def f27e9 (y0 : Option (Nat × Nat)) (y1 : Int) (y2 : Int) (y3 : Option (Nat × Nat)) (y4 : Int) (y5 : Option (Nat × Nat)) (y6 : Option (Nat × Nat)) (y7 : Option (Nat × Nat)) (y8 : Int) (y9 : Int) : Env := AV.ptr y0 :: AV.int IntKind.i64 y1 :: Env.sp 4 (AV.int IntKind.i64 y2 :: Env.sp 10 (AV.ptr y3 :: AV.int IntKind.i64 y4 :: AV.ptr y5 :: AV.ptr y6 :: AV.ptr y7 :: AV.int IntKind.i64 y8 :: AV.int IntKind.i64 y9 :: Env.sp 7 []))
def f27e10 (y0 : Option (Nat × Nat)) (y1 : Int) (y2 : Int) : Env := AV.ptr y0 :: AV.int IntKind.i64 y1 :: Env.sp 4 (AV.int IntKind.i64 y2 :: Env.sp 24 [])
def f27e11 (y0 : Option (Nat × Nat)) (y1 : Int) (y2 : Int) (y3 : Int) (y4 : Bool) : Env := AV.ptr y0 :: AV.int IntKind.i64 y1 :: Env.sp 4 (AV.int IntKind.i64 y2 :: Env.sp 17 (AV.int IntKind.i64 y3 :: AV.bool y4 :: Env.sp 5 []))
def f27e12 (y0 : Option (Nat × Nat)) (y1 : Int) (y2 : Int) (y3 : Bool) : Env := AV.ptr y0 :: AV.int IntKind.i64 y1 :: Env.sp 4 (AV.int IntKind.i64 y2 :: Env.sp 18 (AV.bool y3 :: Env.sp 5 []))
def f27e13 (y0 : Option (Nat × Nat)) (y1 : Int) (y2 : Int) (y3 : Option (Nat × Nat)) (y4 : Int) (y5 : Int) (y6 : Int) : Env := AV.ptr y0 :: AV.int IntKind.i64 y1 :: Env.sp 4 (AV.int IntKind.i64 y2 :: Env.sp 19 (AV.ptr y3 :: AV.int IntKind.i64 y4 :: AV.int IntKind.i64 y5 :: AV.int IntKind.i64 y6 :: Env.sp 1 []))
def f27e14 (y0 : Int) : Env := Env.sp 6 (AV.int IntKind.i64 y0 :: Env.sp 24 [])
def f27e15 (y0 : Int) (y1 : Int) (y2 : Int) (y3 : Int) : Env := Env.sp 4 (AV.int IntKind.i64 y0 :: AV.int IntKind.i64 y1 :: AV.int IntKind.i64 y2 :: Env.sp 23 (AV.int IntKind.i64 y3 :: []))

/- function 27 -/
theorem f27_eq {R : Type} (call : Bool → CallF R) (dem : Bool) (N : Nat) (y0 : Option (Nat × Nat)) (y1 : Int) (σ : St) (K : AV → St → Option R) :
    bodyK Try.prog call dem N ann 27 [AV.ptr y0, AV.int IntKind.i64 y1] σ K = runK Try.prog call dem N f27c0 f27a0 (bodyC Try.prog f27rs K) (f27e0 y0 y1) σ := bodyK_of (fn := ((Try.prog.funcs[27]?).get rfl)) (by kernel_rfl) (by kernel_rfl) (by kernel_rfl) (by kernel_rfl) (by kernel_rfl) (by kernel_rfl)
theorem f27n0 {R : Type} (call : Bool → CallF R) (dem : Bool) (N : Nat) (J : KF R) (e : Env) (σ : St) : runK Try.prog call dem N f27c0 f27a0 J e σ = runK Try.prog call dem N f27c1 f27a1 (seqC (fun K e σ => runK Try.prog call dem N f27c2 f27a2 K e σ) f27a0 J) e σ := runK_seq' (by kernel_rfl) (by kernel_rfl) (by kernel_rfl)
theorem f27r1_f27e0 {R : Type} (call : Bool → CallF R) (dem : Bool) (N : Nat) (y0 : Option (Nat × Nat)) (y1 : Int) (J : KF R) (σ : St) :
    runK Try.prog call dem N f27c1 f27a1 J (f27e0 y0 y1) σ =
J Ex.normal (f27e1 y0 y1 (0 : Int) (0 : Int)) σ := hide (by kernel_rfl)
theorem f27z0_f27e1 (y0 : Option (Nat × Nat)) (y1 : Int) (y2 : Int) (y3 : Int) : Ann.clr f27a0 (f27e1 y0 y1 y2 y3) = f27e0 y0 y1 := hide (by kernel_rfl)
theorem f27n2 {R : Type} (call : Bool → CallF R) (dem : Bool) (N : Nat) (J : KF R) (e : Env) (σ : St) : runK Try.prog call dem N f27c2 f27a2 J e σ = runK Try.prog call dem N f27c3 f27a3 (seqC (fun K e σ => runK Try.prog call dem N f27c4 f27a4 K e σ) f27a2 J) e σ := runK_seq' (by kernel_rfl) (by kernel_rfl) (by kernel_rfl)
theorem f27n3 {R : Type} (call : Bool → CallF R) (dem : Bool) (N : Nat) (J : KF R) (e : Env) (σ : St) : runK Try.prog call dem N f27c3 f27a3 J e σ = runK Try.prog call dem N f27c5 f27a5 (seqC (fun K e σ => runK Try.prog call dem N f27c6 f27a6 K e σ) f27a3 J) e σ := runK_seq' (by kernel_rfl) (by kernel_rfl) (by kernel_rfl)
theorem f27r5_f27e0 {R : Type} (call : Bool → CallF R) (dem : Bool) (N : Nat) (y0 : Option (Nat × Nat)) (y1 : Int) (J : KF R) (σ : St) :
    runK Try.prog call dem N f27c5 f27a5 J (f27e0 y0 y1) σ =
call dem (31 : Nat) [AV.int IntKind.i64 y1] σ fun v0 v1 => Option.bind (AV.toBool v0) fun v2 => J Ex.normal (f27e2 y0 y1 y1 v2 !v2) v1 := hide (by kernel_rfl)
theorem f27z3_f27e2 (y0 : Option (Nat × Nat)) (y1 : Int) (y2 : Int) (y3 : Bool) (y4 : Bool) : Ann.clr f27a3 (f27e2 y0 y1 y2 y3 y4) = f27e3 y0 y1 y4 := hide (by kernel_rfl)
theorem f27x6_f27e3 {R : Type} (call : Bool → CallF R) (dem : Bool) (N : Nat) (y0 : Option (Nat × Nat)) (y1 : Int) (y2 : Bool) (J : KF R) (σ : St) : runK Try.prog call dem N f27c6 f27a6 J (f27e3 y0 y1 y2) σ = if y2 = true then runK Try.prog call dem N f27c7 f27a7 (condC f27a6 J) (f27e3 y0 y1 y2) σ else runK Try.prog call dem N f27c8 f27a8 (condC f27a6 J) (f27e3 y0 y1 y2) σ := runK_cond' (o := Operand.tmp (9 : Nat)) (by kernel_rfl) (by kernel_rfl) (by kernel_rfl) (by kernel_rfl)
theorem f27n7 {R : Type} (call : Bool → CallF R) (dem : Bool) (N : Nat) (J : KF R) (e : Env) (σ : St) : runK Try.prog call dem N f27c7 f27a7 J e σ = runK Try.prog call dem N f27c9 f27a9 (seqC (fun K e σ => runK Try.prog call dem N f27c10 f27a10 K e σ) f27a7 J) e σ := runK_seq' (by kernel_rfl) (by kernel_rfl) (by kernel_rfl)
theorem f27r9_f27e3 {R : Type} (call : Bool → CallF R) (dem : Bool) (N : Nat) (y0 : Option (Nat × Nat)) (y1 : Int) (y2 : Bool) (J : KF R) (σ : St) :
    runK Try.prog call dem N f27c9 f27a9 J (f27e3 y0 y1 y2) σ =
J Ex.normal (f27e4 y0 y1 (0 : Int) (1 : Int) y2) σ := hide (by kernel_rfl)
theorem f27z7_f27e4 (y0 : Option (Nat × Nat)) (y1 : Int) (y2 : Int) (y3 : Int) (y4 : Bool) : Ann.clr f27a7 (f27e4 y0 y1 y2 y3 y4) = f27e5 y2 y3 := hide (by kernel_rfl)
theorem f27y10_f27e5 {R : Type} (call : Bool → CallF R) (dem : Bool) (N : Nat) (y0 : Int) (y1 : Int) (J : KF R) (σ : St) : runK Try.prog call dem N f27c10 f27a10 J (f27e5 y0 y1) σ = J .ret (f27e5 y0 y1) σ := runK_ret' (by kernel_rfl) (by kernel_rfl)
theorem f27n8 {R : Type} (call : Bool → CallF R) (dem : Bool) (N : Nat) (J : KF R) (e : Env) (σ : St) : runK Try.prog call dem N f27c8 f27a8 J e σ = J .normal e σ := runK_skip' (by kernel_rfl)
theorem f27z6_f27e3 (y0 : Option (Nat × Nat)) (y1 : Int) (y2 : Bool) : Ann.clr f27a6 (f27e3 y0 y1 y2) = f27e0 y0 y1 := hide (by kernel_rfl)
theorem f27z2_f27e0 (y0 : Option (Nat × Nat)) (y1 : Int) : Ann.clr f27a2 (f27e0 y0 y1) = f27e0 y0 y1 := hide (by kernel_rfl)
theorem f27n4 {R : Type} (call : Bool → CallF R) (dem : Bool) (N : Nat) (J : KF R) (e : Env) (σ : St) : runK Try.prog call dem N f27c4 f27a4 J e σ = runK Try.prog call dem N f27c11 f27a11 (seqC (fun K e σ => runK Try.prog call dem N f27c12 f27a12 K e σ) f27a4 J) e σ := runK_seq' (by kernel_rfl) (by kernel_rfl) (by kernel_rfl)
theorem f27n11 {R : Type} (call : Bool → CallF R) (dem : Bool) (N : Nat) (J : KF R) (e : Env) (σ : St) : runK Try.prog call dem N f27c11 f27a11 J e σ = runK Try.prog call dem N f27c13 f27a13 (seqC (fun K e σ => runK Try.prog call dem N f27c14 f27a14 K e σ) f27a11 J) e σ := runK_seq' (by kernel_rfl) (by kernel_rfl) (by kernel_rfl)
theorem f27r13_f27e0 {R : Type} (call : Bool → CallF R) (dem : Bool) (N : Nat) (y0 : Option (Nat × Nat)) (y1 : Int) (J : KF R) (σ : St) :
    runK Try.prog call dem N f27c13 f27a13 J (f27e0 y0 y1) σ =
Option.bind y0 fun v0 =>
  if (0 : Nat) < (1 : Nat) ∧ (0 : Int) ≤ y1 ∧ y1 < (16 : Int) then
    Option.bind (St.ld σ (Prod.fst v0) (Prod.snd v0 + (1 : Nat) + Int.toNat y1 * (1 : Nat))) fun v1 =>
      Option.bind (AV.toInt IntKind.i64 v1) fun v2 =>
        J Ex.normal
          (f27e6 y0 y1 y0 y1 (some v0) (some (Prod.fst v0, Prod.snd v0 + (1 : Nat)))
            (some (Prod.fst v0, Prod.snd v0 + (1 : Nat) + Int.toNat y1 * (1 : Nat))) v2 (decide (v2 < (0 : Int))))
          σ
  else none := hide (by kernel_rfl)
theorem f27z11_f27e6 (y0 : Option (Nat × Nat)) (y1 : Int) (y2 : Option (Nat × Nat)) (y3 : Int) (y4 : Option (Nat × Nat)) (y5 : Option (Nat × Nat)) (y6 : Option (Nat × Nat)) (y7 : Int) (y8 : Bool) : Ann.clr f27a11 (f27e6 y0 y1 y2 y3 y4 y5 y6 y7 y8) = f27e7 y0 y1 y8 := hide (by kernel_rfl)
theorem f27x14_f27e7 {R : Type} (call : Bool → CallF R) (dem : Bool) (N : Nat) (y0 : Option (Nat × Nat)) (y1 : Int) (y2 : Bool) (J : KF R) (σ : St) : runK Try.prog call dem N f27c14 f27a14 J (f27e7 y0 y1 y2) σ = if y2 = true then runK Try.prog call dem N f27c15 f27a15 (condC f27a14 J) (f27e7 y0 y1 y2) σ else runK Try.prog call dem N f27c16 f27a16 (condC f27a14 J) (f27e7 y0 y1 y2) σ := runK_cond' (o := Operand.tmp (16 : Nat)) (by kernel_rfl) (by kernel_rfl) (by kernel_rfl) (by kernel_rfl)
theorem f27n15 {R : Type} (call : Bool → CallF R) (dem : Bool) (N : Nat) (J : KF R) (e : Env) (σ : St) : runK Try.prog call dem N f27c15 f27a15 J e σ = runK Try.prog call dem N f27c17 f27a17 (seqC (fun K e σ => runK Try.prog call dem N f27c18 f27a18 K e σ) f27a15 J) e σ := runK_seq' (by kernel_rfl) (by kernel_rfl) (by kernel_rfl)
theorem f27r17_f27e7 {R : Type} (call : Bool → CallF R) (dem : Bool) (N : Nat) (y0 : Option (Nat × Nat)) (y1 : Int) (y2 : Bool) (J : KF R) (σ : St) :
    runK Try.prog call dem N f27c17 f27a17 J (f27e7 y0 y1 y2) σ =
J Ex.normal (f27e8 y0 y1 (0 : Int) (6 : Int) y2) σ := hide (by kernel_rfl)
theorem f27z15_f27e8 (y0 : Option (Nat × Nat)) (y1 : Int) (y2 : Int) (y3 : Int) (y4 : Bool) : Ann.clr f27a15 (f27e8 y0 y1 y2 y3 y4) = f27e5 y2 y3 := hide (by kernel_rfl)
theorem f27y18_f27e5 {R : Type} (call : Bool → CallF R) (dem : Bool) (N : Nat) (y0 : Int) (y1 : Int) (J : KF R) (σ : St) : runK Try.prog call dem N f27c18 f27a18 J (f27e5 y0 y1) σ = J .ret (f27e5 y0 y1) σ := runK_ret' (by kernel_rfl) (by kernel_rfl)
theorem f27n16 {R : Type} (call : Bool → CallF R) (dem : Bool) (N : Nat) (J : KF R) (e : Env) (σ : St) : runK Try.prog call dem N f27c16 f27a16 J e σ = J .normal e σ := runK_skip' (by kernel_rfl)
theorem f27z14_f27e7 (y0 : Option (Nat × Nat)) (y1 : Int) (y2 : Bool) : Ann.clr f27a14 (f27e7 y0 y1 y2) = f27e0 y0 y1 := hide (by kernel_rfl)
theorem f27z4_f27e0 (y0 : Option (Nat × Nat)) (y1 : Int) : Ann.clr f27a4 (f27e0 y0 y1) = f27e0 y0 y1 := hide (by kernel_rfl)
theorem f27n12 {R : Type} (call : Bool → CallF R) (dem : Bool) (N : Nat) (J : KF R) (e : Env) (σ : St) : runK Try.prog call dem N f27c12 f27a12 J e σ = runK Try.prog call dem N f27c19 f27a19 (seqC (fun K e σ => runK Try.prog call dem N f27c20 f27a20 K e σ) f27a12 J) e σ := runK_seq' (by kernel_rfl) (by kernel_rfl) (by kernel_rfl)
theorem f27r19_f27e0 {R : Type} (call : Bool → CallF R) (dem : Bool) (N : Nat) (y0 : Option (Nat × Nat)) (y1 : Int) (J : KF R) (σ : St) :
    runK Try.prog call dem N f27c19 f27a19 J (f27e0 y0 y1) σ =
Option.bind y0 fun v0 =>
  if (0 : Nat) < (1 : Nat) ∧ (0 : Int) ≤ y1 ∧ y1 < (16 : Int) then
    Option.bind (St.ld σ (Prod.fst v0) (Prod.snd v0 + (17 : Nat) + Int.toNat y1 * (1 : Nat))) fun v1 =>
      Option.bind (AV.toInt IntKind.i64 v1) fun v2 =>
        J Ex.normal
          (f27e9 y0 y1 (IntKind.wrap IntKind.i64 ((2 : Int) * v2)) y0 y1 (some v0) (some (Prod.fst v0, Prod.snd v0 + (17 : Nat)))
            (some (Prod.fst v0, Prod.snd v0 + (17 : Nat) + Int.toNat y1 * (1 : Nat))) v2 (IntKind.wrap IntKind.i64 ((2 : Int) * v2)))
          σ
  else none := hide (by kernel_rfl)
theorem f27z12_f27e9 (y0 : Option (Nat × Nat)) (y1 : Int) (y2 : Int) (y3 : Option (Nat × Nat)) (y4 : Int) (y5 : Option (Nat × Nat)) (y6 : Option (Nat × Nat)) (y7 : Option (Nat × Nat)) (y8 : Int) (y9 : Int) : Ann.clr f27a12 (f27e9 y0 y1 y2 y3 y4 y5 y6 y7 y8 y9) = f27e10 y0 y1 y2 := hide (by kernel_rfl)
theorem f27n20 {R : Type} (call : Bool → CallF R) (dem : Bool) (N : Nat) (J : KF R) (e : Env) (σ : St) : runK Try.prog call dem N f27c20 f27a20 J e σ = runK Try.prog call dem N f27c21 f27a21 (seqC (fun K e σ => runK Try.prog call dem N f27c22 f27a22 K e σ) f27a20 J) e σ := runK_seq' (by kernel_rfl) (by kernel_rfl) (by kernel_rfl)
theorem f27n21 {R : Type} (call : Bool → CallF R) (dem : Bool) (N : Nat) (J : KF R) (e : Env) (σ : St) : runK Try.prog call dem N f27c21 f27a21 J e σ = runK Try.prog call dem N f27c23 f27a23 (seqC (fun K e σ => runK Try.prog call dem N f27c24 f27a24 K e σ) f27a21 J) e σ := runK_seq' (by kernel_rfl) (by kernel_rfl) (by kernel_rfl)
theorem f27r23_f27e10 {R : Type} (call : Bool → CallF R) (dem : Bool) (N : Nat) (y0 : Option (Nat × Nat)) (y1 : Int) (y2 : Int) (J : KF R) (σ : St) :
    runK Try.prog call dem N f27c23 f27a23 J (f27e10 y0 y1 y2) σ =
J Ex.normal (f27e11 y0 y1 y2 y2 (decide (y2 > (4096 : Int)))) σ := hide (by kernel_rfl)
theorem f27z21_f27e11 (y0 : Option (Nat × Nat)) (y1 : Int) (y2 : Int) (y3 : Int) (y4 : Bool) : Ann.clr f27a21 (f27e11 y0 y1 y2 y3 y4) = f27e12 y0 y1 y2 y4 := hide (by kernel_rfl)
theorem f27x24_f27e12 {R : Type} (call : Bool → CallF R) (dem : Bool) (N : Nat) (y0 : Option (Nat × Nat)) (y1 : Int) (y2 : Int) (y3 : Bool) (J : KF R) (σ : St) : runK Try.prog call dem N f27c24 f27a24 J (f27e12 y0 y1 y2 y3) σ = if y3 = true then runK Try.prog call dem N f27c25 f27a25 (condC f27a24 J) (f27e12 y0 y1 y2 y3) σ else runK Try.prog call dem N f27c26 f27a26 (condC f27a24 J) (f27e12 y0 y1 y2 y3) σ := runK_cond' (o := Operand.tmp (25 : Nat)) (by kernel_rfl) (by kernel_rfl) (by kernel_rfl) (by kernel_rfl)
theorem f27r25_f27e12 {R : Type} (call : Bool → CallF R) (dem : Bool) (N : Nat) (y0 : Option (Nat × Nat)) (y1 : Int) (y2 : Int) (y3 : Bool) (J : KF R) (σ : St) :
    runK Try.prog call dem N f27c25 f27a25 J (f27e12 y0 y1 y2 y3) σ =
J Ex.normal (f27e12 y0 y1 (4096 : Int) y3) σ := hide (by kernel_rfl)
theorem f27z24_f27e12 (y0 : Option (Nat × Nat)) (y1 : Int) (y2 : Int) (y3 : Bool) : Ann.clr f27a24 (f27e12 y0 y1 y2 y3) = f27e10 y0 y1 y2 := hide (by kernel_rfl)
theorem f27n26 {R : Type} (call : Bool → CallF R) (dem : Bool) (N : Nat) (J : KF R) (e : Env) (σ : St) : runK Try.prog call dem N f27c26 f27a26 J e σ = J .normal e σ := runK_skip' (by kernel_rfl)
theorem f27z20_f27e10 (y0 : Option (Nat × Nat)) (y1 : Int) (y2 : Int) : Ann.clr f27a20 (f27e10 y0 y1 y2) = f27e10 y0 y1 y2 := hide (by kernel_rfl)
theorem f27n22 {R : Type} (call : Bool → CallF R) (dem : Bool) (N : Nat) (J : KF R) (e : Env) (σ : St) : runK Try.prog call dem N f27c22 f27a22 J e σ = runK Try.prog call dem N f27c27 f27a27 (seqC (fun K e σ => runK Try.prog call dem N f27c28 f27a28 K e σ) f27a22 J) e σ := runK_seq' (by kernel_rfl) (by kernel_rfl) (by kernel_rfl)
theorem f27r27_f27e10 {R : Type} (call : Bool → CallF R) (dem : Bool) (N : Nat) (y0 : Option (Nat × Nat)) (y1 : Int) (y2 : Int) (J : KF R) (σ : St) :
    runK Try.prog call dem N f27c27 f27a27 J (f27e10 y0 y1 y2) σ =
call dem (25 : Nat) [AV.ptr y0, AV.int IntKind.i64 y1, AV.int IntKind.i64 y2] σ fun v0 v1 =>
  Option.bind (AV.toInt IntKind.i64 v0) fun v2 => J Ex.normal (f27e13 y0 y1 y2 y0 y1 y2 v2) v1 := hide (by kernel_rfl)
theorem f27z22_f27e13 (y0 : Option (Nat × Nat)) (y1 : Int) (y2 : Int) (y3 : Option (Nat × Nat)) (y4 : Int) (y5 : Int) (y6 : Int) : Ann.clr f27a22 (f27e13 y0 y1 y2 y3 y4 y5 y6) = f27e14 y2 := hide (by kernel_rfl)
theorem f27n28 {R : Type} (call : Bool → CallF R) (dem : Bool) (N : Nat) (J : KF R) (e : Env) (σ : St) : runK Try.prog call dem N f27c28 f27a28 J e σ = runK Try.prog call dem N f27c29 f27a29 (seqC (fun K e σ => runK Try.prog call dem N f27c30 f27a30 K e σ) f27a28 J) e σ := runK_seq' (by kernel_rfl) (by kernel_rfl) (by kernel_rfl)
theorem f27r29_f27e14 {R : Type} (call : Bool → CallF R) (dem : Bool) (N : Nat) (y0 : Int) (J : KF R) (σ : St) :
    runK Try.prog call dem N f27c29 f27a29 J (f27e14 y0) σ =
J Ex.normal (f27e15 y0 (0 : Int) y0 y0) σ := hide (by kernel_rfl)
theorem f27z28_f27e15 (y0 : Int) (y1 : Int) (y2 : Int) (y3 : Int) : Ann.clr f27a28 (f27e15 y0 y1 y2 y3) = f27e5 y0 y1 := hide (by kernel_rfl)
theorem f27y30_f27e5 {R : Type} (call : Bool → CallF R) (dem : Bool) (N : Nat) (y0 : Int) (y1 : Int) (J : KF R) (σ : St) : runK Try.prog call dem N f27c30 f27a30 J (f27e5 y0 y1) σ = J .ret (f27e5 y0 y1) σ := runK_ret' (by kernel_rfl) (by kernel_rfl)
theorem f27b_f27e5_r {R : Type} (y0 : Int) (y1 : Int) (σ : St) (K : AV → St → Option R) : bodyC Try.prog f27rs K (Ex.ret) (f27e5 y0 y1) σ =
K (AV.tuple [AV.int IntKind.i64 y0, AV.int IntKind.i64 y1]) σ := hide (by kernel_rfl)
attribute [go_sem] f27_eq f27n0 f27r1_f27e0 f27z0_f27e1 f27n2 f27n3 f27r5_f27e0 f27z3_f27e2 f27x6_f27e3 f27n7 f27r9_f27e3 f27z7_f27e4 f27y10_f27e5 f27n8 f27z6_f27e3 f27z2_f27e0 f27n4 f27n11 f27r13_f27e0 f27z11_f27e6 f27x14_f27e7 f27n15 f27r17_f27e7 f27z15_f27e8 f27y18_f27e5 f27n16 f27z14_f27e7 f27z4_f27e0 f27n12 f27r19_f27e0 f27z12_f27e9 f27n20 f27n21 f27r23_f27e10 f27z21_f27e11 f27x24_f27e12 f27r25_f27e12 f27z24_f27e12 f27n26 f27z20_f27e10 f27n22 f27r27_f27e10 f27z22_f27e13 f27n28 f27r29_f27e14 f27z28_f27e15 f27y30_f27e5 f27b_f27e5_r

noncomputable def f28rs : List ResultVar := [ResultVar.tmp (4 : Nat), ResultVar.tmp (5 : Nat)]
noncomputable def f28c0 : Code := subCode [] (bodyOf Try.prog 28)
def f28a0 : Ann := subAnn [] ann28
noncomputable def f28c1 : Code := subCode [0] (bodyOf Try.prog 28)
def f28a1 : Ann := subAnn [0] ann28
noncomputable def f28c2 : Code := subCode [1] (bodyOf Try.prog 28)
def f28a2 : Ann := subAnn [1] ann28
noncomputable def f28c3 : Code := subCode [1, 0] (bodyOf Try.prog 28)
def f28a3 : Ann := subAnn [1, 0] ann28
noncomputable def f28c4 : Code := subCode [1, 1] (bodyOf Try.prog 28)
def f28a4 : Ann := subAnn [1, 1] ann28
noncomputable def f28c5 : Code := subCode [1, 0, 0] (bodyOf Try.prog 28)
def f28a5 : Ann := subAnn [1, 0, 0] ann28
noncomputable def f28c6 : Code := subCode [1, 0, 1] (bodyOf Try.prog 28)
def f28a6 : Ann := subAnn [1, 0, 1] ann28
noncomputable def f28c7 : Code := subCode [1, 0, 1, 0] (bodyOf Try.prog 28)
def f28a7 : Ann := subAnn [1, 0, 1, 0] ann28
noncomputable def f28c8 : Code := subCode [1, 0, 1, 1] (bodyOf Try.prog 28)
def f28a8 : Ann := subAnn [1, 0, 1, 1] ann28
noncomputable def f28c9 : Code := subCode [1, 0, 1, 0, 0] (bodyOf Try.prog 28)
def f28a9 : Ann := subAnn [1, 0, 1, 0, 0] ann28
noncomputable def f28c10 : Code := subCode [1, 0, 1, 0, 1] (bodyOf Try.prog 28)
def f28a10 : Ann := subAnn [1, 0, 1, 0, 1] ann28
noncomputable def f28c11 : Code := subCode [1, 1, 0] (bodyOf Try.prog 28)
def f28a11 : Ann := subAnn [1, 1, 0] ann28
noncomputable def f28c12 : Code := subCode [1, 1, 1] (bodyOf Try.prog 28)
def f28a12 : Ann := subAnn [1, 1, 1] ann28
noncomputable def f28c13 : Code := subCode [1, 1, 0, 0] (bodyOf Try.prog 28)
def f28a13 : Ann := subAnn [1, 1, 0, 0] ann28
noncomputable def f28c14 : Code := subCode [1, 1, 0, 1] (bodyOf Try.prog 28)
def f28a14 : Ann := subAnn [1, 1, 0, 1] ann28
noncomputable def f28c15 : Code := subCode [1, 1, 0, 1, 0] (bodyOf Try.prog 28)
def f28a15 : Ann := subAnn [1, 1, 0, 1, 0] ann28
noncomputable def f28c16 : Code := subCode [1, 1, 0, 1, 1] (bodyOf Try.prog 28)
def f28a16 : Ann := subAnn [1, 1, 0, 1, 1] ann28
noncomputable def f28c17 : Code := subCode [1, 1, 0, 1, 0, 0] (bodyOf Try.prog 28)
def f28a17 : Ann := subAnn [1, 1, 0, 1, 0, 0] ann28
noncomputable def f28c18 : Code := subCode [1, 1, 0, 1, 0, 1] (bodyOf Try.prog 28)
def f28a18 : Ann := subAnn [1, 1, 0, 1, 0, 1] ann28
noncomputable def f28c19 : Code := subCode [1, 1, 1, 0] (bodyOf Try.prog 28)
def f28a19 : Ann := subAnn [1, 1, 1, 0] ann28
noncomputable def f28c20 : Code := subCode [1, 1, 1, 1] (bodyOf Try.prog 28)
def f28a20 : Ann := subAnn [1, 1, 1, 1] ann28
noncomputable def f28c21 : Code := subCode [1, 1, 1, 1, 0] (bodyOf Try.prog 28)
def f28a21 : Ann := subAnn [1, 1, 1, 1, 0] ann28
noncomputable def f28c22 : Code := subCode [1, 1, 1, 1, 1] (bodyOf Try.prog 28)
def f28a22 : Ann := subAnn [1, 1, 1, 1, 1] ann28
noncomputable def f28c23 : Code := subCode [1, 1, 1, 1, 1, 0] (bodyOf Try.prog 28)
def f28a23 : Ann := subAnn [1, 1, 1, 1, 1, 0] ann28
noncomputable def f28c24 : Code := subCode [1, 1, 1, 1, 1, 1] (bodyOf Try.prog 28)
def f28a24 : Ann := subAnn [1, 1, 1, 1, 1, 1] ann28
noncomputable def f28c25 : Code := subCode [1, 1, 1, 1, 1, 0, 0] (bodyOf Try.prog 28)
def f28a25 : Ann := subAnn [1, 1, 1, 1, 1, 0, 0] ann28
noncomputable def f28c26 : Code := subCode [1, 1, 1, 1, 1, 0, 0, 0] (bodyOf Try.prog 28)
def f28a26 : Ann := subAnn [1, 1, 1, 1, 1, 0, 0, 0] ann28
noncomputable def f28c27 : Code := subCode [1, 1, 1, 1, 1, 0, 0, 0, 0] (bodyOf Try.prog 28)
def f28a27 : Ann := subAnn [1, 1, 1, 1, 1, 0, 0, 0, 0] ann28
noncomputable def f28c28 : Code := subCode [1, 1, 1, 1, 1, 0, 0, 0, 1] (bodyOf Try.prog 28)
def f28a28 : Ann := subAnn [1, 1, 1, 1, 1, 0, 0, 0, 1] ann28
noncomputable def f28c29 : Code := subCode [1, 1, 1, 1, 1, 0, 0, 0, 0, 0] (bodyOf Try.prog 28)
def f28a29 : Ann := subAnn [1, 1, 1, 1, 1, 0, 0, 0, 0, 0] ann28
noncomputable def f28c30 : Code := subCode [1, 1, 1, 1, 1, 0, 0, 0, 0, 1] (bodyOf Try.prog 28)
def f28a30 : Ann := subAnn [1, 1, 1, 1, 1, 0, 0, 0, 0, 1] ann28
noncomputable def f28c31 : Code := subCode [1, 1, 1, 1, 1, 0, 0, 0, 0, 1, 0] (bodyOf Try.prog 28)
def f28a31 : Ann := subAnn [1, 1, 1, 1, 1, 0, 0, 0, 0, 1, 0] ann28
noncomputable def f28c32 : Code := subCode [1, 1, 1, 1, 1, 0, 0, 0, 0, 1, 1] (bodyOf Try.prog 28)
def f28a32 : Ann := subAnn [1, 1, 1, 1, 1, 0, 0, 0, 0, 1, 1] ann28
noncomputable def f28c33 : Code := subCode [1, 1, 1, 1, 1, 0, 0, 0, 1, 0] (bodyOf Try.prog 28)
def f28a33 : Ann := subAnn [1, 1, 1, 1, 1, 0, 0, 0, 1, 0] ann28
noncomputable def f28c34 : Code := subCode [1, 1, 1, 1, 1, 0, 0, 0, 1, 0, 0] (bodyOf Try.prog 28)
def f28a34 : Ann := subAnn [1, 1, 1, 1, 1, 0, 0, 0, 1, 0, 0] ann28
noncomputable def f28c35 : Code := subCode [1, 1, 1, 1, 1, 0, 0, 0, 1, 0, 1] (bodyOf Try.prog 28)
def f28a35 : Ann := subAnn [1, 1, 1, 1, 1, 0, 0, 0, 1, 0, 1] ann28
noncomputable def f28c36 : Code := subCode [1, 1, 1, 1, 1, 0, 0, 0, 1, 0, 1, 0] (bodyOf Try.prog 28)
def f28a36 : Ann := subAnn [1, 1, 1, 1, 1, 0, 0, 0, 1, 0, 1, 0] ann28
noncomputable def f28c37 : Code := subCode [1, 1, 1, 1, 1, 0, 0, 0, 1, 0, 1, 1] (bodyOf Try.prog 28)
def f28a37 : Ann := subAnn [1, 1, 1, 1, 1, 0, 0, 0, 1, 0, 1, 1] ann28
noncomputable def f28c38 : Code := subCode [1, 1, 1, 1, 1, 0, 0, 0, 1, 0, 1, 1, 0] (bodyOf Try.prog 28)
def f28a38 : Ann := subAnn [1, 1, 1, 1, 1, 0, 0, 0, 1, 0, 1, 1, 0] ann28
noncomputable def f28c39 : Code := subCode [1, 1, 1, 1, 1, 0, 0, 0, 1, 0, 1, 1, 0, 0] (bodyOf Try.prog 28)
def f28a39 : Ann := subAnn [1, 1, 1, 1, 1, 0, 0, 0, 1, 0, 1, 1, 0, 0] ann28
noncomputable def f28c40 : Code := subCode [1, 1, 1, 1, 1, 0, 0, 0, 1, 0, 1, 1, 0, 0, 0] (bodyOf Try.prog 28)
def f28a40 : Ann := subAnn [1, 1, 1, 1, 1, 0, 0, 0, 1, 0, 1, 1, 0, 0, 0] ann28
noncomputable def f28c41 : Code := subCode [1, 1, 1, 1, 1, 0, 0, 0, 1, 0, 1, 1, 0, 0, 1] (bodyOf Try.prog 28)
def f28a41 : Ann := subAnn [1, 1, 1, 1, 1, 0, 0, 0, 1, 0, 1, 1, 0, 0, 1] ann28
noncomputable def f28c42 : Code := subCode [1, 1, 1, 1, 1, 0, 0, 0, 1, 0, 1, 1, 0, 0, 0, 0] (bodyOf Try.prog 28)
def f28a42 : Ann := subAnn [1, 1, 1, 1, 1, 0, 0, 0, 1, 0, 1, 1, 0, 0, 0, 0] ann28
noncomputable def f28c43 : Code := subCode [1, 1, 1, 1, 1, 0, 0, 0, 1, 0, 1, 1, 0, 0, 0, 1] (bodyOf Try.prog 28)
def f28a43 : Ann := subAnn [1, 1, 1, 1, 1, 0, 0, 0, 1, 0, 1, 1, 0, 0, 0, 1] ann28
noncomputable def f28c44 : Code := subCode [1, 1, 1, 1, 1, 0, 0, 0, 1, 0, 1, 1, 0, 0, 0, 1, 0] (bodyOf Try.prog 28)
def f28a44 : Ann := subAnn [1, 1, 1, 1, 1, 0, 0, 0, 1, 0, 1, 1, 0, 0, 0, 1, 0] ann28
noncomputable def f28c45 : Code := subCode [1, 1, 1, 1, 1, 0, 0, 0, 1, 0, 1, 1, 0, 0, 0, 1, 1] (bodyOf Try.prog 28)
def f28a45 : Ann := subAnn [1, 1, 1, 1, 1, 0, 0, 0, 1, 0, 1, 1, 0, 0, 0, 1, 1] ann28
noncomputable def f28c46 : Code := subCode [1, 1, 1, 1, 1, 0, 0, 0, 1, 0, 1, 1, 0, 0, 1, 0] (bodyOf Try.prog 28)
def f28a46 : Ann := subAnn [1, 1, 1, 1, 1, 0, 0, 0, 1, 0, 1, 1, 0, 0, 1, 0] ann28
noncomputable def f28c47 : Code := subCode [1, 1, 1, 1, 1, 0, 0, 0, 1, 0, 1, 1, 0, 0, 1, 1] (bodyOf Try.prog 28)
def f28a47 : Ann := subAnn [1, 1, 1, 1, 1, 0, 0, 0, 1, 0, 1, 1, 0, 0, 1, 1] ann28
noncomputable def f28c48 : Code := subCode [1, 1, 1, 1, 1, 0, 0, 0, 1, 0, 1, 1, 0, 0, 1, 0, 0] (bodyOf Try.prog 28)
def f28a48 : Ann := subAnn [1, 1, 1, 1, 1, 0, 0, 0, 1, 0, 1, 1, 0, 0, 1, 0, 0] ann28
noncomputable def f28c49 : Code := subCode [1, 1, 1, 1, 1, 0, 0, 0, 1, 0, 1, 1, 0, 0, 1, 0, 0, 0] (bodyOf Try.prog 28)
def f28a49 : Ann := subAnn [1, 1, 1, 1, 1, 0, 0, 0, 1, 0, 1, 1, 0, 0, 1, 0, 0, 0] ann28
noncomputable def f28c50 : Code := subCode [1, 1, 1, 1, 1, 0, 0, 0, 1, 0, 1, 1, 0, 0, 1, 0, 0, 1] (bodyOf Try.prog 28)
def f28a50 : Ann := subAnn [1, 1, 1, 1, 1, 0, 0, 0, 1, 0, 1, 1, 0, 0, 1, 0, 0, 1] ann28
noncomputable def f28c51 : Code := subCode [1, 1, 1, 1, 1, 0, 0, 0, 1, 0, 1, 1, 0, 0, 1, 0, 0, 1, 0] (bodyOf Try.prog 28)
def f28a51 : Ann := subAnn [1, 1, 1, 1, 1, 0, 0, 0, 1, 0, 1, 1, 0, 0, 1, 0, 0, 1, 0] ann28
noncomputable def f28c52 : Code := subCode [1, 1, 1, 1, 1, 0, 0, 0, 1, 0, 1, 1, 0, 0, 1, 0, 0, 1, 1] (bodyOf Try.prog 28)
def f28a52 : Ann := subAnn [1, 1, 1, 1, 1, 0, 0, 0, 1, 0, 1, 1, 0, 0, 1, 0, 0, 1, 1] ann28
noncomputable def f28c53 : Code := subCode [1, 1, 1, 1, 1, 0, 0, 0, 1, 0, 1, 1, 0, 0, 1, 0, 0, 1, 0, 0] (bodyOf Try.prog 28)
def f28a53 : Ann := subAnn [1, 1, 1, 1, 1, 0, 0, 0, 1, 0, 1, 1, 0, 0, 1, 0, 0, 1, 0, 0] ann28
noncomputable def f28c54 : Code := subCode [1, 1, 1, 1, 1, 0, 0, 0, 1, 0, 1, 1, 0, 0, 1, 0, 0, 1, 0, 1] (bodyOf Try.prog 28)
def f28a54 : Ann := subAnn [1, 1, 1, 1, 1, 0, 0, 0, 1, 0, 1, 1, 0, 0, 1, 0, 0, 1, 0, 1] ann28
noncomputable def f28c55 : Code := subCode [1, 1, 1, 1, 1, 1, 0] (bodyOf Try.prog 28)
def f28a55 : Ann := subAnn [1, 1, 1, 1, 1, 1, 0] ann28
noncomputable def f28c56 : Code := subCode [1, 1, 1, 1, 1, 1, 1] (bodyOf Try.prog 28)
def f28a56 : Ann := subAnn [1, 1, 1, 1, 1, 1, 1] ann28
noncomputable def f28L25 {R : Type} (call : Bool → CallF R) (dem : Bool) (N : Nat) : KF R → Env → St → Option R := fun K e σ => runK Try.prog call dem N f28c26 f28a26 K e σ
noncomputable def f28L38 {R : Type} (call : Bool → CallF R) (dem : Bool) (N : Nat) : KF R → Env → St → Option R := fun K e σ => runK Try.prog call dem N f28c39 f28a39 K e σ
def f28e0 (y0 : Option (Nat × Nat)) (y1 : Int) : Env := AV.ptr y0 :: AV.int IntKind.i64 y1 :: Env.sp 65 []
def f28e1 (y0 : Option (Nat × Nat)) (y1 : Int) (y2 : Option (Nat × Nat)) (y3 : Nat) (y4 : Option Nat) (y5 : Int) : Env := AV.ptr y0 :: AV.int IntKind.i64 y1 :: Env.sp 2 (AV.slice y2 y3 y4 (1 : Nat) :: AV.int IntKind.i64 y5 :: Env.sp 61 [])
def f28e2 (y0 : Option (Nat × Nat)) (y1 : Int) (y2 : Int) (y3 : Bool) (y4 : Bool) (y5 : Bool) : Env := AV.ptr y0 :: AV.int IntKind.i64 y1 :: Env.sp 7 (AV.int IntKind.i64 y2 :: AV.bool y3 :: AV.bool y4 :: AV.tuple [] :: AV.tuple [] :: AV.bool y5 :: Env.sp 52 [])
def f28e3 (y0 : Option (Nat × Nat)) (y1 : Int) (y2 : Int) (y3 : Bool) (y4 : Bool) (y5 : Int) (y6 : Bool) (y7 : Bool) : Env := AV.ptr y0 :: AV.int IntKind.i64 y1 :: Env.sp 7 (AV.int IntKind.i64 y2 :: AV.bool y3 :: AV.bool y4 :: AV.int IntKind.i64 y5 :: AV.bool y6 :: AV.bool y7 :: Env.sp 52 [])
def f28e4 (y0 : Option (Nat × Nat)) (y1 : Int) (y2 : Bool) : Env := AV.ptr y0 :: AV.int IntKind.i64 y1 :: Env.sp 12 (AV.bool y2 :: Env.sp 52 [])
def f28e5 (y0 : Option (Nat × Nat)) (y1 : Int) (y2 : Option (Nat × Nat)) (y3 : Nat) (y4 : Option Nat) (y5 : Int) (y6 : Bool) : Env := AV.ptr y0 :: AV.int IntKind.i64 y1 :: Env.sp 2 (AV.slice y2 y3 y4 (1 : Nat) :: AV.int IntKind.i64 y5 :: Env.sp 8 (AV.bool y6 :: Env.sp 52 []))
def f28e6 (y0 : Option (Nat × Nat)) (y1 : Nat) (y2 : Option Nat) (y3 : Int) : Env := Env.sp 4 (AV.slice y0 y1 y2 (1 : Nat) :: AV.int IntKind.i64 y3 :: Env.sp 61 [])
def f28e7 (y0 : Option (Nat × Nat)) (y1 : Int) (y2 : Option (Nat × Nat)) (y3 : Option (Nat × Nat)) (y4 : Option (Nat × Nat)) (y5 : Int) (y6 : Int) (y7 : Int) (y8 : Bool) : Env := AV.ptr y0 :: AV.int IntKind.i64 y1 :: Env.sp 13 (AV.ptr y2 :: AV.ptr y3 :: AV.ptr y4 :: AV.int IntKind.i64 y5 :: AV.int IntKind.i64 y6 :: AV.int IntKind.i64 y7 :: AV.bool y8 :: Env.sp 45 [])
def f28e8 (y0 : Option (Nat × Nat)) (y1 : Int) (y2 : Bool) : Env := AV.ptr y0 :: AV.int IntKind.i64 y1 :: Env.sp 19 (AV.bool y2 :: Env.sp 45 [])
def f28e9 (y0 : Option (Nat × Nat)) (y1 : Int) (y2 : Option (Nat × Nat)) (y3 : Nat) (y4 : Option Nat) (y5 : Int) (y6 : Bool) : Env := AV.ptr y0 :: AV.int IntKind.i64 y1 :: Env.sp 2 (AV.slice y2 y3 y4 (1 : Nat) :: AV.int IntKind.i64 y5 :: Env.sp 15 (AV.bool y6 :: Env.sp 45 []))
def f28e10 (y0 : Option (Nat × Nat)) (y1 : Int) (y2 : Option (Nat × Nat)) (y3 : Option (Nat × Nat)) (y4 : Option (Nat × Nat)) (y5 : Option (Nat × Nat)) (y6 : Int) (y7 : Int) (y8 : Int) (y9 : Option (Nat × Nat)) (y10 : Option (Nat × Nat)) : Env := AV.ptr y0 :: AV.int IntKind.i64 y1 :: Env.sp 20 (AV.ptr y2 :: AV.ptr y3 :: AV.ptr y4 :: AV.ptr y5 :: AV.int IntKind.i64 y6 :: AV.int IntKind.i64 y7 :: AV.int IntKind.i64 y8 :: AV.ptr y9 :: AV.ptr y10 :: Env.sp 36 [])
def f28e11 (y0 : Option (Nat × Nat)) : Env := AV.ptr y0 :: Env.sp 66 []
def f28e12 (y0 : Option (Nat × Nat)) (y1 : Option (Nat × Nat)) (y2 : Nat) (y3 : Option Nat) : Env := AV.ptr y0 :: Env.sp 5 (AV.slice y1 y2 y3 (1 : Nat) :: Env.sp 60 [])
def f28e13 (y0 : Option (Nat × Nat)) (y1 : Option (Nat × Nat)) (y2 : Nat) (y3 : Option Nat) (y4 : Option (Nat × Nat)) (y5 : Int) (y6 : Bool) (y7 : Bool) (y8 : Option (Nat × Nat)) (y9 : Int) (y10 : Option (Nat × Nat)) (y11 : Option (Nat × Nat)) (y12 : Option (Nat × Nat)) (y13 : Int) (y14 : Bool) (y15 : Bool) : Env := AV.ptr y0 :: Env.sp 5 (AV.slice y1 y2 y3 (1 : Nat) :: Env.sp 24 (AV.ptr y4 :: AV.int IntKind.i64 y5 :: AV.bool y6 :: AV.bool y7 :: AV.ptr y8 :: AV.int IntKind.i64 y9 :: AV.ptr y10 :: AV.ptr y11 :: AV.ptr y12 :: AV.int IntKind.i64 y13 :: AV.bool y14 :: AV.bool y15 :: Env.sp 24 []))
def f28e14 (y0 : Option (Nat × Nat)) (y1 : Option (Nat × Nat)) (y2 : Nat) (y3 : Option Nat) (y4 : Option (Nat × Nat)) (y5 : Int) (y6 : Bool) (y7 : Bool) (y8 : Bool) : Env := AV.ptr y0 :: Env.sp 5 (AV.slice y1 y2 y3 (1 : Nat) :: Env.sp 24 (AV.ptr y4 :: AV.int IntKind.i64 y5 :: AV.bool y6 :: AV.bool y7 :: AV.tuple [] :: AV.tuple [] :: AV.tuple [] :: AV.tuple [] :: AV.tuple [] :: AV.tuple [] :: AV.tuple [] :: AV.bool y8 :: Env.sp 24 []))
def f28e15 (y0 : Option (Nat × Nat)) (y1 : Option (Nat × Nat)) (y2 : Nat) (y3 : Option Nat) (y4 : Bool) : Env := AV.ptr y0 :: Env.sp 5 (AV.slice y1 y2 y3 (1 : Nat) :: Env.sp 35 (AV.bool y4 :: Env.sp 24 []))
def f28e16 (y0 : Option (Nat × Nat)) (y1 : Nat) (y2 : Option Nat) : Env := Env.sp 6 (AV.slice y0 y1 y2 (1 : Nat) :: Env.sp 60 [])
def f28e17 (y0 : Option (Nat × Nat)) (y1 : Option (Nat × Nat)) (y2 : Nat) (y3 : Option Nat) (y4 : Int) (y5 : Option (Nat × Nat)) (y6 : Int) : Env := AV.ptr y0 :: Env.sp 5 (AV.slice y1 y2 y3 (1 : Nat) :: AV.int IntKind.i64 y4 :: Env.sp 35 (AV.ptr y5 :: AV.int IntKind.i64 y6 :: Env.sp 22 []))
def f28e18 (y0 : Option (Nat × Nat)) (y1 : Option (Nat × Nat)) (y2 : Nat) (y3 : Option Nat) (y4 : Int) : Env := AV.ptr y0 :: Env.sp 5 (AV.slice y1 y2 y3 (1 : Nat) :: AV.int IntKind.i64 y4 :: Env.sp 59 [])
def f28e19 (y0 : Option (Nat × Nat)) (y1 : Option (Nat × Nat)) (y2 : Nat) (y3 : Option Nat) (y4 : Int) (y5 : Int) : Env := AV.ptr y0 :: Env.sp 5 (AV.slice y1 y2 y3 (1 : Nat) :: AV.int IntKind.i64 y4 :: AV.int IntKind.i64 y5 :: Env.sp 58 [])
def f28e20 (y0 : Option (Nat × Nat)) (y1 : Option (Nat × Nat)) (y2 : Nat) (y3 : Option Nat) (y4 : Int) (y5 : Int) (y6 : Int) (y7 : Bool) : Env := AV.ptr y0 :: Env.sp 5 (AV.slice y1 y2 y3 (1 : Nat) :: AV.int IntKind.i64 y4 :: AV.int IntKind.i64 y5 :: Env.sp 36 (AV.int IntKind.i64 y6 :: AV.bool y7 :: Env.sp 20 []))
def f28e21 (y0 : Option (Nat × Nat)) (y1 : Option (Nat × Nat)) (y2 : Nat) (y3 : Option Nat) (y4 : Int) (y5 : Int) (y6 : Bool) : Env := AV.ptr y0 :: Env.sp 5 (AV.slice y1 y2 y3 (1 : Nat) :: AV.int IntKind.i64 y4 :: AV.int IntKind.i64 y5 :: Env.sp 37 (AV.bool y6 :: Env.sp 20 []))
def f28e22 (y0 : Option (Nat × Nat)) (y1 : Option (Nat × Nat)) (y2 : Nat) (y3 : Option Nat) (y4 : Int) (y5 : Int) (y6 : Option (Nat × Nat)) (y7 : Int) (y8 : Option (Nat × Nat)) (y9 : Option (Nat × Nat)) (y10 : Option (Nat × Nat)) (y11 : Int) (y12 : Int) (y13 : Bool) : Env := AV.ptr y0 :: Env.sp 5 (AV.slice y1 y2 y3 (1 : Nat) :: AV.int IntKind.i64 y4 :: AV.int IntKind.i64 y5 :: Env.sp 40 (AV.ptr y6 :: AV.int IntKind.i64 y7 :: AV.ptr y8 :: AV.ptr y9 :: AV.ptr y10 :: AV.int IntKind.i64 y11 :: AV.int IntKind.i64 y12 :: AV.bool y13 :: Env.sp 10 []))
def f28e23 (y0 : Option (Nat × Nat)) (y1 : Option (Nat × Nat)) (y2 : Nat) (y3 : Option Nat) (y4 : Int) (y5 : Int) (y6 : Bool) : Env := AV.ptr y0 :: Env.sp 5 (AV.slice y1 y2 y3 (1 : Nat) :: AV.int IntKind.i64 y4 :: AV.int IntKind.i64 y5 :: Env.sp 47 (AV.bool y6 :: Env.sp 10 []))
def f28e24 (y0 : Option (Nat × Nat)) (y1 : Option (Nat × Nat)) (y2 : Nat) (y3 : Option Nat) (y4 : Int) (y5 : Int) (y6 : Bool) (y7 : Option (Nat × Nat)) (y8 : Nat) (y9 : Option Nat) (y10 : Int) (y11 : Option (Nat × Nat)) (y12 : Nat) (y13 : Option Nat) (y14 : Option (Nat × Nat)) (y15 : Nat) (y16 : Option Nat) : Env := AV.ptr y0 :: Env.sp 5 (AV.slice y1 y2 y3 (1 : Nat) :: AV.int IntKind.i64 y4 :: AV.int IntKind.i64 y5 :: Env.sp 47 (AV.bool y6 :: AV.slice y7 y8 y9 (1 : Nat) :: AV.int IntKind.i64 y10 :: AV.slice y11 y12 y13 (1 : Nat) :: AV.slice y14 y15 y16 (1 : Nat) :: Env.sp 6 []))
def f28e25 (y0 : Option (Nat × Nat)) (y1 : Option (Nat × Nat)) (y2 : Nat) (y3 : Option Nat) (y4 : Int) (y5 : Int) (y6 : Option (Nat × Nat)) (y7 : Int) (y8 : Option (Nat × Nat)) (y9 : Option (Nat × Nat)) (y10 : Option (Nat × Nat)) : Env := AV.ptr y0 :: Env.sp 5 (AV.slice y1 y2 y3 (1 : Nat) :: AV.int IntKind.i64 y4 :: AV.int IntKind.i64 y5 :: Env.sp 52 (AV.ptr y6 :: AV.int IntKind.i64 y7 :: AV.ptr y8 :: AV.ptr y9 :: AV.ptr y10 :: Env.sp 1 []))
def f28e26 (y0 : Option (Nat × Nat)) (y1 : Option (Nat × Nat)) (y2 : Nat) (y3 : Option Nat) (y4 : Int) (y5 : Int) (y6 : Int) (y7 : Int) : Env := AV.ptr y0 :: Env.sp 5 (AV.slice y1 y2 y3 (1 : Nat) :: AV.int IntKind.i64 y4 :: AV.int IntKind.i64 y5 :: Env.sp 38 (AV.int IntKind.i64 y6 :: AV.int IntKind.i64 y7 :: Env.sp 18 []))
def f28e27 (y0 : Option (Nat × Nat)) (y1 : Nat) (y2 : Option Nat) (y3 : Int) (y4 : Option (Nat × Nat)) (y5 : Nat) (y6 : Option Nat) (y7 : Option (Nat × Nat)) (y8 : Nat) (y9 : Option Nat) : Env := Env.sp 4 (AV.slice y0 y1 y2 (1 : Nat) :: AV.int IntKind.i64 y3 :: AV.slice y4 y5 y6 (1 : Nat) :: Env.sp 59 (AV.slice y7 y8 y9 (1 : Nat) :: []))

/- function 28 -/
theorem f28_eq {R : Type} (call : Bool → CallF R) (dem : Bool) (N : Nat) (y0 : Option (Nat × Nat)) (y1 : Int) (σ : St) (K : AV → St → Option R) :
    bodyK Try.prog call dem N ann 28 [AV.ptr y0, AV.int IntKind.i64 y1] σ K = runK Try.prog call dem N f28c0 f28a0 (bodyC Try.prog f28rs K) (f28e0 y0 y1) σ := bodyK_of (fn := ((Try.prog.funcs[28]?).get rfl)) (by kernel_rfl) (by kernel_rfl) (by kernel_rfl) (by kernel_rfl) (by kernel_rfl) (by kernel_rfl)
theorem f28n0 {R : Type} (call : Bool → CallF R) (dem : Bool) (N : Nat) (J : KF R) (e : Env) (σ : St) : runK Try.prog call dem N f28c0 f28a0 J e σ = runK Try.prog call dem N f28c1 f28a1 (seqC (fun K e σ => runK Try.prog call dem N f28c2 f28a2 K e σ) f28a0 J) e σ := runK_seq' (by kernel_rfl) (by kernel_rfl) (by kernel_rfl)
theorem f28r1_f28e0 {R : Type} (call : Bool → CallF R) (dem : Bool) (N : Nat) (y0 : Option (Nat × Nat)) (y1 : Int) (J : KF R) (σ : St) :
    runK Try.prog call dem N f28c1 f28a1 J (f28e0 y0 y1) σ =
J Ex.normal (f28e1 y0 y1 none (0 : Nat) (some (0 : Nat)) (0 : Int)) σ := hide (by kernel_rfl)
theorem f28z0_f28e1 (y0 : Option (Nat × Nat)) (y1 : Int) (y2 : Option (Nat × Nat)) (y3 : Nat) (y4 : Option Nat) (y5 : Int) : Ann.clr f28a0 (f28e1 y0 y1 y2 y3 y4 y5) = f28e0 y0 y1 := hide (by kernel_rfl)
theorem f28n2 {R : Type} (call : Bool → CallF R) (dem : Bool) (N : Nat) (J : KF R) (e : Env) (σ : St) : runK Try.prog call dem N f28c2 f28a2 J e σ = runK Try.prog call dem N f28c3 f28a3 (seqC (fun K e σ => runK Try.prog call dem N f28c4 f28a4 K e σ) f28a2 J) e σ := runK_seq' (by kernel_rfl) (by kernel_rfl) (by kernel_rfl)
theorem f28n3 {R : Type} (call : Bool → CallF R) (dem : Bool) (N : Nat) (J : KF R) (e : Env) (σ : St) : runK Try.prog call dem N f28c3 f28a3 J e σ = runK Try.prog call dem N f28c5 f28a5 (seqC (fun K e σ => runK Try.prog call dem N f28c6 f28a6 K e σ) f28a3 J) e σ := runK_seq' (by kernel_rfl) (by kernel_rfl) (by kernel_rfl)
theorem f28r5_f28e0 {R : Type} (call : Bool → CallF R) (dem : Bool) (N : Nat) (y0 : Option (Nat × Nat)) (y1 : Int) (J : KF R) (σ : St) :
    runK Try.prog call dem N f28c5 f28a5 J (f28e0 y0 y1) σ =
if decide (y1 < (0 : Int)) = true then J Ex.normal (f28e2 y0 y1 y1 (decide (y1 < (0 : Int))) true true) σ
else J Ex.normal (f28e3 y0 y1 y1 (decide (y1 < (0 : Int))) false y1 (decide (y1 > (4096 : Int))) (decide (y1 > (4096 : Int)))) σ := hide (by kernel_rfl)
theorem f28z3_f28e2 (y0 : Option (Nat × Nat)) (y1 : Int) (y2 : Int) (y3 : Bool) (y4 : Bool) (y5 : Bool) : Ann.clr f28a3 (f28e2 y0 y1 y2 y3 y4 y5) = f28e4 y0 y1 y5 := hide (by kernel_rfl)
theorem f28x6_f28e4 {R : Type} (call : Bool → CallF R) (dem : Bool) (N : Nat) (y0 : Option (Nat × Nat)) (y1 : Int) (y2 : Bool) (J : KF R) (σ : St) : runK Try.prog call dem N f28c6 f28a6 J (f28e4 y0 y1 y2) σ = if y2 = true then runK Try.prog call dem N f28c7 f28a7 (condC f28a6 J) (f28e4 y0 y1 y2) σ else runK Try.prog call dem N f28c8 f28a8 (condC f28a6 J) (f28e4 y0 y1 y2) σ := runK_cond' (o := Operand.tmp (14 : Nat)) (by kernel_rfl) (by kernel_rfl) (by kernel_rfl) (by kernel_rfl)
theorem f28n7 {R : Type} (call : Bool → CallF R) (dem : Bool) (N : Nat) (J : KF R) (e : Env) (σ : St) : runK Try.prog call dem N f28c7 f28a7 J e σ = runK Try.prog call dem N f28c9 f28a9 (seqC (fun K e σ => runK Try.prog call dem N f28c10 f28a10 K e σ) f28a7 J) e σ := runK_seq' (by kernel_rfl) (by kernel_rfl) (by kernel_rfl)
theorem f28r9_f28e4 {R : Type} (call : Bool → CallF R) (dem : Bool) (N : Nat) (y0 : Option (Nat × Nat)) (y1 : Int) (y2 : Bool) (J : KF R) (σ : St) :
    runK Try.prog call dem N f28c9 f28a9 J (f28e4 y0 y1 y2) σ =
J Ex.normal (f28e5 y0 y1 none (0 : Nat) (some (0 : Nat)) (1 : Int) y2) σ := hide (by kernel_rfl)
theorem f28z7_f28e5 (y0 : Option (Nat × Nat)) (y1 : Int) (y2 : Option (Nat × Nat)) (y3 : Nat) (y4 : Option Nat) (y5 : Int) (y6 : Bool) : Ann.clr f28a7 (f28e5 y0 y1 y2 y3 y4 y5 y6) = f28e6 y2 y3 y4 y5 := hide (by kernel_rfl)
theorem f28y10_f28e6 {R : Type} (call : Bool → CallF R) (dem : Bool) (N : Nat) (y0 : Option (Nat × Nat)) (y1 : Nat) (y2 : Option Nat) (y3 : Int) (J : KF R) (σ : St) : runK Try.prog call dem N f28c10 f28a10 J (f28e6 y0 y1 y2 y3) σ = J .ret (f28e6 y0 y1 y2 y3) σ := runK_ret' (by kernel_rfl) (by kernel_rfl)
theorem f28n8 {R : Type} (call : Bool → CallF R) (dem : Bool) (N : Nat) (J : KF R) (e : Env) (σ : St) : runK Try.prog call dem N f28c8 f28a8 J e σ = J .normal e σ := runK_skip' (by kernel_rfl)
theorem f28z6_f28e4 (y0 : Option (Nat × Nat)) (y1 : Int) (y2 : Bool) : Ann.clr f28a6 (f28e4 y0 y1 y2) = f28e0 y0 y1 := hide (by kernel_rfl)
theorem f28z3_f28e3 (y0 : Option (Nat × Nat)) (y1 : Int) (y2 : Int) (y3 : Bool) (y4 : Bool) (y5 : Int) (y6 : Bool) (y7 : Bool) : Ann.clr f28a3 (f28e3 y0 y1 y2 y3 y4 y5 y6 y7) = f28e4 y0 y1 y7 := hide (by kernel_rfl)
theorem f28z2_f28e0 (y0 : Option (Nat × Nat)) (y1 : Int) : Ann.clr f28a2 (f28e0 y0 y1) = f28e0 y0 y1 := hide (by kernel_rfl)
theorem f28n4 {R : Type} (call : Bool → CallF R) (dem : Bool) (N : Nat) (J : KF R) (e : Env) (σ : St) : runK Try.prog call dem N f28c4 f28a4 J e σ = runK Try.prog call dem N f28c11 f28a11 (seqC (fun K e σ => runK Try.prog call dem N f28c12 f28a12 K e σ) f28a4 J) e σ := runK_seq' (by kernel_rfl) (by kernel_rfl) (by kernel_rfl)
theorem f28n11 {R : Type} (call : Bool → CallF R) (dem : Bool) (N : Nat) (J : KF R) (e : Env) (σ : St) : runK Try.prog call dem N f28c11 f28a11 J e σ = runK Try.prog call dem N f28c13 f28a13 (seqC (fun K e σ => runK Try.prog call dem N f28c14 f28a14 K e σ) f28a11 J) e σ := runK_seq' (by kernel_rfl) (by kernel_rfl) (by kernel_rfl)
theorem f28r13_f28e0 {R : Type} (call : Bool → CallF R) (dem : Bool) (N : Nat) (y0 : Option (Nat × Nat)) (y1 : Int) (J : KF R) (σ : St) :
    runK Try.prog call dem N f28c13 f28a13 J (f28e0 y0 y1) σ =
Option.bind y0 fun v0 =>
  Option.bind (St.ld σ (Prod.fst v0) (Prod.snd v0)) fun v1 =>
    Option.bind (AV.toInt IntKind.i64 v1) fun v2 =>
      J Ex.normal
        (f28e7 y0 y1 y0 (some v0) (some (Prod.fst v0, Prod.snd v0)) v2 y1 (IntKind.wrap IntKind.i64 ((1099511627776 : Int) - y1))
          (decide (v2 > IntKind.wrap IntKind.i64 ((1099511627776 : Int) - y1))))
        σ := hide (by kernel_rfl)
theorem f28z11_f28e7 (y0 : Option (Nat × Nat)) (y1 : Int) (y2 : Option (Nat × Nat)) (y3 : Option (Nat × Nat)) (y4 : Option (Nat × Nat)) (y5 : Int) (y6 : Int) (y7 : Int) (y8 : Bool) : Ann.clr f28a11 (f28e7 y0 y1 y2 y3 y4 y5 y6 y7 y8) = f28e8 y0 y1 y8 := hide (by kernel_rfl)
theorem f28x14_f28e8 {R : Type} (call : Bool → CallF R) (dem : Bool) (N : Nat) (y0 : Option (Nat × Nat)) (y1 : Int) (y2 : Bool) (J : KF R) (σ : St) : runK Try.prog call dem N f28c14 f28a14 J (f28e8 y0 y1 y2) σ = if y2 = true then runK Try.prog call dem N f28c15 f28a15 (condC f28a14 J) (f28e8 y0 y1 y2) σ else runK Try.prog call dem N f28c16 f28a16 (condC f28a14 J) (f28e8 y0 y1 y2) σ := runK_cond' (o := Operand.tmp (21 : Nat)) (by kernel_rfl) (by kernel_rfl) (by kernel_rfl) (by kernel_rfl)
theorem f28n15 {R : Type} (call : Bool → CallF R) (dem : Bool) (N : Nat) (J : KF R) (e : Env) (σ : St) : runK Try.prog call dem N f28c15 f28a15 J e σ = runK Try.prog call dem N f28c17 f28a17 (seqC (fun K e σ => runK Try.prog call dem N f28c18 f28a18 K e σ) f28a15 J) e σ := runK_seq' (by kernel_rfl) (by kernel_rfl) (by kernel_rfl)
theorem f28r17_f28e8 {R : Type} (call : Bool → CallF R) (dem : Bool) (N : Nat) (y0 : Option (Nat × Nat)) (y1 : Int) (y2 : Bool) (J : KF R) (σ : St) :
    runK Try.prog call dem N f28c17 f28a17 J (f28e8 y0 y1 y2) σ =
J Ex.normal (f28e9 y0 y1 none (0 : Nat) (some (0 : Nat)) (2 : Int) y2) σ := hide (by kernel_rfl)
theorem f28z15_f28e9 (y0 : Option (Nat × Nat)) (y1 : Int) (y2 : Option (Nat × Nat)) (y3 : Nat) (y4 : Option Nat) (y5 : Int) (y6 : Bool) : Ann.clr f28a15 (f28e9 y0 y1 y2 y3 y4 y5 y6) = f28e6 y2 y3 y4 y5 := hide (by kernel_rfl)
theorem f28y18_f28e6 {R : Type} (call : Bool → CallF R) (dem : Bool) (N : Nat) (y0 : Option (Nat × Nat)) (y1 : Nat) (y2 : Option Nat) (y3 : Int) (J : KF R) (σ : St) : runK Try.prog call dem N f28c18 f28a18 J (f28e6 y0 y1 y2 y3) σ = J .ret (f28e6 y0 y1 y2 y3) σ := runK_ret' (by kernel_rfl) (by kernel_rfl)
theorem f28n16 {R : Type} (call : Bool → CallF R) (dem : Bool) (N : Nat) (J : KF R) (e : Env) (σ : St) : runK Try.prog call dem N f28c16 f28a16 J e σ = J .normal e σ := runK_skip' (by kernel_rfl)
theorem f28z14_f28e8 (y0 : Option (Nat × Nat)) (y1 : Int) (y2 : Bool) : Ann.clr f28a14 (f28e8 y0 y1 y2) = f28e0 y0 y1 := hide (by kernel_rfl)
theorem f28z4_f28e0 (y0 : Option (Nat × Nat)) (y1 : Int) : Ann.clr f28a4 (f28e0 y0 y1) = f28e0 y0 y1 := hide (by kernel_rfl)
theorem f28n12 {R : Type} (call : Bool → CallF R) (dem : Bool) (N : Nat) (J : KF R) (e : Env) (σ : St) : runK Try.prog call dem N f28c12 f28a12 J e σ = runK Try.prog call dem N f28c19 f28a19 (seqC (fun K e σ => runK Try.prog call dem N f28c20 f28a20 K e σ) f28a12 J) e σ := runK_seq' (by kernel_rfl) (by kernel_rfl) (by kernel_rfl)
theorem f28r19_f28e0 {R : Type} (call : Bool → CallF R) (dem : Bool) (N : Nat) (y0 : Option (Nat × Nat)) (y1 : Int) (J : KF R) (σ : St) :
    runK Try.prog call dem N f28c19 f28a19 J (f28e0 y0 y1) σ =
Option.bind y0 fun v0 =>
  Option.bind (St.ld σ (Prod.fst v0) (Prod.snd v0)) fun v1 =>
    Option.bind (AV.toInt IntKind.i64 v1) fun v2 =>
      Option.bind y0 fun v3 =>
        Option.bind (St.st σ (Prod.fst v3) (Prod.snd v3) [AV.int IntKind.i64 (IntKind.wrap IntKind.i64 (v2 + y1))]) fun v4 =>
          J Ex.normal
            (f28e10 y0 y1 y0 y0 (some v0) (some (Prod.fst v0, Prod.snd v0)) v2 y1 (IntKind.wrap IntKind.i64 (v2 + y1)) (some v3)
              (some (Prod.fst v3, Prod.snd v3)))
            v4 := hide (by kernel_rfl)
theorem f28z12_f28e10 (y0 : Option (Nat × Nat)) (y1 : Int) (y2 : Option (Nat × Nat)) (y3 : Option (Nat × Nat)) (y4 : Option (Nat × Nat)) (y5 : Option (Nat × Nat)) (y6 : Int) (y7 : Int) (y8 : Int) (y9 : Option (Nat × Nat)) (y10 : Option (Nat × Nat)) : Ann.clr f28a12 (f28e10 y0 y1 y2 y3 y4 y5 y6 y7 y8 y9 y10) = f28e11 y0 := hide (by kernel_rfl)
theorem f28n20 {R : Type} (call : Bool → CallF R) (dem : Bool) (N : Nat) (J : KF R) (e : Env) (σ : St) : runK Try.prog call dem N f28c20 f28a20 J e σ = runK Try.prog call dem N f28c21 f28a21 (seqC (fun K e σ => runK Try.prog call dem N f28c22 f28a22 K e σ) f28a20 J) e σ := runK_seq' (by kernel_rfl) (by kernel_rfl) (by kernel_rfl)
theorem f28r21_f28e11 {R : Type} (call : Bool → CallF R) (dem : Bool) (N : Nat) (y0 : Option (Nat × Nat)) (J : KF R) (σ : St) :
    runK Try.prog call dem N f28c21 f28a21 J (f28e11 y0) σ =
J Ex.normal (f28e12 y0 none (0 : Nat) (some (0 : Nat))) σ := hide (by kernel_rfl)
theorem f28z20_f28e12 (y0 : Option (Nat × Nat)) (y1 : Option (Nat × Nat)) (y2 : Nat) (y3 : Option Nat) : Ann.clr f28a20 (f28e12 y0 y1 y2 y3) = f28e12 y0 y1 y2 y3 := hide (by kernel_rfl)
theorem f28n22 {R : Type} (call : Bool → CallF R) (dem : Bool) (N : Nat) (J : KF R) (e : Env) (σ : St) : runK Try.prog call dem N f28c22 f28a22 J e σ = runK Try.prog call dem N f28c23 f28a23 (seqC (fun K e σ => runK Try.prog call dem N f28c24 f28a24 K e σ) f28a22 J) e σ := runK_seq' (by kernel_rfl) (by kernel_rfl) (by kernel_rfl)
theorem f28n23 {R : Type} (call : Bool → CallF R) (dem : Bool) (N : Nat) (J : KF R) (e : Env) (σ : St) : runK Try.prog call dem N f28c23 f28a23 J e σ = runK Try.prog call dem N f28c25 f28a25 (blockC 0 f28a23 J) e σ := runK_block' (by kernel_rfl) (by kernel_rfl)
theorem f28L25_eq {R : Type} (call : Bool → CallF R) (dem : Bool) (N : Nat) (J : KF R) (e : Env) (σ : St) : f28L25 call dem N J e σ = runK Try.prog call dem N f28c26 f28a26 J e σ := hide rfl
theorem f28z25_f28e12 (y0 : Option (Nat × Nat)) (y1 : Option (Nat × Nat)) (y2 : Nat) (y3 : Option Nat) : Ann.clr f28a25 (f28e12 y0 y1 y2 y3) = f28e12 y0 y1 y2 y3 := hide (by kernel_rfl)
theorem f28l25_f28e12 {R : Type} (call : Bool → CallF R) (dem : Bool) (N : Nat) (y0 : Option (Nat × Nat)) (y1 : Option (Nat × Nat)) (y2 : Nat) (y3 : Option Nat) (J : KF R) (σ : St) : runK Try.prog call dem N f28c25 f28a25 J (f28e12 y0 y1 y2 y3) σ = loopK (f28L25 call dem N) f28a25 N J (f28e12 y0 y1 y2 y3) σ := runK_loop' (by kernel_rfl) (by kernel_rfl) (by kernel_rfl)
theorem f28n26 {R : Type} (call : Bool → CallF R) (dem : Bool) (N : Nat) (J : KF R) (e : Env) (σ : St) : runK Try.prog call dem N f28c26 f28a26 J e σ = runK Try.prog call dem N f28c27 f28a27 (seqC (fun K e σ => runK Try.prog call dem N f28c28 f28a28 K e σ) f28a26 J) e σ := runK_seq' (by kernel_rfl) (by kernel_rfl) (by kernel_rfl)
theorem f28n27 {R : Type} (call : Bool → CallF R) (dem : Bool) (N : Nat) (J : KF R) (e : Env) (σ : St) : runK Try.prog call dem N f28c27 f28a27 J e σ = runK Try.prog call dem N f28c29 f28a29 (seqC (fun K e σ => runK Try.prog call dem N f28c30 f28a30 K e σ) f28a27 J) e σ := runK_seq' (by kernel_rfl) (by kernel_rfl) (by kernel_rfl)
theorem f28r29_f28e12 {R : Type} (call : Bool → CallF R) (dem : Bool) (N : Nat) (y0 : Option (Nat × Nat)) (y1 : Option (Nat × Nat)) (y2 : Nat) (y3 : Option Nat) (J : KF R) (σ : St) :
    runK Try.prog call dem N f28c29 f28a29 J (f28e12 y0 y1 y2 y3) σ =
call false (18 : Nat) [AV.ptr y0] σ fun v0 v1 =>
  Option.bind (AV.toInt IntKind.i64 v0) fun v2 =>
    if decide (v2 ≥ (0 : Int)) = true then
      call false (18 : Nat) [AV.ptr y0] v1 fun v3 v4 =>
        Option.bind (AV.toInt IntKind.i64 v3) fun v5 =>
          Option.bind y0 fun v6 =>
            Option.bind (St.ld v4 (Prod.fst v6) (Prod.snd v6)) fun v7 =>
              Option.bind (AV.toInt IntKind.i64 v7) fun v8 =>
                if St.same v1 (Prod.fst v6) (Prod.snd v6) [AV.int IntKind.i64 v8] = true then
                  J Ex.normal
                    (f28e13 y0 y1 y2 y3 y0 v2 (decide (v2 ≥ (0 : Int))) true y0 v5 y0 (some v6) (some (Prod.fst v6, Prod.snd v6)) v8
                      (decide (v5 ≤ v8)) (decide (v5 ≤ v8)))
                    v4
                else none
    else J Ex.normal (f28e14 y0 y1 y2 y3 y0 v2 (decide (v2 ≥ (0 : Int))) false false) v1 := hide (by kernel_rfl)
theorem f28z27_f28e13 (y0 : Option (Nat × Nat)) (y1 : Option (Nat × Nat)) (y2 : Nat) (y3 : Option Nat) (y4 : Option (Nat × Nat)) (y5 : Int) (y6 : Bool) (y7 : Bool) (y8 : Option (Nat × Nat)) (y9 : Int) (y10 : Option (Nat × Nat)) (y11 : Option (Nat × Nat)) (y12 : Option (Nat × Nat)) (y13 : Int) (y14 : Bool) (y15 : Bool) : Ann.clr f28a27 (f28e13 y0 y1 y2 y3 y4 y5 y6 y7 y8 y9 y10 y11 y12 y13 y14 y15) = f28e15 y0 y1 y2 y3 y15 := hide (by kernel_rfl)
theorem f28x30_f28e15 {R : Type} (call : Bool → CallF R) (dem : Bool) (N : Nat) (y0 : Option (Nat × Nat)) (y1 : Option (Nat × Nat)) (y2 : Nat) (y3 : Option Nat) (y4 : Bool) (J : KF R) (σ : St) : runK Try.prog call dem N f28c30 f28a30 J (f28e15 y0 y1 y2 y3 y4) σ = if y4 = true then runK Try.prog call dem N f28c31 f28a31 (condC f28a30 J) (f28e15 y0 y1 y2 y3 y4) σ else runK Try.prog call dem N f28c32 f28a32 (condC f28a30 J) (f28e15 y0 y1 y2 y3 y4) σ := runK_cond' (o := Operand.tmp (42 : Nat)) (by kernel_rfl) (by kernel_rfl) (by kernel_rfl) (by kernel_rfl)
theorem f28n31 {R : Type} (call : Bool → CallF R) (dem : Bool) (N : Nat) (J : KF R) (e : Env) (σ : St) : runK Try.prog call dem N f28c31 f28a31 J e σ = J .normal e σ := runK_skip' (by kernel_rfl)
theorem f28z30_f28e15 (y0 : Option (Nat × Nat)) (y1 : Option (Nat × Nat)) (y2 : Nat) (y3 : Option Nat) (y4 : Bool) : Ann.clr f28a30 (f28e15 y0 y1 y2 y3 y4) = f28e12 y0 y1 y2 y3 := hide (by kernel_rfl)
theorem f28y32_f28e15 {R : Type} (call : Bool → CallF R) (dem : Bool) (N : Nat) (y0 : Option (Nat × Nat)) (y1 : Option (Nat × Nat)) (y2 : Nat) (y3 : Option Nat) (y4 : Bool) (J : KF R) (σ : St) : runK Try.prog call dem N f28c32 f28a32 J (f28e15 y0 y1 y2 y3 y4) σ = J (.exit 0) (f28e16 y1 y2 y3) σ := runK_exit' (by kernel_rfl) (by kernel_rfl)
theorem f28z27_f28e14 (y0 : Option (Nat × Nat)) (y1 : Option (Nat × Nat)) (y2 : Nat) (y3 : Option Nat) (y4 : Option (Nat × Nat)) (y5 : Int) (y6 : Bool) (y7 : Bool) (y8 : Bool) : Ann.clr f28a27 (f28e14 y0 y1 y2 y3 y4 y5 y6 y7 y8) = f28e15 y0 y1 y2 y3 y8 := hide (by kernel_rfl)
theorem f28z26_f28e12 (y0 : Option (Nat × Nat)) (y1 : Option (Nat × Nat)) (y2 : Nat) (y3 : Option Nat) : Ann.clr f28a26 (f28e12 y0 y1 y2 y3) = f28e12 y0 y1 y2 y3 := hide (by kernel_rfl)
theorem f28n28 {R : Type} (call : Bool → CallF R) (dem : Bool) (N : Nat) (J : KF R) (e : Env) (σ : St) : runK Try.prog call dem N f28c28 f28a28 J e σ = runK Try.prog call dem N f28c33 f28a33 (blockC 1 f28a28 J) e σ := runK_block' (by kernel_rfl) (by kernel_rfl)
theorem f28n33 {R : Type} (call : Bool → CallF R) (dem : Bool) (N : Nat) (J : KF R) (e : Env) (σ : St) : runK Try.prog call dem N f28c33 f28a33 J e σ = runK Try.prog call dem N f28c34 f28a34 (seqC (fun K e σ => runK Try.prog call dem N f28c35 f28a35 K e σ) f28a33 J) e σ := runK_seq' (by kernel_rfl) (by kernel_rfl) (by kernel_rfl)
theorem f28r34_f28e12 {R : Type} (call : Bool → CallF R) (dem : Bool) (N : Nat) (y0 : Option (Nat × Nat)) (y1 : Option (Nat × Nat)) (y2 : Nat) (y3 : Option Nat) (J : KF R) (σ : St) :
    runK Try.prog call dem N f28c34 f28a34 J (f28e12 y0 y1 y2 y3) σ =
call dem (18 : Nat) [AV.ptr y0] σ fun v0 v1 => Option.bind (AV.toInt IntKind.i64 v0) fun v2 => J Ex.normal (f28e17 y0 y1 y2 y3 v2 y0 v2) v1 := hide (by kernel_rfl)
theorem f28z33_f28e17 (y0 : Option (Nat × Nat)) (y1 : Option (Nat × Nat)) (y2 : Nat) (y3 : Option Nat) (y4 : Int) (y5 : Option (Nat × Nat)) (y6 : Int) : Ann.clr f28a33 (f28e17 y0 y1 y2 y3 y4 y5 y6) = f28e18 y0 y1 y2 y3 y4 := hide (by kernel_rfl)
theorem f28n35 {R : Type} (call : Bool → CallF R) (dem : Bool) (N : Nat) (J : KF R) (e : Env) (σ : St) : runK Try.prog call dem N f28c35 f28a35 J e σ = runK Try.prog call dem N f28c36 f28a36 (seqC (fun K e σ => runK Try.prog call dem N f28c37 f28a37 K e σ) f28a35 J) e σ := runK_seq' (by kernel_rfl) (by kernel_rfl) (by kernel_rfl)
theorem f28r36_f28e18 {R : Type} (call : Bool → CallF R) (dem : Bool) (N : Nat) (y0 : Option (Nat × Nat)) (y1 : Option (Nat × Nat)) (y2 : Nat) (y3 : Option Nat) (y4 : Int) (J : KF R) (σ : St) :
    runK Try.prog call dem N f28c36 f28a36 J (f28e18 y0 y1 y2 y3 y4) σ =
J Ex.normal (f28e19 y0 y1 y2 y3 y4 (0 : Int)) σ := hide (by kernel_rfl)
theorem f28z35_f28e19 (y0 : Option (Nat × Nat)) (y1 : Option (Nat × Nat)) (y2 : Nat) (y3 : Option Nat) (y4 : Int) (y5 : Int) : Ann.clr f28a35 (f28e19 y0 y1 y2 y3 y4 y5) = f28e19 y0 y1 y2 y3 y4 y5 := hide (by kernel_rfl)
theorem f28n37 {R : Type} (call : Bool → CallF R) (dem : Bool) (N : Nat) (J : KF R) (e : Env) (σ : St) : runK Try.prog call dem N f28c37 f28a37 J e σ = runK Try.prog call dem N f28c38 f28a38 (blockC 2 f28a37 J) e σ := runK_block' (by kernel_rfl) (by kernel_rfl)
theorem f28L38_eq {R : Type} (call : Bool → CallF R) (dem : Bool) (N : Nat) (J : KF R) (e : Env) (σ : St) : f28L38 call dem N J e σ = runK Try.prog call dem N f28c39 f28a39 J e σ := hide rfl
theorem f28z38_f28e19 (y0 : Option (Nat × Nat)) (y1 : Option (Nat × Nat)) (y2 : Nat) (y3 : Option Nat) (y4 : Int) (y5 : Int) : Ann.clr f28a38 (f28e19 y0 y1 y2 y3 y4 y5) = f28e19 y0 y1 y2 y3 y4 y5 := hide (by kernel_rfl)
theorem f28l38_f28e19 {R : Type} (call : Bool → CallF R) (dem : Bool) (N : Nat) (y0 : Option (Nat × Nat)) (y1 : Option (Nat × Nat)) (y2 : Nat) (y3 : Option Nat) (y4 : Int) (y5 : Int) (J : KF R) (σ : St) : runK Try.prog call dem N f28c38 f28a38 J (f28e19 y0 y1 y2 y3 y4 y5) σ = loopK (f28L38 call dem N) f28a38 N J (f28e19 y0 y1 y2 y3 y4 y5) σ := runK_loop' (by kernel_rfl) (by kernel_rfl) (by kernel_rfl)
theorem f28n39 {R : Type} (call : Bool → CallF R) (dem : Bool) (N : Nat) (J : KF R) (e : Env) (σ : St) : runK Try.prog call dem N f28c39 f28a39 J e σ = runK Try.prog call dem N f28c40 f28a40 (seqC (fun K e σ => runK Try.prog call dem N f28c41 f28a41 K e σ) f28a39 J) e σ := runK_seq' (by kernel_rfl) (by kernel_rfl) (by kernel_rfl)
theorem f28n40 {R : Type} (call : Bool → CallF R) (dem : Bool) (N : Nat) (J : KF R) (e : Env) (σ : St) : runK Try.prog call dem N f28c40 f28a40 J e σ = runK Try.prog call dem N f28c42 f28a42 (seqC (fun K e σ => runK Try.prog call dem N f28c43 f28a43 K e σ) f28a40 J) e σ := runK_seq' (by kernel_rfl) (by kernel_rfl) (by kernel_rfl)
theorem f28r42_f28e19 {R : Type} (call : Bool → CallF R) (dem : Bool) (N : Nat) (y0 : Option (Nat × Nat)) (y1 : Option (Nat × Nat)) (y2 : Nat) (y3 : Option Nat) (y4 : Int) (y5 : Int) (J : KF R) (σ : St) :
    runK Try.prog call dem N f28c42 f28a42 J (f28e19 y0 y1 y2 y3 y4 y5) σ =
J Ex.normal (f28e20 y0 y1 y2 y3 y4 y5 y5 (decide (y5 < (16 : Int)))) σ := hide (by kernel_rfl)
theorem f28z40_f28e20 (y0 : Option (Nat × Nat)) (y1 : Option (Nat × Nat)) (y2 : Nat) (y3 : Option Nat) (y4 : Int) (y5 : Int) (y6 : Int) (y7 : Bool) : Ann.clr f28a40 (f28e20 y0 y1 y2 y3 y4 y5 y6 y7) = f28e21 y0 y1 y2 y3 y4 y5 y7 := hide (by kernel_rfl)
theorem f28x43_f28e21 {R : Type} (call : Bool → CallF R) (dem : Bool) (N : Nat) (y0 : Option (Nat × Nat)) (y1 : Option (Nat × Nat)) (y2 : Nat) (y3 : Option Nat) (y4 : Int) (y5 : Int) (y6 : Bool) (J : KF R) (σ : St) : runK Try.prog call dem N f28c43 f28a43 J (f28e21 y0 y1 y2 y3 y4 y5 y6) σ = if y6 = true then runK Try.prog call dem N f28c44 f28a44 (condC f28a43 J) (f28e21 y0 y1 y2 y3 y4 y5 y6) σ else runK Try.prog call dem N f28c45 f28a45 (condC f28a43 J) (f28e21 y0 y1 y2 y3 y4 y5 y6) σ := runK_cond' (o := Operand.tmp (46 : Nat)) (by kernel_rfl) (by kernel_rfl) (by kernel_rfl) (by kernel_rfl)
theorem f28n44 {R : Type} (call : Bool → CallF R) (dem : Bool) (N : Nat) (J : KF R) (e : Env) (σ : St) : runK Try.prog call dem N f28c44 f28a44 J e σ = J .normal e σ := runK_skip' (by kernel_rfl)
theorem f28z43_f28e21 (y0 : Option (Nat × Nat)) (y1 : Option (Nat × Nat)) (y2 : Nat) (y3 : Option Nat) (y4 : Int) (y5 : Int) (y6 : Bool) : Ann.clr f28a43 (f28e21 y0 y1 y2 y3 y4 y5 y6) = f28e19 y0 y1 y2 y3 y4 y5 := hide (by kernel_rfl)
theorem f28y45_f28e21 {R : Type} (call : Bool → CallF R) (dem : Bool) (N : Nat) (y0 : Option (Nat × Nat)) (y1 : Option (Nat × Nat)) (y2 : Nat) (y3 : Option Nat) (y4 : Int) (y5 : Int) (y6 : Bool) (J : KF R) (σ : St) : runK Try.prog call dem N f28c45 f28a45 J (f28e21 y0 y1 y2 y3 y4 y5 y6) σ = J (.exit 2) (f28e12 y0 y1 y2 y3) σ := runK_exit' (by kernel_rfl) (by kernel_rfl)
theorem f28z39_f28e19 (y0 : Option (Nat × Nat)) (y1 : Option (Nat × Nat)) (y2 : Nat) (y3 : Option Nat) (y4 : Int) (y5 : Int) : Ann.clr f28a39 (f28e19 y0 y1 y2 y3 y4 y5) = f28e19 y0 y1 y2 y3 y4 y5 := hide (by kernel_rfl)
theorem f28n41 {R : Type} (call : Bool → CallF R) (dem : Bool) (N : Nat) (J : KF R) (e : Env) (σ : St) : runK Try.prog call dem N f28c41 f28a41 J e σ = runK Try.prog call dem N f28c46 f28a46 (seqC (fun K e σ => runK Try.prog call dem N f28c47 f28a47 K e σ) f28a41 J) e σ := runK_seq' (by kernel_rfl) (by kernel_rfl) (by kernel_rfl)
theorem f28n46 {R : Type} (call : Bool → CallF R) (dem : Bool) (N : Nat) (J : KF R) (e : Env) (σ : St) : runK Try.prog call dem N f28c46 f28a46 J e σ = runK Try.prog call dem N f28c48 f28a48 (blockC 3 f28a46 J) e σ := runK_block' (by kernel_rfl) (by kernel_rfl)
theorem f28n48 {R : Type} (call : Bool → CallF R) (dem : Bool) (N : Nat) (J : KF R) (e : Env) (σ : St) : runK Try.prog call dem N f28c48 f28a48 J e σ = runK Try.prog call dem N f28c49 f28a49 (seqC (fun K e σ => runK Try.prog call dem N f28c50 f28a50 K e σ) f28a48 J) e σ := runK_seq' (by kernel_rfl) (by kernel_rfl) (by kernel_rfl)
theorem f28r49_f28e19 {R : Type} (call : Bool → CallF R) (dem : Bool) (N : Nat) (y0 : Option (Nat × Nat)) (y1 : Option (Nat × Nat)) (y2 : Nat) (y3 : Option Nat) (y4 : Int) (y5 : Int) (J : KF R) (σ : St) :
    runK Try.prog call dem N f28c49 f28a49 J (f28e19 y0 y1 y2 y3 y4 y5) σ =
Option.bind y0 fun v0 =>
  if (0 : Nat) < (1 : Nat) ∧ (0 : Int) ≤ y5 ∧ y5 < (16 : Int) then
    Option.bind (St.ld σ (Prod.fst v0) (Prod.snd v0 + (1 : Nat) + Int.toNat y5 * (1 : Nat))) fun v1 =>
      Option.bind (AV.toInt IntKind.i64 v1) fun v2 =>
        J Ex.normal
          (f28e22 y0 y1 y2 y3 y4 y5 y0 y5 (some v0) (some (Prod.fst v0, Prod.snd v0 + (1 : Nat)))
            (some (Prod.fst v0, Prod.snd v0 + (1 : Nat) + Int.toNat y5 * (1 : Nat))) v2 y4 (v2 == y4))
          σ
  else none := hide (by kernel_rfl)
theorem f28z48_f28e22 (y0 : Option (Nat × Nat)) (y1 : Option (Nat × Nat)) (y2 : Nat) (y3 : Option Nat) (y4 : Int) (y5 : Int) (y6 : Option (Nat × Nat)) (y7 : Int) (y8 : Option (Nat × Nat)) (y9 : Option (Nat × Nat)) (y10 : Option (Nat × Nat)) (y11 : Int) (y12 : Int) (y13 : Bool) : Ann.clr f28a48 (f28e22 y0 y1 y2 y3 y4 y5 y6 y7 y8 y9 y10 y11 y12 y13) = f28e23 y0 y1 y2 y3 y4 y5 y13 := hide (by kernel_rfl)
theorem f28x50_f28e23 {R : Type} (call : Bool → CallF R) (dem : Bool) (N : Nat) (y0 : Option (Nat × Nat)) (y1 : Option (Nat × Nat)) (y2 : Nat) (y3 : Option Nat) (y4 : Int) (y5 : Int) (y6 : Bool) (J : KF R) (σ : St) : runK Try.prog call dem N f28c50 f28a50 J (f28e23 y0 y1 y2 y3 y4 y5 y6) σ = if y6 = true then runK Try.prog call dem N f28c51 f28a51 (condC f28a50 J) (f28e23 y0 y1 y2 y3 y4 y5 y6) σ else runK Try.prog call dem N f28c52 f28a52 (condC f28a50 J) (f28e23 y0 y1 y2 y3 y4 y5 y6) σ := runK_cond' (o := Operand.tmp (56 : Nat)) (by kernel_rfl) (by kernel_rfl) (by kernel_rfl) (by kernel_rfl)
theorem f28n51 {R : Type} (call : Bool → CallF R) (dem : Bool) (N : Nat) (J : KF R) (e : Env) (σ : St) : runK Try.prog call dem N f28c51 f28a51 J e σ = runK Try.prog call dem N f28c53 f28a53 (seqC (fun K e σ => runK Try.prog call dem N f28c54 f28a54 K e σ) f28a51 J) e σ := runK_seq' (by kernel_rfl) (by kernel_rfl) (by kernel_rfl)
theorem f28r53_f28e23 {R : Type} (call : Bool → CallF R) (dem : Bool) (N : Nat) (y0 : Option (Nat × Nat)) (y1 : Option (Nat × Nat)) (y2 : Nat) (y3 : Option Nat) (y4 : Int) (y5 : Int) (y6 : Bool) (J : KF R) (σ : St) :
    runK Try.prog call dem N f28c53 f28a53 J (f28e23 y0 y1 y2 y3 y4 y5 y6) σ =
Option.bind
  (St.elems (St.new σ (Blk.cells [AV.int IntKind.i64 y5] true)) (1 : Nat) (Sl.mk (some (St.next σ, (0 : Nat))) (1 : Nat) (some (1 : Nat))) (1 : Nat))
  fun v0 =>
  Option.bind (St.app (St.new σ (Blk.cells [AV.int IntKind.i64 y5] true)) (1 : Nat) (8 : Nat) (Sl.mk y1 y2 y3) (1 : Nat) v0) fun v1 =>
    J Ex.normal
      (f28e24 y0 (Sl.o (Prod.fst v1)) (Sl.len (Prod.fst v1)) (Sl.cap (Prod.fst v1)) y4 y5 y6 y1 y2 y3 y5 (some (St.next σ, (0 : Nat))) (1 : Nat)
        (some (1 : Nat)) (Sl.o (Prod.fst v1)) (Sl.len (Prod.fst v1)) (Sl.cap (Prod.fst v1)))
      (Prod.snd v1) := hide (by kernel_rfl)
theorem f28z51_f28e24 (y0 : Option (Nat × Nat)) (y1 : Option (Nat × Nat)) (y2 : Nat) (y3 : Option Nat) (y4 : Int) (y5 : Int) (y6 : Bool) (y7 : Option (Nat × Nat)) (y8 : Nat) (y9 : Option Nat) (y10 : Int) (y11 : Option (Nat × Nat)) (y12 : Nat) (y13 : Option Nat) (y14 : Option (Nat × Nat)) (y15 : Nat) (y16 : Option Nat) : Ann.clr f28a51 (f28e24 y0 y1 y2 y3 y4 y5 y6 y7 y8 y9 y10 y11 y12 y13 y14 y15 y16) = f28e19 y0 y1 y2 y3 y4 y5 := hide (by kernel_rfl)
theorem f28r54_f28e19 {R : Type} (call : Bool → CallF R) (dem : Bool) (N : Nat) (y0 : Option (Nat × Nat)) (y1 : Option (Nat × Nat)) (y2 : Nat) (y3 : Option Nat) (y4 : Int) (y5 : Int) (J : KF R) (σ : St) :
    runK Try.prog call dem N f28c54 f28a54 J (f28e19 y0 y1 y2 y3 y4 y5) σ =
Option.bind y0 fun v0 =>
  if (0 : Nat) < (1 : Nat) ∧ (0 : Int) ≤ y5 ∧ y5 < (16 : Int) then
    Option.bind (St.st σ (Prod.fst v0) (Prod.snd v0 + (1 : Nat) + Int.toNat y5 * (1 : Nat)) [AV.int IntKind.i64 (-1 : Int)]) fun v1 =>
      J Ex.normal
        (f28e25 y0 y1 y2 y3 y4 y5 y0 y5 (some v0) (some (Prod.fst v0, Prod.snd v0 + (1 : Nat)))
          (some (Prod.fst v0, Prod.snd v0 + (1 : Nat) + Int.toNat y5 * (1 : Nat))))
        v1
  else none := hide (by kernel_rfl)
theorem f28z50_f28e25 (y0 : Option (Nat × Nat)) (y1 : Option (Nat × Nat)) (y2 : Nat) (y3 : Option Nat) (y4 : Int) (y5 : Int) (y6 : Option (Nat × Nat)) (y7 : Int) (y8 : Option (Nat × Nat)) (y9 : Option (Nat × Nat)) (y10 : Option (Nat × Nat)) : Ann.clr f28a50 (f28e25 y0 y1 y2 y3 y4 y5 y6 y7 y8 y9 y10) = f28e19 y0 y1 y2 y3 y4 y5 := hide (by kernel_rfl)
theorem f28n52 {R : Type} (call : Bool → CallF R) (dem : Bool) (N : Nat) (J : KF R) (e : Env) (σ : St) : runK Try.prog call dem N f28c52 f28a52 J e σ = J .normal e σ := runK_skip' (by kernel_rfl)
theorem f28z50_f28e23 (y0 : Option (Nat × Nat)) (y1 : Option (Nat × Nat)) (y2 : Nat) (y3 : Option Nat) (y4 : Int) (y5 : Int) (y6 : Bool) : Ann.clr f28a50 (f28e23 y0 y1 y2 y3 y4 y5 y6) = f28e19 y0 y1 y2 y3 y4 y5 := hide (by kernel_rfl)
theorem f28z46_f28e19 (y0 : Option (Nat × Nat)) (y1 : Option (Nat × Nat)) (y2 : Nat) (y3 : Option Nat) (y4 : Int) (y5 : Int) : Ann.clr f28a46 (f28e19 y0 y1 y2 y3 y4 y5) = f28e19 y0 y1 y2 y3 y4 y5 := hide (by kernel_rfl)
theorem f28z41_f28e19 (y0 : Option (Nat × Nat)) (y1 : Option (Nat × Nat)) (y2 : Nat) (y3 : Option Nat) (y4 : Int) (y5 : Int) : Ann.clr f28a41 (f28e19 y0 y1 y2 y3 y4 y5) = f28e19 y0 y1 y2 y3 y4 y5 := hide (by kernel_rfl)
theorem f28r47_f28e19 {R : Type} (call : Bool → CallF R) (dem : Bool) (N : Nat) (y0 : Option (Nat × Nat)) (y1 : Option (Nat × Nat)) (y2 : Nat) (y3 : Option Nat) (y4 : Int) (y5 : Int) (J : KF R) (σ : St) :
    runK Try.prog call dem N f28c47 f28a47 J (f28e19 y0 y1 y2 y3 y4 y5) σ =
J Ex.normal (f28e26 y0 y1 y2 y3 y4 (IntKind.wrap IntKind.i64 (y5 + (1 : Int))) y5 (IntKind.wrap IntKind.i64 (y5 + (1 : Int)))) σ := hide (by kernel_rfl)
theorem f28z38_f28e26 (y0 : Option (Nat × Nat)) (y1 : Option (Nat × Nat)) (y2 : Nat) (y3 : Option Nat) (y4 : Int) (y5 : Int) (y6 : Int) (y7 : Int) : Ann.clr f28a38 (f28e26 y0 y1 y2 y3 y4 y5 y6 y7) = f28e19 y0 y1 y2 y3 y4 y5 := hide (by kernel_rfl)
theorem f28z37_f28e12 (y0 : Option (Nat × Nat)) (y1 : Option (Nat × Nat)) (y2 : Nat) (y3 : Option Nat) : Ann.clr f28a37 (f28e12 y0 y1 y2 y3) = f28e12 y0 y1 y2 y3 := hide (by kernel_rfl)
theorem f28z28_f28e12 (y0 : Option (Nat × Nat)) (y1 : Option (Nat × Nat)) (y2 : Nat) (y3 : Option Nat) : Ann.clr f28a28 (f28e12 y0 y1 y2 y3) = f28e12 y0 y1 y2 y3 := hide (by kernel_rfl)
theorem f28z23_f28e16 (y0 : Option (Nat × Nat)) (y1 : Nat) (y2 : Option Nat) : Ann.clr f28a23 (f28e16 y0 y1 y2) = f28e16 y0 y1 y2 := hide (by kernel_rfl)
theorem f28z22_f28e16 (y0 : Option (Nat × Nat)) (y1 : Nat) (y2 : Option Nat) : Ann.clr f28a22 (f28e16 y0 y1 y2) = f28e16 y0 y1 y2 := hide (by kernel_rfl)
theorem f28n24 {R : Type} (call : Bool → CallF R) (dem : Bool) (N : Nat) (J : KF R) (e : Env) (σ : St) : runK Try.prog call dem N f28c24 f28a24 J e σ = runK Try.prog call dem N f28c55 f28a55 (seqC (fun K e σ => runK Try.prog call dem N f28c56 f28a56 K e σ) f28a24 J) e σ := runK_seq' (by kernel_rfl) (by kernel_rfl) (by kernel_rfl)
theorem f28r55_f28e16 {R : Type} (call : Bool → CallF R) (dem : Bool) (N : Nat) (y0 : Option (Nat × Nat)) (y1 : Nat) (y2 : Option Nat) (J : KF R) (σ : St) :
    runK Try.prog call dem N f28c55 f28a55 J (f28e16 y0 y1 y2) σ =
J Ex.normal (f28e27 y0 y1 y2 (0 : Int) y0 y1 y2 y0 y1 y2) σ := hide (by kernel_rfl)
theorem f28z24_f28e27 (y0 : Option (Nat × Nat)) (y1 : Nat) (y2 : Option Nat) (y3 : Int) (y4 : Option (Nat × Nat)) (y5 : Nat) (y6 : Option Nat) (y7 : Option (Nat × Nat)) (y8 : Nat) (y9 : Option Nat) : Ann.clr f28a24 (f28e27 y0 y1 y2 y3 y4 y5 y6 y7 y8 y9) = f28e6 y0 y1 y2 y3 := hide (by kernel_rfl)
theorem f28y56_f28e6 {R : Type} (call : Bool → CallF R) (dem : Bool) (N : Nat) (y0 : Option (Nat × Nat)) (y1 : Nat) (y2 : Option Nat) (y3 : Int) (J : KF R) (σ : St) : runK Try.prog call dem N f28c56 f28a56 J (f28e6 y0 y1 y2 y3) σ = J .ret (f28e6 y0 y1 y2 y3) σ := runK_ret' (by kernel_rfl) (by kernel_rfl)
theorem f28b_f28e6_r {R : Type} (y0 : Option (Nat × Nat)) (y1 : Nat) (y2 : Option Nat) (y3 : Int) (σ : St) (K : AV → St → Option R) : bodyC Try.prog f28rs K (Ex.ret) (f28e6 y0 y1 y2 y3) σ =
K (AV.tuple [AV.slice y0 y1 y2 (1 : Nat), AV.int IntKind.i64 y3]) σ := hide (by kernel_rfl)
attribute [go_sem] f28_eq f28n0 f28r1_f28e0 f28z0_f28e1 f28n2 f28n3 f28r5_f28e0 f28z3_f28e2 f28x6_f28e4 f28n7 f28r9_f28e4 f28z7_f28e5 f28y10_f28e6 f28n8 f28z6_f28e4 f28z3_f28e3 f28z2_f28e0 f28n4 f28n11 f28r13_f28e0 f28z11_f28e7 f28x14_f28e8 f28n15 f28r17_f28e8 f28z15_f28e9 f28y18_f28e6 f28n16 f28z14_f28e8 f28z4_f28e0 f28n12 f28r19_f28e0 f28z12_f28e10 f28n20 f28r21_f28e11 f28z20_f28e12 f28n22 f28n23 f28L25_eq f28z25_f28e12 f28l25_f28e12 f28n26 f28n27 f28r29_f28e12 f28z27_f28e13 f28x30_f28e15 f28n31 f28z30_f28e15 f28y32_f28e15 f28z27_f28e14 f28z26_f28e12 f28n28 f28n33 f28r34_f28e12 f28z33_f28e17 f28n35 f28r36_f28e18 f28z35_f28e19 f28n37 f28L38_eq f28z38_f28e19 f28l38_f28e19 f28n39 f28n40 f28r42_f28e19 f28z40_f28e20 f28x43_f28e21 f28n44 f28z43_f28e21 f28y45_f28e21 f28z39_f28e19 f28n41 f28n46 f28n48 f28r49_f28e19 f28z48_f28e22 f28x50_f28e23 f28n51 f28r53_f28e23 f28z51_f28e24 f28r54_f28e19 f28z50_f28e25 f28n52 f28z50_f28e23 f28z46_f28e19 f28z41_f28e19 f28r47_f28e19 f28z38_f28e26 f28z37_f28e12 f28z28_f28e12 f28z23_f28e16 f28z22_f28e16 f28n24 f28r55_f28e16 f28z24_f28e27 f28y56_f28e6 f28b_f28e6_r

noncomputable def f31rs : List ResultVar := [ResultVar.tmp (2 : Nat)]
noncomputable def f31c0 : Code := subCode [] (bodyOf Try.prog 31)
def f31a0 : Ann := subAnn [] ann31
noncomputable def f31c1 : Code := subCode [0] (bodyOf Try.prog 31)
def f31a1 : Ann := subAnn [0] ann31
noncomputable def f31c2 : Code := subCode [1] (bodyOf Try.prog 31)
def f31a2 : Ann := subAnn [1] ann31
noncomputable def f31c3 : Code := subCode [1, 0] (bodyOf Try.prog 31)
def f31a3 : Ann := subAnn [1, 0] ann31
noncomputable def f31c4 : Code := subCode [1, 1] (bodyOf Try.prog 31)
def f31a4 : Ann := subAnn [1, 1] ann31
def f31e0 (y0 : Int) : Env := AV.int IntKind.i64 y0 :: Env.sp 8 []
def f31e1 (y0 : Int) (y1 : Bool) : Env := AV.int IntKind.i64 y0 :: Env.sp 1 (AV.bool y1 :: Env.sp 6 [])
def f31e2 (y0 : Int) (y1 : Bool) (y2 : Int) (y3 : Bool) (y4 : Bool) (y5 : Int) (y6 : Bool) (y7 : Bool) : Env := AV.int IntKind.i64 y0 :: Env.sp 1 (AV.bool y1 :: AV.int IntKind.i64 y2 :: AV.bool y3 :: AV.bool y4 :: AV.int IntKind.i64 y5 :: AV.bool y6 :: AV.bool y7 :: [])
def f31e3 (y0 : Int) (y1 : Bool) (y2 : Int) (y3 : Bool) (y4 : Bool) (y5 : Bool) : Env := AV.int IntKind.i64 y0 :: Env.sp 1 (AV.bool y1 :: AV.int IntKind.i64 y2 :: AV.bool y3 :: AV.bool y4 :: AV.tuple [] :: AV.tuple [] :: AV.bool y5 :: [])
def f31e4 (y0 : Bool) : Env := Env.sp 2 (AV.bool y0 :: Env.sp 6 [])

/- function 31 -/
theorem f31_eq {R : Type} (call : Bool → CallF R) (dem : Bool) (N : Nat) (y0 : Int) (σ : St) (K : AV → St → Option R) :
    bodyK Try.prog call dem N ann 31 [AV.int IntKind.i64 y0] σ K = runK Try.prog call dem N f31c0 f31a0 (bodyC Try.prog f31rs K) (f31e0 y0) σ := bodyK_of (fn := ((Try.prog.funcs[31]?).get rfl)) (by kernel_rfl) (by kernel_rfl) (by kernel_rfl) (by kernel_rfl) (by kernel_rfl) (by kernel_rfl)
theorem f31n0 {R : Type} (call : Bool → CallF R) (dem : Bool) (N : Nat) (J : KF R) (e : Env) (σ : St) : runK Try.prog call dem N f31c0 f31a0 J e σ = runK Try.prog call dem N f31c1 f31a1 (seqC (fun K e σ => runK Try.prog call dem N f31c2 f31a2 K e σ) f31a0 J) e σ := runK_seq' (by kernel_rfl) (by kernel_rfl) (by kernel_rfl)
theorem f31r1_f31e0 {R : Type} (call : Bool → CallF R) (dem : Bool) (N : Nat) (y0 : Int) (J : KF R) (σ : St) :
    runK Try.prog call dem N f31c1 f31a1 J (f31e0 y0) σ =
J Ex.normal (f31e1 y0 false) σ := hide (by kernel_rfl)
theorem f31z0_f31e1 (y0 : Int) (y1 : Bool) : Ann.clr f31a0 (f31e1 y0 y1) = f31e0 y0 := hide (by kernel_rfl)
theorem f31n2 {R : Type} (call : Bool → CallF R) (dem : Bool) (N : Nat) (J : KF R) (e : Env) (σ : St) : runK Try.prog call dem N f31c2 f31a2 J e σ = runK Try.prog call dem N f31c3 f31a3 (seqC (fun K e σ => runK Try.prog call dem N f31c4 f31a4 K e σ) f31a2 J) e σ := runK_seq' (by kernel_rfl) (by kernel_rfl) (by kernel_rfl)
theorem f31r3_f31e0 {R : Type} (call : Bool → CallF R) (dem : Bool) (N : Nat) (y0 : Int) (J : KF R) (σ : St) :
    runK Try.prog call dem N f31c3 f31a3 J (f31e0 y0) σ =
if decide (y0 ≥ (0 : Int)) = true then
  J Ex.normal (f31e2 y0 (decide (y0 ≤ (15 : Int))) y0 (decide (y0 ≥ (0 : Int))) true y0 (decide (y0 ≤ (15 : Int))) (decide (y0 ≤ (15 : Int)))) σ
else J Ex.normal (f31e3 y0 false y0 (decide (y0 ≥ (0 : Int))) false false) σ := hide (by kernel_rfl)
theorem f31z2_f31e2 (y0 : Int) (y1 : Bool) (y2 : Int) (y3 : Bool) (y4 : Bool) (y5 : Int) (y6 : Bool) (y7 : Bool) : Ann.clr f31a2 (f31e2 y0 y1 y2 y3 y4 y5 y6 y7) = f31e4 y1 := hide (by kernel_rfl)
theorem f31y4_f31e4 {R : Type} (call : Bool → CallF R) (dem : Bool) (N : Nat) (y0 : Bool) (J : KF R) (σ : St) : runK Try.prog call dem N f31c4 f31a4 J (f31e4 y0) σ = J .ret (f31e4 y0) σ := runK_ret' (by kernel_rfl) (by kernel_rfl)
theorem f31z2_f31e3 (y0 : Int) (y1 : Bool) (y2 : Int) (y3 : Bool) (y4 : Bool) (y5 : Bool) : Ann.clr f31a2 (f31e3 y0 y1 y2 y3 y4 y5) = f31e4 y1 := hide (by kernel_rfl)
theorem f31b_f31e4_r {R : Type} (y0 : Bool) (σ : St) (K : AV → St → Option R) : bodyC Try.prog f31rs K (Ex.ret) (f31e4 y0) σ =
K (AV.bool y0) σ := hide (by kernel_rfl)
attribute [go_sem] f31_eq f31n0 f31r1_f31e0 f31z0_f31e1 f31n2 f31r3_f31e0 f31z2_f31e2 f31y4_f31e4 f31z2_f31e3 f31b_f31e4_r

end Go.Proofs.Ytciibgjmdgpgnaa
