/- What the machine does with each piece of code, in plain text. PRINTED by a program of this workplace; Lean checks it. -/
import Derived.Test.YtmgacgonoodkfaaWiAnn
import Derived.Test.YtmgacgonoodkfaaProg
import Derived.KernelRfl
import Derived.Attr
namespace Go.Proofs.Ytmgacgonoodkfaa
open Go.AM
set_option maxRecDepth 100000
set_option linter.unusedVariables false
noncomputable def f13rs : List ResultVar := [ResultVar.tmp (4 : Nat), ResultVar.tmp (5 : Nat)]
noncomputable def f13c0 : Code := subCode [] (bodyOf Try.prog 13)
def f13a0 : Ann := subAnn [] ann13
noncomputable def f13c1 : Code := subCode [0] (bodyOf Try.prog 13)
def f13a1 : Ann := subAnn [0] ann13
noncomputable def f13c2 : Code := subCode [1] (bodyOf Try.prog 13)
def f13a2 : Ann := subAnn [1] ann13
noncomputable def f13c3 : Code := subCode [1, 0] (bodyOf Try.prog 13)
def f13a3 : Ann := subAnn [1, 0] ann13
noncomputable def f13c4 : Code := subCode [1, 1] (bodyOf Try.prog 13)
def f13a4 : Ann := subAnn [1, 1] ann13
noncomputable def f13c5 : Code := subCode [1, 0, 0] (bodyOf Try.prog 13)
def f13a5 : Ann := subAnn [1, 0, 0] ann13
noncomputable def f13c6 : Code := subCode [1, 0, 1] (bodyOf Try.prog 13)
def f13a6 : Ann := subAnn [1, 0, 1] ann13
noncomputable def f13c7 : Code := subCode [1, 0, 1, 0] (bodyOf Try.prog 13)
def f13a7 : Ann := subAnn [1, 0, 1, 0] ann13
noncomputable def f13c8 : Code := subCode [1, 0, 1, 1] (bodyOf Try.prog 13)
def f13a8 : Ann := subAnn [1, 0, 1, 1] ann13
noncomputable def f13c9 : Code := subCode [1, 0, 1, 0, 0] (bodyOf Try.prog 13)
def f13a9 : Ann := subAnn [1, 0, 1, 0, 0] ann13
noncomputable def f13c10 : Code := subCode [1, 0, 1, 0, 1] (bodyOf Try.prog 13)
def f13a10 : Ann := subAnn [1, 0, 1, 0, 1] ann13
noncomputable def f13c11 : Code := subCode [1, 1, 0] (bodyOf Try.prog 13)
def f13a11 : Ann := subAnn [1, 1, 0] ann13
noncomputable def f13c12 : Code := subCode [1, 1, 1] (bodyOf Try.prog 13)
def f13a12 : Ann := subAnn [1, 1, 1] ann13
def f13e0 (y0 : Int) (y1 : Int) : Env := AV.int IntKind.i64 y0 :: AV.int IntKind.i64 y1 :: Env.sp 24 []
def f13e1 (y0 : Int) (y1 : Int) (y2 : Option (Nat × Nat)) (y3 : Int) : Env := AV.int IntKind.i64 y0 :: AV.int IntKind.i64 y1 :: Env.sp 2 (AV.ptr y2 :: AV.int IntKind.i64 y3 :: Env.sp 20 [])
def f13e2 (y0 : Int) (y1 : Int) (y2 : Int) (y3 : Bool) (y4 : Bool) (y5 : Bool) (y6 : Bool) (y7 : Bool) (y8 : Bool) (y9 : Bool) : Env := AV.int IntKind.i64 y0 :: AV.int IntKind.i64 y1 :: Env.sp 4 (AV.int IntKind.i64 y2 :: AV.bool y3 :: AV.bool y4 :: AV.tuple [] :: AV.tuple [] :: AV.bool y5 :: AV.bool y6 :: AV.tuple [] :: AV.tuple [] :: AV.bool y7 :: AV.bool y8 :: AV.tuple [] :: AV.tuple [] :: AV.bool y9 :: Env.sp 6 [])
def f13e3 (y0 : Int) (y1 : Int) (y2 : Int) (y3 : Bool) (y4 : Bool) (y5 : Int) (y6 : Bool) (y7 : Bool) (y8 : Bool) (y9 : Bool) (y10 : Bool) (y11 : Bool) : Env := AV.int IntKind.i64 y0 :: AV.int IntKind.i64 y1 :: Env.sp 4 (AV.int IntKind.i64 y2 :: AV.bool y3 :: AV.bool y4 :: AV.int IntKind.i64 y5 :: AV.bool y6 :: AV.bool y7 :: AV.bool y8 :: AV.tuple [] :: AV.tuple [] :: AV.bool y9 :: AV.bool y10 :: AV.tuple [] :: AV.tuple [] :: AV.bool y11 :: Env.sp 6 [])
def f13e4 (y0 : Int) (y1 : Int) (y2 : Int) (y3 : Bool) (y4 : Bool) (y5 : Int) (y6 : Bool) (y7 : Bool) (y8 : Bool) (y9 : Int) (y10 : Bool) (y11 : Bool) (y12 : Bool) (y13 : Bool) : Env := AV.int IntKind.i64 y0 :: AV.int IntKind.i64 y1 :: Env.sp 4 (AV.int IntKind.i64 y2 :: AV.bool y3 :: AV.bool y4 :: AV.int IntKind.i64 y5 :: AV.bool y6 :: AV.bool y7 :: AV.bool y8 :: AV.int IntKind.i64 y9 :: AV.bool y10 :: AV.bool y11 :: AV.bool y12 :: AV.tuple [] :: AV.tuple [] :: AV.bool y13 :: Env.sp 6 [])
def f13e5 (y0 : Int) (y1 : Int) (y2 : Int) (y3 : Bool) (y4 : Bool) (y5 : Int) (y6 : Bool) (y7 : Bool) (y8 : Bool) (y9 : Int) (y10 : Bool) (y11 : Bool) (y12 : Bool) (y13 : Int) (y14 : Bool) (y15 : Bool) : Env := AV.int IntKind.i64 y0 :: AV.int IntKind.i64 y1 :: Env.sp 4 (AV.int IntKind.i64 y2 :: AV.bool y3 :: AV.bool y4 :: AV.int IntKind.i64 y5 :: AV.bool y6 :: AV.bool y7 :: AV.bool y8 :: AV.int IntKind.i64 y9 :: AV.bool y10 :: AV.bool y11 :: AV.bool y12 :: AV.int IntKind.i64 y13 :: AV.bool y14 :: AV.bool y15 :: Env.sp 6 [])
def f13e6 (y0 : Int) (y1 : Int) (y2 : Bool) : Env := AV.int IntKind.i64 y0 :: AV.int IntKind.i64 y1 :: Env.sp 17 (AV.bool y2 :: Env.sp 6 [])
def f13e7 (y0 : Int) (y1 : Int) (y2 : Option (Nat × Nat)) (y3 : Int) (y4 : Bool) : Env := AV.int IntKind.i64 y0 :: AV.int IntKind.i64 y1 :: Env.sp 2 (AV.ptr y2 :: AV.int IntKind.i64 y3 :: Env.sp 13 (AV.bool y4 :: Env.sp 6 []))
def f13e8 (y0 : Option (Nat × Nat)) (y1 : Int) : Env := Env.sp 4 (AV.ptr y0 :: AV.int IntKind.i64 y1 :: Env.sp 20 [])
def f13e9 (y0 : Int) (y1 : Int) (y2 : Nat) (y3 : Int) (y4 : Int) (y5 : Int) (y6 : Option Nat) (y7 : Option Nat) (y8 : Int) (y9 : Int) (y10 : Int) (y11 : Option Nat) (y12 : Option Nat) (y13 : Nat) : Env := AV.int IntKind.i64 y0 :: AV.int IntKind.i64 y1 :: Env.sp 2 (AV.ptr (some (y2, (0 : Nat))) :: AV.int IntKind.i64 y3 :: Env.sp 14 (AV.int IntKind.i64 y4 :: AV.int IntKind.i64 y5 :: AV.map y6 :: AV.map y7 :: AV.agg [AV.int IntKind.i64 y8, AV.int IntKind.i64 y9, AV.int IntKind.i64 y10, AV.map y11, AV.map y12] :: AV.ptr (some (y13, (0 : Nat))) :: []))
def f13e10 (y0 : Nat) (y1 : Int) : Env := Env.sp 4 (AV.ptr (some (y0, (0 : Nat))) :: AV.int IntKind.i64 y1 :: Env.sp 20 [])

/- function 13 -/
theorem f13_eq {R : Type} (call : Bool → CallF R) (dem : Bool) (N : Nat) (y0 : Int) (y1 : Int) (σ : St) (K : AV → St → Option R) :
    bodyK Try.prog call dem N ann 13 [AV.int IntKind.i64 y0, AV.int IntKind.i64 y1] σ K = runK Try.prog call dem N f13c0 f13a0 (bodyC Try.prog f13rs K) (f13e0 y0 y1) σ := bodyK_of (fn := ((Try.prog.funcs[13]?).get rfl)) (by kernel_rfl) (by kernel_rfl) (by kernel_rfl) (by kernel_rfl) (by kernel_rfl) (by kernel_rfl)
theorem f13n0 {R : Type} (call : Bool → CallF R) (dem : Bool) (N : Nat) (J : KF R) (e : Env) (σ : St) : runK Try.prog call dem N f13c0 f13a0 J e σ = runK Try.prog call dem N f13c1 f13a1 (seqC (fun K e σ => runK Try.prog call dem N f13c2 f13a2 K e σ) f13a0 J) e σ := runK_seq' (by kernel_rfl) (by kernel_rfl) (by kernel_rfl)
theorem f13r1_f13e0 {R : Type} (call : Bool → CallF R) (dem : Bool) (N : Nat) (y0 : Int) (y1 : Int) (J : KF R) (σ : St) :
    runK Try.prog call dem N f13c1 f13a1 J (f13e0 y0 y1) σ =
J Ex.normal (f13e1 y0 y1 none (0 : Int)) σ := hide (by kernel_rfl)
theorem f13z0_f13e1 (y0 : Int) (y1 : Int) (y2 : Option (Nat × Nat)) (y3 : Int) : Ann.clr f13a0 (f13e1 y0 y1 y2 y3) = f13e0 y0 y1 := hide (by kernel_rfl)
theorem f13n2 {R : Type} (call : Bool → CallF R) (dem : Bool) (N : Nat) (J : KF R) (e : Env) (σ : St) : runK Try.prog call dem N f13c2 f13a2 J e σ = runK Try.prog call dem N f13c3 f13a3 (seqC (fun K e σ => runK Try.prog call dem N f13c4 f13a4 K e σ) f13a2 J) e σ := runK_seq' (by kernel_rfl) (by kernel_rfl) (by kernel_rfl)
theorem f13n3 {R : Type} (call : Bool → CallF R) (dem : Bool) (N : Nat) (J : KF R) (e : Env) (σ : St) : runK Try.prog call dem N f13c3 f13a3 J e σ = runK Try.prog call dem N f13c5 f13a5 (seqC (fun K e σ => runK Try.prog call dem N f13c6 f13a6 K e σ) f13a3 J) e σ := runK_seq' (by kernel_rfl) (by kernel_rfl) (by kernel_rfl)
theorem f13r5_f13e0 {R : Type} (call : Bool → CallF R) (dem : Bool) (N : Nat) (y0 : Int) (y1 : Int) (J : KF R) (σ : St) :
    runK Try.prog call dem N f13c5 f13a5 J (f13e0 y0 y1) σ =
if decide (y0 < (0 : Int)) = true then J Ex.normal (f13e2 y0 y1 y0 (decide (y0 < (0 : Int))) true true true true true true) σ
else
  if decide (y0 > (4 : Int)) = true then
    J Ex.normal (f13e3 y0 y1 y0 (decide (y0 < (0 : Int))) false y0 (decide (y0 > (4 : Int))) (decide (y0 > (4 : Int))) true true true true) σ
  else
    if decide (y1 < (0 : Int)) = true then
      J Ex.normal
        (f13e4 y0 y1 y0 (decide (y0 < (0 : Int))) false y0 (decide (y0 > (4 : Int))) (decide (y0 > (4 : Int))) false y1 (decide (y1 < (0 : Int)))
          (decide (y1 < (0 : Int))) true true)
        σ
    else
      J Ex.normal
        (f13e5 y0 y1 y0 (decide (y0 < (0 : Int))) false y0 (decide (y0 > (4 : Int))) (decide (y0 > (4 : Int))) false y1 (decide (y1 < (0 : Int)))
          (decide (y1 < (0 : Int))) false y1 (decide (y1 > (3 : Int))) (decide (y1 > (3 : Int))))
        σ := hide (by kernel_rfl)
theorem f13z3_f13e2 (y0 : Int) (y1 : Int) (y2 : Int) (y3 : Bool) (y4 : Bool) (y5 : Bool) (y6 : Bool) (y7 : Bool) (y8 : Bool) (y9 : Bool) : Ann.clr f13a3 (f13e2 y0 y1 y2 y3 y4 y5 y6 y7 y8 y9) = f13e6 y0 y1 y9 := hide (by kernel_rfl)
theorem f13x6_f13e6 {R : Type} (call : Bool → CallF R) (dem : Bool) (N : Nat) (y0 : Int) (y1 : Int) (y2 : Bool) (J : KF R) (σ : St) : runK Try.prog call dem N f13c6 f13a6 J (f13e6 y0 y1 y2) σ = if y2 = true then runK Try.prog call dem N f13c7 f13a7 (condC f13a6 J) (f13e6 y0 y1 y2) σ else runK Try.prog call dem N f13c8 f13a8 (condC f13a6 J) (f13e6 y0 y1 y2) σ := runK_cond' (o := Operand.tmp (19 : Nat)) (by kernel_rfl) (by kernel_rfl) (by kernel_rfl) (by kernel_rfl)
theorem f13n7 {R : Type} (call : Bool → CallF R) (dem : Bool) (N : Nat) (J : KF R) (e : Env) (σ : St) : runK Try.prog call dem N f13c7 f13a7 J e σ = runK Try.prog call dem N f13c9 f13a9 (seqC (fun K e σ => runK Try.prog call dem N f13c10 f13a10 K e σ) f13a7 J) e σ := runK_seq' (by kernel_rfl) (by kernel_rfl) (by kernel_rfl)
theorem f13r9_f13e6 {R : Type} (call : Bool → CallF R) (dem : Bool) (N : Nat) (y0 : Int) (y1 : Int) (y2 : Bool) (J : KF R) (σ : St) :
    runK Try.prog call dem N f13c9 f13a9 J (f13e6 y0 y1 y2) σ =
J Ex.normal (f13e7 y0 y1 none (1 : Int) y2) σ := hide (by kernel_rfl)
theorem f13z7_f13e7 (y0 : Int) (y1 : Int) (y2 : Option (Nat × Nat)) (y3 : Int) (y4 : Bool) : Ann.clr f13a7 (f13e7 y0 y1 y2 y3 y4) = f13e8 y2 y3 := hide (by kernel_rfl)
theorem f13y10_f13e8 {R : Type} (call : Bool → CallF R) (dem : Bool) (N : Nat) (y0 : Option (Nat × Nat)) (y1 : Int) (J : KF R) (σ : St) : runK Try.prog call dem N f13c10 f13a10 J (f13e8 y0 y1) σ = J .ret (f13e8 y0 y1) σ := runK_ret' (by kernel_rfl) (by kernel_rfl)
theorem f13n8 {R : Type} (call : Bool → CallF R) (dem : Bool) (N : Nat) (J : KF R) (e : Env) (σ : St) : runK Try.prog call dem N f13c8 f13a8 J e σ = J .normal e σ := runK_skip' (by kernel_rfl)
theorem f13z6_f13e6 (y0 : Int) (y1 : Int) (y2 : Bool) : Ann.clr f13a6 (f13e6 y0 y1 y2) = f13e0 y0 y1 := hide (by kernel_rfl)
theorem f13z3_f13e3 (y0 : Int) (y1 : Int) (y2 : Int) (y3 : Bool) (y4 : Bool) (y5 : Int) (y6 : Bool) (y7 : Bool) (y8 : Bool) (y9 : Bool) (y10 : Bool) (y11 : Bool) : Ann.clr f13a3 (f13e3 y0 y1 y2 y3 y4 y5 y6 y7 y8 y9 y10 y11) = f13e6 y0 y1 y11 := hide (by kernel_rfl)
theorem f13z3_f13e4 (y0 : Int) (y1 : Int) (y2 : Int) (y3 : Bool) (y4 : Bool) (y5 : Int) (y6 : Bool) (y7 : Bool) (y8 : Bool) (y9 : Int) (y10 : Bool) (y11 : Bool) (y12 : Bool) (y13 : Bool) : Ann.clr f13a3 (f13e4 y0 y1 y2 y3 y4 y5 y6 y7 y8 y9 y10 y11 y12 y13) = f13e6 y0 y1 y13 := hide (by kernel_rfl)
theorem f13z3_f13e5 (y0 : Int) (y1 : Int) (y2 : Int) (y3 : Bool) (y4 : Bool) (y5 : Int) (y6 : Bool) (y7 : Bool) (y8 : Bool) (y9 : Int) (y10 : Bool) (y11 : Bool) (y12 : Bool) (y13 : Int) (y14 : Bool) (y15 : Bool) : Ann.clr f13a3 (f13e5 y0 y1 y2 y3 y4 y5 y6 y7 y8 y9 y10 y11 y12 y13 y14 y15) = f13e6 y0 y1 y15 := hide (by kernel_rfl)
theorem f13z2_f13e0 (y0 : Int) (y1 : Int) : Ann.clr f13a2 (f13e0 y0 y1) = f13e0 y0 y1 := hide (by kernel_rfl)
theorem f13n4 {R : Type} (call : Bool → CallF R) (dem : Bool) (N : Nat) (J : KF R) (e : Env) (σ : St) : runK Try.prog call dem N f13c4 f13a4 J e σ = runK Try.prog call dem N f13c11 f13a11 (seqC (fun K e σ => runK Try.prog call dem N f13c12 f13a12 K e σ) f13a4 J) e σ := runK_seq' (by kernel_rfl) (by kernel_rfl) (by kernel_rfl)
theorem f13r11_f13e0 {R : Type} (call : Bool → CallF R) (dem : Bool) (N : Nat) (y0 : Int) (y1 : Int) (J : KF R) (σ : St) :
    runK Try.prog call dem N f13c11 f13a11 J (f13e0 y0 y1) σ =
J Ex.normal
  (f13e9 y0 y1 (St.next (St.new (St.new σ (Blk.map [] (0 : Nat))) (Blk.map [] (0 : Nat)))) (0 : Int) y0 y1 (some (St.next σ))
    (some (St.next (St.new σ (Blk.map [] (0 : Nat))))) y0 y1 (0 : Int) (some (St.next σ)) (some (St.next (St.new σ (Blk.map [] (0 : Nat)))))
    (St.next (St.new (St.new σ (Blk.map [] (0 : Nat))) (Blk.map [] (0 : Nat)))))
  (St.new (St.new (St.new σ (Blk.map [] (0 : Nat))) (Blk.map [] (0 : Nat)))
    (Blk.cells
      [AV.int IntKind.i64 y0, AV.int IntKind.i64 y1, AV.int IntKind.i64 (0 : Int), AV.map (some (St.next σ)),
        AV.map (some (St.next (St.new σ (Blk.map [] (0 : Nat)))))]
      true)) := hide (by kernel_rfl)
theorem f13z4_f13e9 (y0 : Int) (y1 : Int) (y2 : Nat) (y3 : Int) (y4 : Int) (y5 : Int) (y6 : Option Nat) (y7 : Option Nat) (y8 : Int) (y9 : Int) (y10 : Int) (y11 : Option Nat) (y12 : Option Nat) (y13 : Nat) : Ann.clr f13a4 (f13e9 y0 y1 y2 y3 y4 y5 y6 y7 y8 y9 y10 y11 y12 y13) = f13e10 y2 y3 := hide (by kernel_rfl)
theorem f13y12_f13e10 {R : Type} (call : Bool → CallF R) (dem : Bool) (N : Nat) (y0 : Nat) (y1 : Int) (J : KF R) (σ : St) : runK Try.prog call dem N f13c12 f13a12 J (f13e10 y0 y1) σ = J .ret (f13e10 y0 y1) σ := runK_ret' (by kernel_rfl) (by kernel_rfl)
theorem f13b_f13e8_r {R : Type} (y0 : Option (Nat × Nat)) (y1 : Int) (σ : St) (K : AV → St → Option R) : bodyC Try.prog f13rs K (Ex.ret) (f13e8 y0 y1) σ =
K (AV.tuple [AV.ptr y0, AV.int IntKind.i64 y1]) σ := hide (by kernel_rfl)
theorem f13b_f13e10_r {R : Type} (y0 : Nat) (y1 : Int) (σ : St) (K : AV → St → Option R) : bodyC Try.prog f13rs K (Ex.ret) (f13e10 y0 y1) σ =
K (AV.tuple [AV.ptr (some (y0, (0 : Nat))), AV.int IntKind.i64 y1]) σ := hide (by kernel_rfl)
attribute [go_sem] f13_eq f13n0 f13r1_f13e0 f13z0_f13e1 f13n2 f13n3 f13r5_f13e0 f13z3_f13e2 f13x6_f13e6 f13n7 f13r9_f13e6 f13z7_f13e7 f13y10_f13e8 f13n8 f13z6_f13e6 f13z3_f13e3 f13z3_f13e4 f13z3_f13e5 f13z2_f13e0 f13n4 f13r11_f13e0 f13z4_f13e9 f13y12_f13e10 f13b_f13e8_r f13b_f13e10_r

noncomputable def f16rs : List ResultVar := [ResultVar.tmp (4 : Nat)]
noncomputable def f16c0 : Code := subCode [] (bodyOf Try.prog 16)
def f16a0 : Ann := subAnn [] ann16
noncomputable def f16c1 : Code := subCode [0] (bodyOf Try.prog 16)
def f16a1 : Ann := subAnn [0] ann16
noncomputable def f16c2 : Code := subCode [1] (bodyOf Try.prog 16)
def f16a2 : Ann := subAnn [1] ann16
noncomputable def f16c3 : Code := subCode [1, 0] (bodyOf Try.prog 16)
def f16a3 : Ann := subAnn [1, 0] ann16
noncomputable def f16c4 : Code := subCode [1, 1] (bodyOf Try.prog 16)
def f16a4 : Ann := subAnn [1, 1] ann16
def f16e0 (y0 : Option (Nat × Nat)) (y1 : Int) : Env := AV.ptr y0 :: AV.int IntKind.i64 y1 :: Env.sp 22 []
def f16e1 (y0 : Option (Nat × Nat)) (y1 : Int) (y2 : Bool) : Env := AV.ptr y0 :: AV.int IntKind.i64 y1 :: Env.sp 2 (AV.bool y2 :: Env.sp 19 [])
def f16e2 (y0 : Option (Nat × Nat)) (y1 : Int) (y2 : Bool) (y3 : Option (Nat × Nat)) (y4 : Bool) (y5 : Bool) (y6 : Int) (y7 : Option (Nat × Nat)) (y8 : Option (Nat × Nat)) (y9 : Option (Nat × Nat)) (y10 : Int) (y11 : Bool) (y12 : Bool) (y13 : Bool) (y14 : Int) (y15 : Option (Nat × Nat)) (y16 : Option (Nat × Nat)) (y17 : Option (Nat × Nat)) (y18 : Int) (y19 : Int) (y20 : Bool) (y21 : Bool) : Env := AV.ptr y0 :: AV.int IntKind.i64 y1 :: Env.sp 2 (AV.bool y2 :: AV.ptr y3 :: AV.bool y4 :: AV.bool y5 :: AV.int IntKind.i64 y6 :: AV.ptr y7 :: AV.ptr y8 :: AV.ptr y9 :: AV.int IntKind.i64 y10 :: AV.bool y11 :: AV.bool y12 :: AV.bool y13 :: AV.int IntKind.i64 y14 :: AV.ptr y15 :: AV.ptr y16 :: AV.ptr y17 :: AV.int IntKind.i64 y18 :: AV.int IntKind.i64 y19 :: AV.bool y20 :: AV.bool y21 :: [])
def f16e3 (y0 : Option (Nat × Nat)) (y1 : Int) (y2 : Bool) (y3 : Option (Nat × Nat)) (y4 : Bool) (y5 : Bool) (y6 : Int) (y7 : Option (Nat × Nat)) (y8 : Option (Nat × Nat)) (y9 : Option (Nat × Nat)) (y10 : Int) (y11 : Bool) (y12 : Bool) (y13 : Bool) (y14 : Bool) : Env := AV.ptr y0 :: AV.int IntKind.i64 y1 :: Env.sp 2 (AV.bool y2 :: AV.ptr y3 :: AV.bool y4 :: AV.bool y5 :: AV.int IntKind.i64 y6 :: AV.ptr y7 :: AV.ptr y8 :: AV.ptr y9 :: AV.int IntKind.i64 y10 :: AV.bool y11 :: AV.bool y12 :: AV.bool y13 :: AV.tuple [] :: AV.tuple [] :: AV.tuple [] :: AV.tuple [] :: AV.tuple [] :: AV.tuple [] :: AV.tuple [] :: AV.bool y14 :: [])
def f16e4 (y0 : Option (Nat × Nat)) (y1 : Int) (y2 : Bool) (y3 : Option (Nat × Nat)) (y4 : Bool) (y5 : Bool) (y6 : Bool) (y7 : Bool) (y8 : Bool) : Env := AV.ptr y0 :: AV.int IntKind.i64 y1 :: Env.sp 2 (AV.bool y2 :: AV.ptr y3 :: AV.bool y4 :: AV.bool y5 :: AV.tuple [] :: AV.tuple [] :: AV.tuple [] :: AV.tuple [] :: AV.tuple [] :: AV.tuple [] :: AV.bool y6 :: AV.bool y7 :: AV.tuple [] :: AV.tuple [] :: AV.tuple [] :: AV.tuple [] :: AV.tuple [] :: AV.tuple [] :: AV.tuple [] :: AV.bool y8 :: [])
def f16e5 (y0 : Bool) : Env := Env.sp 4 (AV.bool y0 :: Env.sp 19 [])

/- function 16 -/
theorem f16_eq {R : Type} (call : Bool → CallF R) (dem : Bool) (N : Nat) (y0 : Option (Nat × Nat)) (y1 : Int) (σ : St) (K : AV → St → Option R) :
    bodyK Try.prog call dem N ann 16 [AV.ptr y0, AV.int IntKind.i64 y1] σ K = runK Try.prog call dem N f16c0 f16a0 (bodyC Try.prog f16rs K) (f16e0 y0 y1) σ := bodyK_of (fn := ((Try.prog.funcs[16]?).get rfl)) (by kernel_rfl) (by kernel_rfl) (by kernel_rfl) (by kernel_rfl) (by kernel_rfl) (by kernel_rfl)
theorem f16n0 {R : Type} (call : Bool → CallF R) (dem : Bool) (N : Nat) (J : KF R) (e : Env) (σ : St) : runK Try.prog call dem N f16c0 f16a0 J e σ = runK Try.prog call dem N f16c1 f16a1 (seqC (fun K e σ => runK Try.prog call dem N f16c2 f16a2 K e σ) f16a0 J) e σ := runK_seq' (by kernel_rfl) (by kernel_rfl) (by kernel_rfl)
theorem f16r1_f16e0 {R : Type} (call : Bool → CallF R) (dem : Bool) (N : Nat) (y0 : Option (Nat × Nat)) (y1 : Int) (J : KF R) (σ : St) :
    runK Try.prog call dem N f16c1 f16a1 J (f16e0 y0 y1) σ =
J Ex.normal (f16e1 y0 y1 false) σ := hide (by kernel_rfl)
theorem f16z0_f16e1 (y0 : Option (Nat × Nat)) (y1 : Int) (y2 : Bool) : Ann.clr f16a0 (f16e1 y0 y1 y2) = f16e0 y0 y1 := hide (by kernel_rfl)
theorem f16n2 {R : Type} (call : Bool → CallF R) (dem : Bool) (N : Nat) (J : KF R) (e : Env) (σ : St) : runK Try.prog call dem N f16c2 f16a2 J e σ = runK Try.prog call dem N f16c3 f16a3 (seqC (fun K e σ => runK Try.prog call dem N f16c4 f16a4 K e σ) f16a2 J) e σ := runK_seq' (by kernel_rfl) (by kernel_rfl) (by kernel_rfl)
theorem f16r3_f16e0 {R : Type} (call : Bool → CallF R) (dem : Bool) (N : Nat) (y0 : Option (Nat × Nat)) (y1 : Int) (J : KF R) (σ : St) :
    runK Try.prog call dem N f16c3 f16a3 J (f16e0 y0 y1) σ =
if (!Option.isNone y0) = true then
  Option.bind y0 fun v0 =>
    Option.bind (St.ld σ (Prod.fst v0) (Prod.snd v0 + (2 : Nat))) fun v1 =>
      Option.bind (AV.toInt IntKind.i64 v1) fun v2 =>
        if decide (y1 > v2) = true then
          Option.bind y0 fun v3 =>
            Option.bind (St.ld σ (Prod.fst v3) (Prod.snd v3 + (2 : Nat))) fun v4 =>
              Option.bind (AV.toInt IntKind.i64 v4) fun v5 =>
                J Ex.normal
                  (f16e2 y0 y1 (decide (y1 ≤ IntKind.wrap IntKind.i64 (v5 + (8 : Int)))) y0 (!Option.isNone y0) true y1 y0 (some v0)
                    (some (Prod.fst v0, Prod.snd v0 + (2 : Nat))) v2 (decide (y1 > v2)) (decide (y1 > v2)) true y1 y0 (some v3)
                    (some (Prod.fst v3, Prod.snd v3 + (2 : Nat))) v5 (IntKind.wrap IntKind.i64 (v5 + (8 : Int)))
                    (decide (y1 ≤ IntKind.wrap IntKind.i64 (v5 + (8 : Int)))) (decide (y1 ≤ IntKind.wrap IntKind.i64 (v5 + (8 : Int)))))
                  σ
        else
          J Ex.normal
            (f16e3 y0 y1 false y0 (!Option.isNone y0) true y1 y0 (some v0) (some (Prod.fst v0, Prod.snd v0 + (2 : Nat))) v2 (decide (y1 > v2))
              (decide (y1 > v2)) false false)
            σ
else J Ex.normal (f16e4 y0 y1 false y0 (!Option.isNone y0) false false false false) σ := hide (by kernel_rfl)
theorem f16z2_f16e2 (y0 : Option (Nat × Nat)) (y1 : Int) (y2 : Bool) (y3 : Option (Nat × Nat)) (y4 : Bool) (y5 : Bool) (y6 : Int) (y7 : Option (Nat × Nat)) (y8 : Option (Nat × Nat)) (y9 : Option (Nat × Nat)) (y10 : Int) (y11 : Bool) (y12 : Bool) (y13 : Bool) (y14 : Int) (y15 : Option (Nat × Nat)) (y16 : Option (Nat × Nat)) (y17 : Option (Nat × Nat)) (y18 : Int) (y19 : Int) (y20 : Bool) (y21 : Bool) : Ann.clr f16a2 (f16e2 y0 y1 y2 y3 y4 y5 y6 y7 y8 y9 y10 y11 y12 y13 y14 y15 y16 y17 y18 y19 y20 y21) = f16e5 y2 := hide (by kernel_rfl)
theorem f16y4_f16e5 {R : Type} (call : Bool → CallF R) (dem : Bool) (N : Nat) (y0 : Bool) (J : KF R) (σ : St) : runK Try.prog call dem N f16c4 f16a4 J (f16e5 y0) σ = J .ret (f16e5 y0) σ := runK_ret' (by kernel_rfl) (by kernel_rfl)
theorem f16z2_f16e3 (y0 : Option (Nat × Nat)) (y1 : Int) (y2 : Bool) (y3 : Option (Nat × Nat)) (y4 : Bool) (y5 : Bool) (y6 : Int) (y7 : Option (Nat × Nat)) (y8 : Option (Nat × Nat)) (y9 : Option (Nat × Nat)) (y10 : Int) (y11 : Bool) (y12 : Bool) (y13 : Bool) (y14 : Bool) : Ann.clr f16a2 (f16e3 y0 y1 y2 y3 y4 y5 y6 y7 y8 y9 y10 y11 y12 y13 y14) = f16e5 y2 := hide (by kernel_rfl)
theorem f16z2_f16e4 (y0 : Option (Nat × Nat)) (y1 : Int) (y2 : Bool) (y3 : Option (Nat × Nat)) (y4 : Bool) (y5 : Bool) (y6 : Bool) (y7 : Bool) (y8 : Bool) : Ann.clr f16a2 (f16e4 y0 y1 y2 y3 y4 y5 y6 y7 y8) = f16e5 y2 := hide (by kernel_rfl)
theorem f16b_f16e5_r {R : Type} (y0 : Bool) (σ : St) (K : AV → St → Option R) : bodyC Try.prog f16rs K (Ex.ret) (f16e5 y0) σ =
K (AV.bool y0) σ := hide (by kernel_rfl)
attribute [go_sem] f16_eq f16n0 f16r1_f16e0 f16z0_f16e1 f16n2 f16r3_f16e0 f16z2_f16e2 f16y4_f16e5 f16z2_f16e3 f16z2_f16e4 f16b_f16e5_r

noncomputable def f18rs : List ResultVar := [ResultVar.tmp (2 : Nat)]
noncomputable def f18c0 : Code := subCode [] (bodyOf Try.prog 18)
def f18a0 : Ann := subAnn [] ann18
noncomputable def f18c1 : Code := subCode [0] (bodyOf Try.prog 18)
def f18a1 : Ann := subAnn [0] ann18
noncomputable def f18c2 : Code := subCode [1] (bodyOf Try.prog 18)
def f18a2 : Ann := subAnn [1] ann18
noncomputable def f18c3 : Code := subCode [1, 0] (bodyOf Try.prog 18)
def f18a3 : Ann := subAnn [1, 0] ann18
noncomputable def f18c4 : Code := subCode [1, 1] (bodyOf Try.prog 18)
def f18a4 : Ann := subAnn [1, 1] ann18
noncomputable def f18c5 : Code := subCode [1, 0, 0] (bodyOf Try.prog 18)
def f18a5 : Ann := subAnn [1, 0, 0] ann18
noncomputable def f18c6 : Code := subCode [1, 0, 1] (bodyOf Try.prog 18)
def f18a6 : Ann := subAnn [1, 0, 1] ann18
noncomputable def f18c7 : Code := subCode [1, 0, 1, 0] (bodyOf Try.prog 18)
def f18a7 : Ann := subAnn [1, 0, 1, 0] ann18
noncomputable def f18c8 : Code := subCode [1, 0, 1, 1] (bodyOf Try.prog 18)
def f18a8 : Ann := subAnn [1, 0, 1, 1] ann18
noncomputable def f18c9 : Code := subCode [1, 0, 1, 0, 0] (bodyOf Try.prog 18)
def f18a9 : Ann := subAnn [1, 0, 1, 0, 0] ann18
noncomputable def f18c10 : Code := subCode [1, 0, 1, 0, 1] (bodyOf Try.prog 18)
def f18a10 : Ann := subAnn [1, 0, 1, 0, 1] ann18
noncomputable def f18c11 : Code := subCode [1, 1, 0] (bodyOf Try.prog 18)
def f18a11 : Ann := subAnn [1, 1, 0] ann18
noncomputable def f18c12 : Code := subCode [1, 1, 1] (bodyOf Try.prog 18)
def f18a12 : Ann := subAnn [1, 1, 1] ann18
def f18e0 (y0 : Option (Nat × Nat)) : Env := AV.ptr y0 :: Env.sp 8 []
def f18e1 (y0 : Option (Nat × Nat)) (y1 : Int) : Env := AV.ptr y0 :: Env.sp 1 (AV.int IntKind.i64 y1 :: Env.sp 6 [])
def f18e2 (y0 : Option (Nat × Nat)) (y1 : Option (Nat × Nat)) (y2 : Bool) : Env := AV.ptr y0 :: Env.sp 2 (AV.ptr y1 :: AV.bool y2 :: Env.sp 4 [])
def f18e3 (y0 : Option (Nat × Nat)) (y1 : Bool) : Env := AV.ptr y0 :: Env.sp 3 (AV.bool y1 :: Env.sp 4 [])
def f18e4 (y0 : Option (Nat × Nat)) (y1 : Int) (y2 : Bool) : Env := AV.ptr y0 :: Env.sp 1 (AV.int IntKind.i64 y1 :: Env.sp 1 (AV.bool y2 :: Env.sp 4 []))
def f18e5 (y0 : Int) : Env := Env.sp 2 (AV.int IntKind.i64 y0 :: Env.sp 6 [])
def f18e6 (y0 : Option (Nat × Nat)) (y1 : Int) (y2 : Option (Nat × Nat)) (y3 : Option (Nat × Nat)) (y4 : Option (Nat × Nat)) (y5 : Int) : Env := AV.ptr y0 :: Env.sp 1 (AV.int IntKind.i64 y1 :: Env.sp 2 (AV.ptr y2 :: AV.ptr y3 :: AV.ptr y4 :: AV.int IntKind.i64 y5 :: []))

/- function 18 -/
theorem f18_eq {R : Type} (call : Bool → CallF R) (dem : Bool) (N : Nat) (y0 : Option (Nat × Nat)) (σ : St) (K : AV → St → Option R) :
    bodyK Try.prog call dem N ann 18 [AV.ptr y0] σ K = runK Try.prog call dem N f18c0 f18a0 (bodyC Try.prog f18rs K) (f18e0 y0) σ := bodyK_of (fn := ((Try.prog.funcs[18]?).get rfl)) (by kernel_rfl) (by kernel_rfl) (by kernel_rfl) (by kernel_rfl) (by kernel_rfl) (by kernel_rfl)
theorem f18n0 {R : Type} (call : Bool → CallF R) (dem : Bool) (N : Nat) (J : KF R) (e : Env) (σ : St) : runK Try.prog call dem N f18c0 f18a0 J e σ = runK Try.prog call dem N f18c1 f18a1 (seqC (fun K e σ => runK Try.prog call dem N f18c2 f18a2 K e σ) f18a0 J) e σ := runK_seq' (by kernel_rfl) (by kernel_rfl) (by kernel_rfl)
theorem f18r1_f18e0 {R : Type} (call : Bool → CallF R) (dem : Bool) (N : Nat) (y0 : Option (Nat × Nat)) (J : KF R) (σ : St) :
    runK Try.prog call dem N f18c1 f18a1 J (f18e0 y0) σ =
J Ex.normal (f18e1 y0 (0 : Int)) σ := hide (by kernel_rfl)
theorem f18z0_f18e1 (y0 : Option (Nat × Nat)) (y1 : Int) : Ann.clr f18a0 (f18e1 y0 y1) = f18e0 y0 := hide (by kernel_rfl)
theorem f18n2 {R : Type} (call : Bool → CallF R) (dem : Bool) (N : Nat) (J : KF R) (e : Env) (σ : St) : runK Try.prog call dem N f18c2 f18a2 J e σ = runK Try.prog call dem N f18c3 f18a3 (seqC (fun K e σ => runK Try.prog call dem N f18c4 f18a4 K e σ) f18a2 J) e σ := runK_seq' (by kernel_rfl) (by kernel_rfl) (by kernel_rfl)
theorem f18n3 {R : Type} (call : Bool → CallF R) (dem : Bool) (N : Nat) (J : KF R) (e : Env) (σ : St) : runK Try.prog call dem N f18c3 f18a3 J e σ = runK Try.prog call dem N f18c5 f18a5 (seqC (fun K e σ => runK Try.prog call dem N f18c6 f18a6 K e σ) f18a3 J) e σ := runK_seq' (by kernel_rfl) (by kernel_rfl) (by kernel_rfl)
theorem f18r5_f18e0 {R : Type} (call : Bool → CallF R) (dem : Bool) (N : Nat) (y0 : Option (Nat × Nat)) (J : KF R) (σ : St) :
    runK Try.prog call dem N f18c5 f18a5 J (f18e0 y0) σ =
J Ex.normal (f18e2 y0 y0 (Option.isNone y0)) σ := hide (by kernel_rfl)
theorem f18z3_f18e2 (y0 : Option (Nat × Nat)) (y1 : Option (Nat × Nat)) (y2 : Bool) : Ann.clr f18a3 (f18e2 y0 y1 y2) = f18e3 y0 y2 := hide (by kernel_rfl)
theorem f18x6_f18e3 {R : Type} (call : Bool → CallF R) (dem : Bool) (N : Nat) (y0 : Option (Nat × Nat)) (y1 : Bool) (J : KF R) (σ : St) : runK Try.prog call dem N f18c6 f18a6 J (f18e3 y0 y1) σ = if y1 = true then runK Try.prog call dem N f18c7 f18a7 (condC f18a6 J) (f18e3 y0 y1) σ else runK Try.prog call dem N f18c8 f18a8 (condC f18a6 J) (f18e3 y0 y1) σ := runK_cond' (o := Operand.tmp (4 : Nat)) (by kernel_rfl) (by kernel_rfl) (by kernel_rfl) (by kernel_rfl)
theorem f18n7 {R : Type} (call : Bool → CallF R) (dem : Bool) (N : Nat) (J : KF R) (e : Env) (σ : St) : runK Try.prog call dem N f18c7 f18a7 J e σ = runK Try.prog call dem N f18c9 f18a9 (seqC (fun K e σ => runK Try.prog call dem N f18c10 f18a10 K e σ) f18a7 J) e σ := runK_seq' (by kernel_rfl) (by kernel_rfl) (by kernel_rfl)
theorem f18r9_f18e3 {R : Type} (call : Bool → CallF R) (dem : Bool) (N : Nat) (y0 : Option (Nat × Nat)) (y1 : Bool) (J : KF R) (σ : St) :
    runK Try.prog call dem N f18c9 f18a9 J (f18e3 y0 y1) σ =
J Ex.normal (f18e4 y0 (0 : Int) y1) σ := hide (by kernel_rfl)
theorem f18z7_f18e4 (y0 : Option (Nat × Nat)) (y1 : Int) (y2 : Bool) : Ann.clr f18a7 (f18e4 y0 y1 y2) = f18e5 y1 := hide (by kernel_rfl)
theorem f18y10_f18e5 {R : Type} (call : Bool → CallF R) (dem : Bool) (N : Nat) (y0 : Int) (J : KF R) (σ : St) : runK Try.prog call dem N f18c10 f18a10 J (f18e5 y0) σ = J .ret (f18e5 y0) σ := runK_ret' (by kernel_rfl) (by kernel_rfl)
theorem f18n8 {R : Type} (call : Bool → CallF R) (dem : Bool) (N : Nat) (J : KF R) (e : Env) (σ : St) : runK Try.prog call dem N f18c8 f18a8 J e σ = J .normal e σ := runK_skip' (by kernel_rfl)
theorem f18z6_f18e3 (y0 : Option (Nat × Nat)) (y1 : Bool) : Ann.clr f18a6 (f18e3 y0 y1) = f18e0 y0 := hide (by kernel_rfl)
theorem f18z2_f18e0 (y0 : Option (Nat × Nat)) : Ann.clr f18a2 (f18e0 y0) = f18e0 y0 := hide (by kernel_rfl)
theorem f18n4 {R : Type} (call : Bool → CallF R) (dem : Bool) (N : Nat) (J : KF R) (e : Env) (σ : St) : runK Try.prog call dem N f18c4 f18a4 J e σ = runK Try.prog call dem N f18c11 f18a11 (seqC (fun K e σ => runK Try.prog call dem N f18c12 f18a12 K e σ) f18a4 J) e σ := runK_seq' (by kernel_rfl) (by kernel_rfl) (by kernel_rfl)
theorem f18r11_f18e0 {R : Type} (call : Bool → CallF R) (dem : Bool) (N : Nat) (y0 : Option (Nat × Nat)) (J : KF R) (σ : St) :
    runK Try.prog call dem N f18c11 f18a11 J (f18e0 y0) σ =
Option.bind y0 fun v0 =>
  Option.bind (St.ld σ (Prod.fst v0) (Prod.snd v0 + (2 : Nat))) fun v1 =>
    Option.bind (AV.toInt IntKind.i64 v1) fun v2 => J Ex.normal (f18e6 y0 v2 y0 (some v0) (some (Prod.fst v0, Prod.snd v0 + (2 : Nat))) v2) σ := hide (by kernel_rfl)
theorem f18z4_f18e6 (y0 : Option (Nat × Nat)) (y1 : Int) (y2 : Option (Nat × Nat)) (y3 : Option (Nat × Nat)) (y4 : Option (Nat × Nat)) (y5 : Int) : Ann.clr f18a4 (f18e6 y0 y1 y2 y3 y4 y5) = f18e5 y1 := hide (by kernel_rfl)
theorem f18y12_f18e5 {R : Type} (call : Bool → CallF R) (dem : Bool) (N : Nat) (y0 : Int) (J : KF R) (σ : St) : runK Try.prog call dem N f18c12 f18a12 J (f18e5 y0) σ = J .ret (f18e5 y0) σ := runK_ret' (by kernel_rfl) (by kernel_rfl)
theorem f18b_f18e5_r {R : Type} (y0 : Int) (σ : St) (K : AV → St → Option R) : bodyC Try.prog f18rs K (Ex.ret) (f18e5 y0) σ =
K (AV.int IntKind.i64 y0) σ := hide (by kernel_rfl)
attribute [go_sem] f18_eq f18n0 f18r1_f18e0 f18z0_f18e1 f18n2 f18n3 f18r5_f18e0 f18z3_f18e2 f18x6_f18e3 f18n7 f18r9_f18e3 f18z7_f18e4 f18y10_f18e5 f18n8 f18z6_f18e3 f18z2_f18e0 f18n4 f18r11_f18e0 f18z4_f18e6 f18y12_f18e5 f18b_f18e5_r

noncomputable def f39rs : List ResultVar := [ResultVar.tmp (2 : Nat)]
noncomputable def f39c0 : Code := subCode [] (bodyOf Try.prog 39)
def f39a0 : Ann := subAnn [] ann39
noncomputable def f39c1 : Code := subCode [0] (bodyOf Try.prog 39)
def f39a1 : Ann := subAnn [0] ann39
noncomputable def f39c2 : Code := subCode [1] (bodyOf Try.prog 39)
def f39a2 : Ann := subAnn [1] ann39
noncomputable def f39c3 : Code := subCode [1, 0] (bodyOf Try.prog 39)
def f39a3 : Ann := subAnn [1, 0] ann39
noncomputable def f39c4 : Code := subCode [1, 1] (bodyOf Try.prog 39)
def f39a4 : Ann := subAnn [1, 1] ann39
noncomputable def f39c5 : Code := subCode [1, 0, 0] (bodyOf Try.prog 39)
def f39a5 : Ann := subAnn [1, 0, 0] ann39
noncomputable def f39c6 : Code := subCode [1, 0, 1] (bodyOf Try.prog 39)
def f39a6 : Ann := subAnn [1, 0, 1] ann39
noncomputable def f39c7 : Code := subCode [1, 0, 1, 0] (bodyOf Try.prog 39)
def f39a7 : Ann := subAnn [1, 0, 1, 0] ann39
noncomputable def f39c8 : Code := subCode [1, 0, 1, 1] (bodyOf Try.prog 39)
def f39a8 : Ann := subAnn [1, 0, 1, 1] ann39
noncomputable def f39c9 : Code := subCode [1, 0, 1, 0, 0] (bodyOf Try.prog 39)
def f39a9 : Ann := subAnn [1, 0, 1, 0, 0] ann39
noncomputable def f39c10 : Code := subCode [1, 0, 1, 0, 1] (bodyOf Try.prog 39)
def f39a10 : Ann := subAnn [1, 0, 1, 0, 1] ann39
noncomputable def f39c11 : Code := subCode [1, 1, 0] (bodyOf Try.prog 39)
def f39a11 : Ann := subAnn [1, 1, 0] ann39
noncomputable def f39c12 : Code := subCode [1, 1, 1] (bodyOf Try.prog 39)
def f39a12 : Ann := subAnn [1, 1, 1] ann39
def f39e0 (y0 : Option (Nat × Nat)) : Env := AV.ptr y0 :: Env.sp 9 []
def f39e1 (y0 : Option (Nat × Nat)) (y1 : Int) : Env := AV.ptr y0 :: Env.sp 1 (AV.int IntKind.i64 y1 :: Env.sp 7 [])
def f39e2 (y0 : Option (Nat × Nat)) (y1 : Option (Nat × Nat)) (y2 : Bool) : Env := AV.ptr y0 :: Env.sp 2 (AV.ptr y1 :: AV.bool y2 :: Env.sp 5 [])
def f39e3 (y0 : Option (Nat × Nat)) (y1 : Bool) : Env := AV.ptr y0 :: Env.sp 3 (AV.bool y1 :: Env.sp 5 [])
def f39e4 (y0 : Option (Nat × Nat)) (y1 : Int) (y2 : Bool) : Env := AV.ptr y0 :: Env.sp 1 (AV.int IntKind.i64 y1 :: Env.sp 1 (AV.bool y2 :: Env.sp 5 []))
def f39e5 (y0 : Int) : Env := Env.sp 2 (AV.int IntKind.i64 y0 :: Env.sp 7 [])
def f39e6 (y0 : Option (Nat × Nat)) (y1 : Int) (y2 : Option (Nat × Nat)) (y3 : Option (Nat × Nat)) (y4 : Option (Nat × Nat)) (y5 : Option Nat) (y6 : Int) : Env := AV.ptr y0 :: Env.sp 1 (AV.int IntKind.i64 y1 :: Env.sp 2 (AV.ptr y2 :: AV.ptr y3 :: AV.ptr y4 :: AV.map y5 :: AV.int IntKind.i64 y6 :: []))

/- function 39 -/
theorem f39_eq {R : Type} (call : Bool → CallF R) (dem : Bool) (N : Nat) (y0 : Option (Nat × Nat)) (σ : St) (K : AV → St → Option R) :
    bodyK Try.prog call dem N ann 39 [AV.ptr y0] σ K = runK Try.prog call dem N f39c0 f39a0 (bodyC Try.prog f39rs K) (f39e0 y0) σ := bodyK_of (fn := ((Try.prog.funcs[39]?).get rfl)) (by kernel_rfl) (by kernel_rfl) (by kernel_rfl) (by kernel_rfl) (by kernel_rfl) (by kernel_rfl)
theorem f39n0 {R : Type} (call : Bool → CallF R) (dem : Bool) (N : Nat) (J : KF R) (e : Env) (σ : St) : runK Try.prog call dem N f39c0 f39a0 J e σ = runK Try.prog call dem N f39c1 f39a1 (seqC (fun K e σ => runK Try.prog call dem N f39c2 f39a2 K e σ) f39a0 J) e σ := runK_seq' (by kernel_rfl) (by kernel_rfl) (by kernel_rfl)
theorem f39r1_f39e0 {R : Type} (call : Bool → CallF R) (dem : Bool) (N : Nat) (y0 : Option (Nat × Nat)) (J : KF R) (σ : St) :
    runK Try.prog call dem N f39c1 f39a1 J (f39e0 y0) σ =
J Ex.normal (f39e1 y0 (0 : Int)) σ := hide (by kernel_rfl)
theorem f39z0_f39e1 (y0 : Option (Nat × Nat)) (y1 : Int) : Ann.clr f39a0 (f39e1 y0 y1) = f39e0 y0 := hide (by kernel_rfl)
theorem f39n2 {R : Type} (call : Bool → CallF R) (dem : Bool) (N : Nat) (J : KF R) (e : Env) (σ : St) : runK Try.prog call dem N f39c2 f39a2 J e σ = runK Try.prog call dem N f39c3 f39a3 (seqC (fun K e σ => runK Try.prog call dem N f39c4 f39a4 K e σ) f39a2 J) e σ := runK_seq' (by kernel_rfl) (by kernel_rfl) (by kernel_rfl)
theorem f39n3 {R : Type} (call : Bool → CallF R) (dem : Bool) (N : Nat) (J : KF R) (e : Env) (σ : St) : runK Try.prog call dem N f39c3 f39a3 J e σ = runK Try.prog call dem N f39c5 f39a5 (seqC (fun K e σ => runK Try.prog call dem N f39c6 f39a6 K e σ) f39a3 J) e σ := runK_seq' (by kernel_rfl) (by kernel_rfl) (by kernel_rfl)
theorem f39r5_f39e0 {R : Type} (call : Bool → CallF R) (dem : Bool) (N : Nat) (y0 : Option (Nat × Nat)) (J : KF R) (σ : St) :
    runK Try.prog call dem N f39c5 f39a5 J (f39e0 y0) σ =
J Ex.normal (f39e2 y0 y0 (Option.isNone y0)) σ := hide (by kernel_rfl)
theorem f39z3_f39e2 (y0 : Option (Nat × Nat)) (y1 : Option (Nat × Nat)) (y2 : Bool) : Ann.clr f39a3 (f39e2 y0 y1 y2) = f39e3 y0 y2 := hide (by kernel_rfl)
theorem f39x6_f39e3 {R : Type} (call : Bool → CallF R) (dem : Bool) (N : Nat) (y0 : Option (Nat × Nat)) (y1 : Bool) (J : KF R) (σ : St) : runK Try.prog call dem N f39c6 f39a6 J (f39e3 y0 y1) σ = if y1 = true then runK Try.prog call dem N f39c7 f39a7 (condC f39a6 J) (f39e3 y0 y1) σ else runK Try.prog call dem N f39c8 f39a8 (condC f39a6 J) (f39e3 y0 y1) σ := runK_cond' (o := Operand.tmp (4 : Nat)) (by kernel_rfl) (by kernel_rfl) (by kernel_rfl) (by kernel_rfl)
theorem f39n7 {R : Type} (call : Bool → CallF R) (dem : Bool) (N : Nat) (J : KF R) (e : Env) (σ : St) : runK Try.prog call dem N f39c7 f39a7 J e σ = runK Try.prog call dem N f39c9 f39a9 (seqC (fun K e σ => runK Try.prog call dem N f39c10 f39a10 K e σ) f39a7 J) e σ := runK_seq' (by kernel_rfl) (by kernel_rfl) (by kernel_rfl)
theorem f39r9_f39e3 {R : Type} (call : Bool → CallF R) (dem : Bool) (N : Nat) (y0 : Option (Nat × Nat)) (y1 : Bool) (J : KF R) (σ : St) :
    runK Try.prog call dem N f39c9 f39a9 J (f39e3 y0 y1) σ =
J Ex.normal (f39e4 y0 (0 : Int) y1) σ := hide (by kernel_rfl)
theorem f39z7_f39e4 (y0 : Option (Nat × Nat)) (y1 : Int) (y2 : Bool) : Ann.clr f39a7 (f39e4 y0 y1 y2) = f39e5 y1 := hide (by kernel_rfl)
theorem f39y10_f39e5 {R : Type} (call : Bool → CallF R) (dem : Bool) (N : Nat) (y0 : Int) (J : KF R) (σ : St) : runK Try.prog call dem N f39c10 f39a10 J (f39e5 y0) σ = J .ret (f39e5 y0) σ := runK_ret' (by kernel_rfl) (by kernel_rfl)
theorem f39n8 {R : Type} (call : Bool → CallF R) (dem : Bool) (N : Nat) (J : KF R) (e : Env) (σ : St) : runK Try.prog call dem N f39c8 f39a8 J e σ = J .normal e σ := runK_skip' (by kernel_rfl)
theorem f39z6_f39e3 (y0 : Option (Nat × Nat)) (y1 : Bool) : Ann.clr f39a6 (f39e3 y0 y1) = f39e0 y0 := hide (by kernel_rfl)
theorem f39z2_f39e0 (y0 : Option (Nat × Nat)) : Ann.clr f39a2 (f39e0 y0) = f39e0 y0 := hide (by kernel_rfl)
theorem f39n4 {R : Type} (call : Bool → CallF R) (dem : Bool) (N : Nat) (J : KF R) (e : Env) (σ : St) : runK Try.prog call dem N f39c4 f39a4 J e σ = runK Try.prog call dem N f39c11 f39a11 (seqC (fun K e σ => runK Try.prog call dem N f39c12 f39a12 K e σ) f39a4 J) e σ := runK_seq' (by kernel_rfl) (by kernel_rfl) (by kernel_rfl)
theorem f39r11_f39e0 {R : Type} (call : Bool → CallF R) (dem : Bool) (N : Nat) (y0 : Option (Nat × Nat)) (J : KF R) (σ : St) :
    runK Try.prog call dem N f39c11 f39a11 J (f39e0 y0) σ =
Option.bind y0 fun v0 =>
  Option.bind (St.ld σ (Prod.fst v0) (Prod.snd v0 + (3 : Nat))) fun v1 =>
    Option.bind (AV.toMap v1) fun v2 =>
      Option.bind (St.entries σ v2) fun v3 =>
        J Ex.normal (f39e6 y0 (↑(List.length v3) : Int) y0 (some v0) (some (Prod.fst v0, Prod.snd v0 + (3 : Nat))) v2 (↑(List.length v3) : Int)) σ := hide (by kernel_rfl)
theorem f39z4_f39e6 (y0 : Option (Nat × Nat)) (y1 : Int) (y2 : Option (Nat × Nat)) (y3 : Option (Nat × Nat)) (y4 : Option (Nat × Nat)) (y5 : Option Nat) (y6 : Int) : Ann.clr f39a4 (f39e6 y0 y1 y2 y3 y4 y5 y6) = f39e5 y1 := hide (by kernel_rfl)
theorem f39y12_f39e5 {R : Type} (call : Bool → CallF R) (dem : Bool) (N : Nat) (y0 : Int) (J : KF R) (σ : St) : runK Try.prog call dem N f39c12 f39a12 J (f39e5 y0) σ = J .ret (f39e5 y0) σ := runK_ret' (by kernel_rfl) (by kernel_rfl)
theorem f39b_f39e5_r {R : Type} (y0 : Int) (σ : St) (K : AV → St → Option R) : bodyC Try.prog f39rs K (Ex.ret) (f39e5 y0) σ =
K (AV.int IntKind.i64 y0) σ := hide (by kernel_rfl)
attribute [go_sem] f39_eq f39n0 f39r1_f39e0 f39z0_f39e1 f39n2 f39n3 f39r5_f39e0 f39z3_f39e2 f39x6_f39e3 f39n7 f39r9_f39e3 f39z7_f39e4 f39y10_f39e5 f39n8 f39z6_f39e3 f39z2_f39e0 f39n4 f39r11_f39e0 f39z4_f39e6 f39y12_f39e5 f39b_f39e5_r

noncomputable def f43rs : List ResultVar := [ResultVar.tmp (6 : Nat)]
noncomputable def f43c0 : Code := subCode [] (bodyOf Try.prog 43)
def f43a0 : Ann := subAnn [] ann43
noncomputable def f43c1 : Code := subCode [0] (bodyOf Try.prog 43)
def f43a1 : Ann := subAnn [0] ann43
noncomputable def f43c2 : Code := subCode [1] (bodyOf Try.prog 43)
def f43a2 : Ann := subAnn [1] ann43
noncomputable def f43c3 : Code := subCode [1, 0] (bodyOf Try.prog 43)
def f43a3 : Ann := subAnn [1, 0] ann43
noncomputable def f43c4 : Code := subCode [1, 1] (bodyOf Try.prog 43)
def f43a4 : Ann := subAnn [1, 1] ann43
noncomputable def f43c5 : Code := subCode [1, 0, 0] (bodyOf Try.prog 43)
def f43a5 : Ann := subAnn [1, 0, 0] ann43
noncomputable def f43c6 : Code := subCode [1, 0, 0, 0] (bodyOf Try.prog 43)
def f43a6 : Ann := subAnn [1, 0, 0, 0] ann43
noncomputable def f43c7 : Code := subCode [1, 0, 0, 1] (bodyOf Try.prog 43)
def f43a7 : Ann := subAnn [1, 0, 0, 1] ann43
noncomputable def f43c8 : Code := subCode [1, 0, 0, 1, 0] (bodyOf Try.prog 43)
def f43a8 : Ann := subAnn [1, 0, 0, 1, 0] ann43
noncomputable def f43c9 : Code := subCode [1, 0, 0, 1, 1] (bodyOf Try.prog 43)
def f43a9 : Ann := subAnn [1, 0, 0, 1, 1] ann43
noncomputable def f43c10 : Code := subCode [1, 0, 0, 1, 0, 0] (bodyOf Try.prog 43)
def f43a10 : Ann := subAnn [1, 0, 0, 1, 0, 0] ann43
noncomputable def f43c11 : Code := subCode [1, 0, 0, 1, 0, 1] (bodyOf Try.prog 43)
def f43a11 : Ann := subAnn [1, 0, 0, 1, 0, 1] ann43
noncomputable def f43c12 : Code := subCode [1, 0, 0, 1, 1, 0] (bodyOf Try.prog 43)
def f43a12 : Ann := subAnn [1, 0, 0, 1, 1, 0] ann43
noncomputable def f43c13 : Code := subCode [1, 0, 0, 1, 1, 1] (bodyOf Try.prog 43)
def f43a13 : Ann := subAnn [1, 0, 0, 1, 1, 1] ann43
noncomputable def f43c14 : Code := subCode [1, 0, 0, 1, 1, 1, 0] (bodyOf Try.prog 43)
def f43a14 : Ann := subAnn [1, 0, 0, 1, 1, 1, 0] ann43
noncomputable def f43c15 : Code := subCode [1, 0, 0, 1, 1, 1, 1] (bodyOf Try.prog 43)
def f43a15 : Ann := subAnn [1, 0, 0, 1, 1, 1, 1] ann43
noncomputable def f43c16 : Code := subCode [1, 0, 0, 1, 1, 1, 0, 0] (bodyOf Try.prog 43)
def f43a16 : Ann := subAnn [1, 0, 0, 1, 1, 1, 0, 0] ann43
noncomputable def f43c17 : Code := subCode [1, 0, 0, 1, 1, 1, 0, 1] (bodyOf Try.prog 43)
def f43a17 : Ann := subAnn [1, 0, 0, 1, 1, 1, 0, 1] ann43
noncomputable def f43c18 : Code := subCode [1, 0, 0, 1, 1, 1, 1, 0] (bodyOf Try.prog 43)
def f43a18 : Ann := subAnn [1, 0, 0, 1, 1, 1, 1, 0] ann43
noncomputable def f43c19 : Code := subCode [1, 0, 0, 1, 1, 1, 1, 1] (bodyOf Try.prog 43)
def f43a19 : Ann := subAnn [1, 0, 0, 1, 1, 1, 1, 1] ann43
noncomputable def f43c20 : Code := subCode [1, 0, 0, 1, 1, 1, 1, 1, 0] (bodyOf Try.prog 43)
def f43a20 : Ann := subAnn [1, 0, 0, 1, 1, 1, 1, 1, 0] ann43
noncomputable def f43c21 : Code := subCode [1, 0, 0, 1, 1, 1, 1, 1, 1] (bodyOf Try.prog 43)
def f43a21 : Ann := subAnn [1, 0, 0, 1, 1, 1, 1, 1, 1] ann43
noncomputable def f43c22 : Code := subCode [1, 0, 0, 1, 1, 1, 1, 1, 0, 0] (bodyOf Try.prog 43)
def f43a22 : Ann := subAnn [1, 0, 0, 1, 1, 1, 1, 1, 0, 0] ann43
noncomputable def f43c23 : Code := subCode [1, 0, 0, 1, 1, 1, 1, 1, 0, 1] (bodyOf Try.prog 43)
def f43a23 : Ann := subAnn [1, 0, 0, 1, 1, 1, 1, 1, 0, 1] ann43
noncomputable def f43c24 : Code := subCode [1, 1, 0] (bodyOf Try.prog 43)
def f43a24 : Ann := subAnn [1, 1, 0] ann43
noncomputable def f43c25 : Code := subCode [1, 1, 1] (bodyOf Try.prog 43)
def f43a25 : Ann := subAnn [1, 1, 1] ann43
def f43e0 (y0 : Option (Nat × Nat)) (y1 : Int) (y2 : Int) : Env := AV.ptr y0 :: AV.int IntKind.i64 y1 :: AV.int IntKind.i64 y2 :: Env.sp 19 []
def f43e1 (y0 : Option (Nat × Nat)) (y1 : Int) (y2 : Int) (y3 : Int) : Env := AV.ptr y0 :: AV.int IntKind.i64 y1 :: AV.int IntKind.i64 y2 :: Env.sp 3 (AV.int IntKind.i64 y3 :: Env.sp 15 [])
def f43e2 (y0 : Option (Nat × Nat)) (y1 : Int) (y2 : Int) (y3 : Bool) (y4 : Int) (y5 : Bool) (y6 : Bool) (y7 : Bool) : Env := AV.ptr y0 :: AV.int IntKind.i64 y1 :: AV.int IntKind.i64 y2 :: Env.sp 4 (AV.bool y3 :: AV.int IntKind.i64 y4 :: AV.bool y5 :: AV.bool y6 :: AV.tuple [] :: AV.tuple [] :: AV.bool y7 :: Env.sp 8 [])
def f43e3 (y0 : Option (Nat × Nat)) (y1 : Int) (y2 : Int) (y3 : Bool) (y4 : Int) (y5 : Bool) (y6 : Bool) (y7 : Int) (y8 : Bool) (y9 : Bool) : Env := AV.ptr y0 :: AV.int IntKind.i64 y1 :: AV.int IntKind.i64 y2 :: Env.sp 4 (AV.bool y3 :: AV.int IntKind.i64 y4 :: AV.bool y5 :: AV.bool y6 :: AV.int IntKind.i64 y7 :: AV.bool y8 :: AV.bool y9 :: Env.sp 8 [])
def f43e4 (y0 : Option (Nat × Nat)) (y1 : Int) (y2 : Bool) : Env := AV.ptr y0 :: Env.sp 1 (AV.int IntKind.i64 y1 :: Env.sp 4 (AV.bool y2 :: Env.sp 14 []))
def f43e5 (y0 : Option (Nat × Nat)) (y1 : Int) (y2 : Int) (y3 : Bool) : Env := AV.ptr y0 :: Env.sp 1 (AV.int IntKind.i64 y1 :: Env.sp 3 (AV.int IntKind.i64 y2 :: AV.bool y3 :: Env.sp 14 []))
def f43e6 (y0 : Int) : Env := Env.sp 6 (AV.int IntKind.i64 y0 :: Env.sp 15 [])
def f43e7 (y0 : Option (Nat × Nat)) (y1 : Int) (y2 : Bool) (y3 : Bool) (y4 : Option (Nat × Nat)) (y5 : Bool) : Env := AV.ptr y0 :: Env.sp 1 (AV.int IntKind.i64 y1 :: Env.sp 4 (AV.bool y2 :: Env.sp 6 (AV.bool y3 :: AV.ptr y4 :: AV.bool y5 :: Env.sp 5 [])))
def f43e8 (y0 : Option (Nat × Nat)) (y1 : Int) (y2 : Bool) : Env := AV.ptr y0 :: Env.sp 1 (AV.int IntKind.i64 y1 :: Env.sp 11 (AV.bool y2 :: Env.sp 7 []))
def f43e9 (y0 : Option (Nat × Nat)) (y1 : Int) (y2 : Int) (y3 : Bool) : Env := AV.ptr y0 :: Env.sp 1 (AV.int IntKind.i64 y1 :: Env.sp 3 (AV.int IntKind.i64 y2 :: Env.sp 7 (AV.bool y3 :: Env.sp 7 [])))
def f43e10 (y0 : Option (Nat × Nat)) (y1 : Int) (y2 : Bool) (y3 : Bool) (y4 : Option (Nat × Nat)) (y5 : Int) (y6 : Bool) (y7 : Bool) : Env := AV.ptr y0 :: Env.sp 1 (AV.int IntKind.i64 y1 :: Env.sp 11 (AV.bool y2 :: Env.sp 2 (AV.bool y3 :: AV.ptr y4 :: AV.int IntKind.i64 y5 :: AV.bool y6 :: AV.bool y7 :: [])))
def f43e11 (y0 : Bool) : Env := Env.sp 17 (AV.bool y0 :: Env.sp 4 [])
def f43e12 (y0 : Int) (y1 : Bool) : Env := Env.sp 6 (AV.int IntKind.i64 y0 :: Env.sp 10 (AV.bool y1 :: Env.sp 4 []))
def f43e13 : Env := Env.sp 22 []

/- function 43 -/
theorem f43_eq {R : Type} (call : Bool → CallF R) (dem : Bool) (N : Nat) (y0 : Option (Nat × Nat)) (y1 : Int) (y2 : Int) (σ : St) (K : AV → St → Option R) :
    bodyK Try.prog call dem N ann 43 [AV.ptr y0, AV.int IntKind.i64 y1, AV.int IntKind.i64 y2] σ K = runK Try.prog call dem N f43c0 f43a0 (bodyC Try.prog f43rs K) (f43e0 y0 y1 y2) σ := bodyK_of (fn := ((Try.prog.funcs[43]?).get rfl)) (by kernel_rfl) (by kernel_rfl) (by kernel_rfl) (by kernel_rfl) (by kernel_rfl) (by kernel_rfl)
theorem f43n0 {R : Type} (call : Bool → CallF R) (dem : Bool) (N : Nat) (J : KF R) (e : Env) (σ : St) : runK Try.prog call dem N f43c0 f43a0 J e σ = runK Try.prog call dem N f43c1 f43a1 (seqC (fun K e σ => runK Try.prog call dem N f43c2 f43a2 K e σ) f43a0 J) e σ := runK_seq' (by kernel_rfl) (by kernel_rfl) (by kernel_rfl)
theorem f43r1_f43e0 {R : Type} (call : Bool → CallF R) (dem : Bool) (N : Nat) (y0 : Option (Nat × Nat)) (y1 : Int) (y2 : Int) (J : KF R) (σ : St) :
    runK Try.prog call dem N f43c1 f43a1 J (f43e0 y0 y1 y2) σ =
J Ex.normal (f43e1 y0 y1 y2 (0 : Int)) σ := hide (by kernel_rfl)
theorem f43z0_f43e1 (y0 : Option (Nat × Nat)) (y1 : Int) (y2 : Int) (y3 : Int) : Ann.clr f43a0 (f43e1 y0 y1 y2 y3) = f43e0 y0 y1 y2 := hide (by kernel_rfl)
theorem f43n2 {R : Type} (call : Bool → CallF R) (dem : Bool) (N : Nat) (J : KF R) (e : Env) (σ : St) : runK Try.prog call dem N f43c2 f43a2 J e σ = runK Try.prog call dem N f43c3 f43a3 (seqC (fun K e σ => runK Try.prog call dem N f43c4 f43a4 K e σ) f43a2 J) e σ := runK_seq' (by kernel_rfl) (by kernel_rfl) (by kernel_rfl)
theorem f43n3 {R : Type} (call : Bool → CallF R) (dem : Bool) (N : Nat) (J : KF R) (e : Env) (σ : St) : runK Try.prog call dem N f43c3 f43a3 J e σ = runK Try.prog call dem N f43c5 f43a5 (blockC 0 f43a3 J) e σ := runK_block' (by kernel_rfl) (by kernel_rfl)
theorem f43n5 {R : Type} (call : Bool → CallF R) (dem : Bool) (N : Nat) (J : KF R) (e : Env) (σ : St) : runK Try.prog call dem N f43c5 f43a5 J e σ = runK Try.prog call dem N f43c6 f43a6 (seqC (fun K e σ => runK Try.prog call dem N f43c7 f43a7 K e σ) f43a5 J) e σ := runK_seq' (by kernel_rfl) (by kernel_rfl) (by kernel_rfl)
theorem f43r6_f43e0 {R : Type} (call : Bool → CallF R) (dem : Bool) (N : Nat) (y0 : Option (Nat × Nat)) (y1 : Int) (y2 : Int) (J : KF R) (σ : St) :
    runK Try.prog call dem N f43c6 f43a6 J (f43e0 y0 y1 y2) σ =
if decide (y1 < (0 : Int)) = true then J Ex.normal (f43e2 y0 y1 y2 true y1 (decide (y1 < (0 : Int))) true true) σ
else
  J Ex.normal
    (f43e3 y0 y1 y2 (decide (y1 > (1099511627776 : Int))) y1 (decide (y1 < (0 : Int))) false y1 (decide (y1 > (1099511627776 : Int)))
      (decide (y1 > (1099511627776 : Int))))
    σ := hide (by kernel_rfl)
theorem f43z5_f43e2 (y0 : Option (Nat × Nat)) (y1 : Int) (y2 : Int) (y3 : Bool) (y4 : Int) (y5 : Bool) (y6 : Bool) (y7 : Bool) : Ann.clr f43a5 (f43e2 y0 y1 y2 y3 y4 y5 y6 y7) = f43e4 y0 y2 y3 := hide (by kernel_rfl)
theorem f43x7_f43e4 {R : Type} (call : Bool → CallF R) (dem : Bool) (N : Nat) (y0 : Option (Nat × Nat)) (y1 : Int) (y2 : Bool) (J : KF R) (σ : St) : runK Try.prog call dem N f43c7 f43a7 J (f43e4 y0 y1 y2) σ = if y2 = true then runK Try.prog call dem N f43c8 f43a8 (condC f43a7 J) (f43e4 y0 y1 y2) σ else runK Try.prog call dem N f43c9 f43a9 (condC f43a7 J) (f43e4 y0 y1 y2) σ := runK_cond' (o := Operand.tmp (7 : Nat)) (by kernel_rfl) (by kernel_rfl) (by kernel_rfl) (by kernel_rfl)
theorem f43n8 {R : Type} (call : Bool → CallF R) (dem : Bool) (N : Nat) (J : KF R) (e : Env) (σ : St) : runK Try.prog call dem N f43c8 f43a8 J e σ = runK Try.prog call dem N f43c10 f43a10 (seqC (fun K e σ => runK Try.prog call dem N f43c11 f43a11 K e σ) f43a8 J) e σ := runK_seq' (by kernel_rfl) (by kernel_rfl) (by kernel_rfl)
theorem f43r10_f43e4 {R : Type} (call : Bool → CallF R) (dem : Bool) (N : Nat) (y0 : Option (Nat × Nat)) (y1 : Int) (y2 : Bool) (J : KF R) (σ : St) :
    runK Try.prog call dem N f43c10 f43a10 J (f43e4 y0 y1 y2) σ =
J Ex.normal (f43e5 y0 y1 (1 : Int) y2) σ := hide (by kernel_rfl)
theorem f43z8_f43e5 (y0 : Option (Nat × Nat)) (y1 : Int) (y2 : Int) (y3 : Bool) : Ann.clr f43a8 (f43e5 y0 y1 y2 y3) = f43e6 y2 := hide (by kernel_rfl)
theorem f43y11_f43e6 {R : Type} (call : Bool → CallF R) (dem : Bool) (N : Nat) (y0 : Int) (J : KF R) (σ : St) : runK Try.prog call dem N f43c11 f43a11 J (f43e6 y0) σ = J .ret (f43e6 y0) σ := runK_ret' (by kernel_rfl) (by kernel_rfl)
theorem f43n9 {R : Type} (call : Bool → CallF R) (dem : Bool) (N : Nat) (J : KF R) (e : Env) (σ : St) : runK Try.prog call dem N f43c9 f43a9 J e σ = runK Try.prog call dem N f43c12 f43a12 (seqC (fun K e σ => runK Try.prog call dem N f43c13 f43a13 K e σ) f43a9 J) e σ := runK_seq' (by kernel_rfl) (by kernel_rfl) (by kernel_rfl)
theorem f43r12_f43e4 {R : Type} (call : Bool → CallF R) (dem : Bool) (N : Nat) (y0 : Option (Nat × Nat)) (y1 : Int) (y2 : Bool) (J : KF R) (σ : St) :
    runK Try.prog call dem N f43c12 f43a12 J (f43e4 y0 y1 y2) σ =
J Ex.normal (f43e7 y0 y1 y2 (Option.isNone y0) y0 (Option.isNone y0)) σ := hide (by kernel_rfl)
theorem f43z9_f43e7 (y0 : Option (Nat × Nat)) (y1 : Int) (y2 : Bool) (y3 : Bool) (y4 : Option (Nat × Nat)) (y5 : Bool) : Ann.clr f43a9 (f43e7 y0 y1 y2 y3 y4 y5) = f43e8 y0 y1 y3 := hide (by kernel_rfl)
theorem f43x13_f43e8 {R : Type} (call : Bool → CallF R) (dem : Bool) (N : Nat) (y0 : Option (Nat × Nat)) (y1 : Int) (y2 : Bool) (J : KF R) (σ : St) : runK Try.prog call dem N f43c13 f43a13 J (f43e8 y0 y1 y2) σ = if y2 = true then runK Try.prog call dem N f43c14 f43a14 (condC f43a13 J) (f43e8 y0 y1 y2) σ else runK Try.prog call dem N f43c15 f43a15 (condC f43a13 J) (f43e8 y0 y1 y2) σ := runK_cond' (o := Operand.tmp (14 : Nat)) (by kernel_rfl) (by kernel_rfl) (by kernel_rfl) (by kernel_rfl)
theorem f43n14 {R : Type} (call : Bool → CallF R) (dem : Bool) (N : Nat) (J : KF R) (e : Env) (σ : St) : runK Try.prog call dem N f43c14 f43a14 J e σ = runK Try.prog call dem N f43c16 f43a16 (seqC (fun K e σ => runK Try.prog call dem N f43c17 f43a17 K e σ) f43a14 J) e σ := runK_seq' (by kernel_rfl) (by kernel_rfl) (by kernel_rfl)
theorem f43r16_f43e8 {R : Type} (call : Bool → CallF R) (dem : Bool) (N : Nat) (y0 : Option (Nat × Nat)) (y1 : Int) (y2 : Bool) (J : KF R) (σ : St) :
    runK Try.prog call dem N f43c16 f43a16 J (f43e8 y0 y1 y2) σ =
J Ex.normal (f43e9 y0 y1 (7 : Int) y2) σ := hide (by kernel_rfl)
theorem f43z14_f43e9 (y0 : Option (Nat × Nat)) (y1 : Int) (y2 : Int) (y3 : Bool) : Ann.clr f43a14 (f43e9 y0 y1 y2 y3) = f43e6 y2 := hide (by kernel_rfl)
theorem f43y17_f43e6 {R : Type} (call : Bool → CallF R) (dem : Bool) (N : Nat) (y0 : Int) (J : KF R) (σ : St) : runK Try.prog call dem N f43c17 f43a17 J (f43e6 y0) σ = J .ret (f43e6 y0) σ := runK_ret' (by kernel_rfl) (by kernel_rfl)
theorem f43n15 {R : Type} (call : Bool → CallF R) (dem : Bool) (N : Nat) (J : KF R) (e : Env) (σ : St) : runK Try.prog call dem N f43c15 f43a15 J e σ = runK Try.prog call dem N f43c18 f43a18 (seqC (fun K e σ => runK Try.prog call dem N f43c19 f43a19 K e σ) f43a15 J) e σ := runK_seq' (by kernel_rfl) (by kernel_rfl) (by kernel_rfl)
theorem f43r18_f43e8 {R : Type} (call : Bool → CallF R) (dem : Bool) (N : Nat) (y0 : Option (Nat × Nat)) (y1 : Int) (y2 : Bool) (J : KF R) (σ : St) :
    runK Try.prog call dem N f43c18 f43a18 J (f43e8 y0 y1 y2) σ =
call dem (16 : Nat) [AV.ptr y0, AV.int IntKind.i64 y1] σ fun v0 v1 =>
  Option.bind (AV.toBool v0) fun v2 => J Ex.normal (f43e10 y0 y1 y2 (!v2) y0 y1 v2 !v2) v1 := hide (by kernel_rfl)
theorem f43z15_f43e10 (y0 : Option (Nat × Nat)) (y1 : Int) (y2 : Bool) (y3 : Bool) (y4 : Option (Nat × Nat)) (y5 : Int) (y6 : Bool) (y7 : Bool) : Ann.clr f43a15 (f43e10 y0 y1 y2 y3 y4 y5 y6 y7) = f43e11 y3 := hide (by kernel_rfl)
theorem f43x19_f43e11 {R : Type} (call : Bool → CallF R) (dem : Bool) (N : Nat) (y0 : Bool) (J : KF R) (σ : St) : runK Try.prog call dem N f43c19 f43a19 J (f43e11 y0) σ = if y0 = true then runK Try.prog call dem N f43c20 f43a20 (condC f43a19 J) (f43e11 y0) σ else runK Try.prog call dem N f43c21 f43a21 (condC f43a19 J) (f43e11 y0) σ := runK_cond' (o := Operand.tmp (17 : Nat)) (by kernel_rfl) (by kernel_rfl) (by kernel_rfl) (by kernel_rfl)
theorem f43n20 {R : Type} (call : Bool → CallF R) (dem : Bool) (N : Nat) (J : KF R) (e : Env) (σ : St) : runK Try.prog call dem N f43c20 f43a20 J e σ = runK Try.prog call dem N f43c22 f43a22 (seqC (fun K e σ => runK Try.prog call dem N f43c23 f43a23 K e σ) f43a20 J) e σ := runK_seq' (by kernel_rfl) (by kernel_rfl) (by kernel_rfl)
theorem f43r22_f43e11 {R : Type} (call : Bool → CallF R) (dem : Bool) (N : Nat) (y0 : Bool) (J : KF R) (σ : St) :
    runK Try.prog call dem N f43c22 f43a22 J (f43e11 y0) σ =
J Ex.normal (f43e12 (6 : Int) y0) σ := hide (by kernel_rfl)
theorem f43z20_f43e12 (y0 : Int) (y1 : Bool) : Ann.clr f43a20 (f43e12 y0 y1) = f43e6 y0 := hide (by kernel_rfl)
theorem f43y23_f43e6 {R : Type} (call : Bool → CallF R) (dem : Bool) (N : Nat) (y0 : Int) (J : KF R) (σ : St) : runK Try.prog call dem N f43c23 f43a23 J (f43e6 y0) σ = J .ret (f43e6 y0) σ := runK_ret' (by kernel_rfl) (by kernel_rfl)
theorem f43n21 {R : Type} (call : Bool → CallF R) (dem : Bool) (N : Nat) (J : KF R) (e : Env) (σ : St) : runK Try.prog call dem N f43c21 f43a21 J e σ = J .normal e σ := runK_skip' (by kernel_rfl)
theorem f43z19_f43e11 (y0 : Bool) : Ann.clr f43a19 (f43e11 y0) = f43e13 := hide (by kernel_rfl)
theorem f43z13_f43e13 : Ann.clr f43a13 (f43e13) = f43e13 := hide (by kernel_rfl)
theorem f43z7_f43e13 : Ann.clr f43a7 (f43e13) = f43e13 := hide (by kernel_rfl)
theorem f43z5_f43e3 (y0 : Option (Nat × Nat)) (y1 : Int) (y2 : Int) (y3 : Bool) (y4 : Int) (y5 : Bool) (y6 : Bool) (y7 : Int) (y8 : Bool) (y9 : Bool) : Ann.clr f43a5 (f43e3 y0 y1 y2 y3 y4 y5 y6 y7 y8 y9) = f43e4 y0 y2 y3 := hide (by kernel_rfl)
theorem f43z3_f43e13 : Ann.clr f43a3 (f43e13) = f43e13 := hide (by kernel_rfl)
theorem f43z2_f43e13 : Ann.clr f43a2 (f43e13) = f43e13 := hide (by kernel_rfl)
theorem f43n4 {R : Type} (call : Bool → CallF R) (dem : Bool) (N : Nat) (J : KF R) (e : Env) (σ : St) : runK Try.prog call dem N f43c4 f43a4 J e σ = runK Try.prog call dem N f43c24 f43a24 (seqC (fun K e σ => runK Try.prog call dem N f43c25 f43a25 K e σ) f43a4 J) e σ := runK_seq' (by kernel_rfl) (by kernel_rfl) (by kernel_rfl)
theorem f43r24_f43e13 {R : Type} (call : Bool → CallF R) (dem : Bool) (N : Nat) (J : KF R) (σ : St) :
    runK Try.prog call dem N f43c24 f43a24 J (f43e13) σ =
J Ex.normal (f43e6 (0 : Int)) σ := hide (by kernel_rfl)
theorem f43z4_f43e6 (y0 : Int) : Ann.clr f43a4 (f43e6 y0) = f43e6 y0 := hide (by kernel_rfl)
theorem f43y25_f43e6 {R : Type} (call : Bool → CallF R) (dem : Bool) (N : Nat) (y0 : Int) (J : KF R) (σ : St) : runK Try.prog call dem N f43c25 f43a25 J (f43e6 y0) σ = J .ret (f43e6 y0) σ := runK_ret' (by kernel_rfl) (by kernel_rfl)
theorem f43b_f43e6_r {R : Type} (y0 : Int) (σ : St) (K : AV → St → Option R) : bodyC Try.prog f43rs K (Ex.ret) (f43e6 y0) σ =
K (AV.int IntKind.i64 y0) σ := hide (by kernel_rfl)
attribute [go_sem] f43_eq f43n0 f43r1_f43e0 f43z0_f43e1 f43n2 f43n3 f43n5 f43r6_f43e0 f43z5_f43e2 f43x7_f43e4 f43n8 f43r10_f43e4 f43z8_f43e5 f43y11_f43e6 f43n9 f43r12_f43e4 f43z9_f43e7 f43x13_f43e8 f43n14 f43r16_f43e8 f43z14_f43e9 f43y17_f43e6 f43n15 f43r18_f43e8 f43z15_f43e10 f43x19_f43e11 f43n20 f43r22_f43e11 f43z20_f43e12 f43y23_f43e6 f43n21 f43z19_f43e11 f43z13_f43e13 f43z7_f43e13 f43z5_f43e3 f43z3_f43e13 f43z2_f43e13 f43n4 f43r24_f43e13 f43z4_f43e6 f43y25_f43e6 f43b_f43e6_r

end Go.Proofs.Ytmgacgonoodkfaa
