/- What the machine does with each piece of code, in plain text. PRINTED by a program of this workplace; Lean checks it. -/
import Derived.Test.YtmgacgonoodkfaaWiAnn
import Derived.Test.YtmgacgonoodkfaaProg
import Derived.KernelRfl
import Derived.Attr
namespace Go.Proofs.Ytmgacgonoodkfaa
open Go.AM
set_option maxRecDepth 100000
set_option linter.unusedVariables false
noncomputable def f40rs : List ResultVar := [ResultVar.tmp (4 : Nat)]
noncomputable def f40c0 : Code := subCode [] (bodyOf Try.prog 40)
def f40a0 : Ann := subAnn [] ann40
noncomputable def f40c1 : Code := subCode [0] (bodyOf Try.prog 40)
def f40a1 : Ann := subAnn [0] ann40
noncomputable def f40c2 : Code := subCode [1] (bodyOf Try.prog 40)
def f40a2 : Ann := subAnn [1] ann40
noncomputable def f40c3 : Code := subCode [1, 0] (bodyOf Try.prog 40)
def f40a3 : Ann := subAnn [1, 0] ann40
noncomputable def f40c4 : Code := subCode [1, 1] (bodyOf Try.prog 40)
def f40a4 : Ann := subAnn [1, 1] ann40
noncomputable def f40c5 : Code := subCode [1, 0, 0] (bodyOf Try.prog 40)
def f40a5 : Ann := subAnn [1, 0, 0] ann40
noncomputable def f40c6 : Code := subCode [1, 0, 1] (bodyOf Try.prog 40)
def f40a6 : Ann := subAnn [1, 0, 1] ann40
noncomputable def f40c7 : Code := subCode [1, 0, 1, 0] (bodyOf Try.prog 40)
def f40a7 : Ann := subAnn [1, 0, 1, 0] ann40
noncomputable def f40c8 : Code := subCode [1, 0, 1, 1] (bodyOf Try.prog 40)
def f40a8 : Ann := subAnn [1, 0, 1, 1] ann40
noncomputable def f40c9 : Code := subCode [1, 0, 1, 0, 0] (bodyOf Try.prog 40)
def f40a9 : Ann := subAnn [1, 0, 1, 0, 0] ann40
noncomputable def f40c10 : Code := subCode [1, 0, 1, 0, 1] (bodyOf Try.prog 40)
def f40a10 : Ann := subAnn [1, 0, 1, 0, 1] ann40
noncomputable def f40c11 : Code := subCode [1, 1, 0] (bodyOf Try.prog 40)
def f40a11 : Ann := subAnn [1, 1, 0] ann40
noncomputable def f40c12 : Code := subCode [1, 1, 1] (bodyOf Try.prog 40)
def f40a12 : Ann := subAnn [1, 1, 1] ann40
noncomputable def f40c13 : Code := subCode [1, 1, 1, 0] (bodyOf Try.prog 40)
def f40a13 : Ann := subAnn [1, 1, 1, 0] ann40
noncomputable def f40c14 : Code := subCode [1, 1, 1, 1] (bodyOf Try.prog 40)
def f40a14 : Ann := subAnn [1, 1, 1, 1] ann40
noncomputable def f40c15 : Code := subCode [1, 1, 1, 1, 0] (bodyOf Try.prog 40)
def f40a15 : Ann := subAnn [1, 1, 1, 1, 0] ann40
noncomputable def f40c16 : Code := subCode [1, 1, 1, 1, 1] (bodyOf Try.prog 40)
def f40a16 : Ann := subAnn [1, 1, 1, 1, 1] ann40
def f40e0 (y0 : Option (Nat × Nat)) (y1 : Int) : Env := AV.ptr y0 :: AV.int IntKind.i64 y1 :: Env.sp 24 []
def f40e1 (y0 : Option (Nat × Nat)) (y1 : Int) (y2 : Nat) (y3 : Int) : Env := AV.ptr y0 :: AV.int IntKind.i64 y1 :: Env.sp 1 (AV.ptr (some (y2, (0 : Nat))) :: AV.int IntKind.i64 y3 :: Env.sp 21 [])
def f40e2 (y0 : Option (Nat × Nat)) (y1 : Nat) : Env := AV.ptr y0 :: Env.sp 2 (AV.ptr (some (y1, (0 : Nat))) :: Env.sp 22 [])
def f40e3 (y0 : Option (Nat × Nat)) (y1 : Nat) (y2 : Option (Nat × Nat)) (y3 : Bool) : Env := AV.ptr y0 :: Env.sp 2 (AV.ptr (some (y1, (0 : Nat))) :: Env.sp 2 (AV.ptr y2 :: AV.bool y3 :: Env.sp 18 []))
def f40e4 (y0 : Option (Nat × Nat)) (y1 : Nat) (y2 : Bool) : Env := AV.ptr y0 :: Env.sp 2 (AV.ptr (some (y1, (0 : Nat))) :: Env.sp 3 (AV.bool y2 :: Env.sp 18 []))
def f40e5 (y0 : Option (Nat × Nat)) (y1 : Nat) (y2 : Int) (y3 : Bool) : Env := AV.ptr y0 :: Env.sp 2 (AV.ptr (some (y1, (0 : Nat))) :: AV.int IntKind.i64 y2 :: Env.sp 2 (AV.bool y3 :: Env.sp 18 []))
def f40e6 (y0 : Int) : Env := Env.sp 4 (AV.int IntKind.i64 y0 :: Env.sp 21 [])
def f40e7 (y0 : Option (Nat × Nat)) (y1 : Nat) (y2 : Int) (y3 : Option (Nat × Nat)) (y4 : Option (Nat × Nat)) (y5 : Option (Nat × Nat)) (y6 : Option Nat) (y7 : Int) : Env := AV.ptr y0 :: Env.sp 2 (AV.ptr (some (y1, (0 : Nat))) :: Env.sp 1 (AV.int IntKind.i64 y2 :: Env.sp 2 (AV.ptr y3 :: AV.ptr y4 :: AV.ptr y5 :: AV.map y6 :: AV.int IntKind.i64 y7 :: Env.sp 13 [])))
def f40e8 (y0 : Option (Nat × Nat)) (y1 : Nat) (y2 : Int) : Env := AV.ptr y0 :: Env.sp 2 (AV.ptr (some (y1, (0 : Nat))) :: Env.sp 1 (AV.int IntKind.i64 y2 :: Env.sp 20 []))
def f40e9 (y0 : Option (Nat × Nat)) (y1 : Nat) (y2 : Int) (y3 : Option (Nat × Nat)) (y4 : Option (Nat × Nat)) (y5 : Option (Nat × Nat)) (y6 : Option Nat) (y7 : Nat) (y8 : Nat) : Env := AV.ptr y0 :: Env.sp 2 (AV.ptr (some (y1, (0 : Nat))) :: Env.sp 1 (AV.int IntKind.i64 y2 :: Env.sp 7 (AV.ptr y3 :: AV.ptr y4 :: AV.ptr y5 :: AV.map y6 :: AV.func (Fn.func y7) [] [AV.ptr (some (y8, (0 : Nat)))] :: AV.tuple [] :: Env.sp 7 [])))
def f40e10 (y0 : Option (Nat × Nat)) (y1 : Int) : Env := AV.ptr y0 :: Env.sp 4 (AV.int IntKind.i64 y1 :: Env.sp 20 [])
def f40e11 (y0 : Option (Nat × Nat)) (y1 : Int) (y2 : Int) (y3 : Int) (y4 : Option (Nat × Nat)) (y5 : Option (Nat × Nat)) (y6 : Option (Nat × Nat)) (y7 : Option Nat) (y8 : Int) (y9 : Int) : Env := AV.ptr y0 :: Env.sp 3 (AV.int IntKind.i64 y1 :: AV.int IntKind.i64 y2 :: Env.sp 13 (AV.int IntKind.i64 y3 :: AV.ptr y4 :: AV.ptr y5 :: AV.ptr y6 :: AV.map y7 :: AV.int IntKind.i64 y8 :: AV.int IntKind.i64 y9 :: []))

/- function 40 -/
theorem f40_eq {R : Type} (call : Bool → CallF R) (dem : Bool) (N : Nat) (y0 : Option (Nat × Nat)) (y1 : Int) (σ : St) (K : AV → St → Option R) :
    bodyK Try.prog call dem N ann 40 [AV.ptr y0, AV.int IntKind.i64 y1] σ K = runK Try.prog call dem N f40c0 f40a0 (bodyC Try.prog f40rs K) (f40e0 y0 y1) σ := bodyK_of (fn := ((Try.prog.funcs[40]?).get rfl)) (by kernel_rfl) (by kernel_rfl) (by kernel_rfl) (by kernel_rfl) (by kernel_rfl) (by kernel_rfl)
theorem f40n0 {R : Type} (call : Bool → CallF R) (dem : Bool) (N : Nat) (J : KF R) (e : Env) (σ : St) : runK Try.prog call dem N f40c0 f40a0 J e σ = runK Try.prog call dem N f40c1 f40a1 (seqC (fun K e σ => runK Try.prog call dem N f40c2 f40a2 K e σ) f40a0 J) e σ := runK_seq' (by kernel_rfl) (by kernel_rfl) (by kernel_rfl)
theorem f40r1_f40e0 {R : Type} (call : Bool → CallF R) (dem : Bool) (N : Nat) (y0 : Option (Nat × Nat)) (y1 : Int) (J : KF R) (σ : St) :
    runK Try.prog call dem N f40c1 f40a1 J (f40e0 y0 y1) σ =
J Ex.normal (f40e1 y0 y1 (St.next σ) (0 : Int)) (St.new σ (Blk.cells [AV.int IntKind.i64 y1] true)) := hide (by kernel_rfl)
theorem f40z0_f40e1 (y0 : Option (Nat × Nat)) (y1 : Int) (y2 : Nat) (y3 : Int) : Ann.clr f40a0 (f40e1 y0 y1 y2 y3) = f40e2 y0 y2 := hide (by kernel_rfl)
theorem f40n2 {R : Type} (call : Bool → CallF R) (dem : Bool) (N : Nat) (J : KF R) (e : Env) (σ : St) : runK Try.prog call dem N f40c2 f40a2 J e σ = runK Try.prog call dem N f40c3 f40a3 (seqC (fun K e σ => runK Try.prog call dem N f40c4 f40a4 K e σ) f40a2 J) e σ := runK_seq' (by kernel_rfl) (by kernel_rfl) (by kernel_rfl)
theorem f40n3 {R : Type} (call : Bool → CallF R) (dem : Bool) (N : Nat) (J : KF R) (e : Env) (σ : St) : runK Try.prog call dem N f40c3 f40a3 J e σ = runK Try.prog call dem N f40c5 f40a5 (seqC (fun K e σ => runK Try.prog call dem N f40c6 f40a6 K e σ) f40a3 J) e σ := runK_seq' (by kernel_rfl) (by kernel_rfl) (by kernel_rfl)
theorem f40r5_f40e2 {R : Type} (call : Bool → CallF R) (dem : Bool) (N : Nat) (y0 : Option (Nat × Nat)) (y1 : Nat) (J : KF R) (σ : St) :
    runK Try.prog call dem N f40c5 f40a5 J (f40e2 y0 y1) σ =
J Ex.normal (f40e3 y0 y1 y0 (Option.isNone y0)) σ := hide (by kernel_rfl)
theorem f40z3_f40e3 (y0 : Option (Nat × Nat)) (y1 : Nat) (y2 : Option (Nat × Nat)) (y3 : Bool) : Ann.clr f40a3 (f40e3 y0 y1 y2 y3) = f40e4 y0 y1 y3 := hide (by kernel_rfl)
theorem f40x6_f40e4 {R : Type} (call : Bool → CallF R) (dem : Bool) (N : Nat) (y0 : Option (Nat × Nat)) (y1 : Nat) (y2 : Bool) (J : KF R) (σ : St) : runK Try.prog call dem N f40c6 f40a6 J (f40e4 y0 y1 y2) σ = if y2 = true then runK Try.prog call dem N f40c7 f40a7 (condC f40a6 J) (f40e4 y0 y1 y2) σ else runK Try.prog call dem N f40c8 f40a8 (condC f40a6 J) (f40e4 y0 y1 y2) σ := runK_cond' (o := Operand.tmp (7 : Nat)) (by kernel_rfl) (by kernel_rfl) (by kernel_rfl) (by kernel_rfl)
theorem f40n7 {R : Type} (call : Bool → CallF R) (dem : Bool) (N : Nat) (J : KF R) (e : Env) (σ : St) : runK Try.prog call dem N f40c7 f40a7 J e σ = runK Try.prog call dem N f40c9 f40a9 (seqC (fun K e σ => runK Try.prog call dem N f40c10 f40a10 K e σ) f40a7 J) e σ := runK_seq' (by kernel_rfl) (by kernel_rfl) (by kernel_rfl)
theorem f40r9_f40e4 {R : Type} (call : Bool → CallF R) (dem : Bool) (N : Nat) (y0 : Option (Nat × Nat)) (y1 : Nat) (y2 : Bool) (J : KF R) (σ : St) :
    runK Try.prog call dem N f40c9 f40a9 J (f40e4 y0 y1 y2) σ =
J Ex.normal (f40e5 y0 y1 (0 : Int) y2) σ := hide (by kernel_rfl)
theorem f40z7_f40e5 (y0 : Option (Nat × Nat)) (y1 : Nat) (y2 : Int) (y3 : Bool) : Ann.clr f40a7 (f40e5 y0 y1 y2 y3) = f40e6 y2 := hide (by kernel_rfl)
theorem f40y10_f40e6 {R : Type} (call : Bool → CallF R) (dem : Bool) (N : Nat) (y0 : Int) (J : KF R) (σ : St) : runK Try.prog call dem N f40c10 f40a10 J (f40e6 y0) σ = J .ret (f40e6 y0) σ := runK_ret' (by kernel_rfl) (by kernel_rfl)
theorem f40n8 {R : Type} (call : Bool → CallF R) (dem : Bool) (N : Nat) (J : KF R) (e : Env) (σ : St) : runK Try.prog call dem N f40c8 f40a8 J e σ = J .normal e σ := runK_skip' (by kernel_rfl)
theorem f40z6_f40e4 (y0 : Option (Nat × Nat)) (y1 : Nat) (y2 : Bool) : Ann.clr f40a6 (f40e4 y0 y1 y2) = f40e2 y0 y1 := hide (by kernel_rfl)
theorem f40z2_f40e2 (y0 : Option (Nat × Nat)) (y1 : Nat) : Ann.clr f40a2 (f40e2 y0 y1) = f40e2 y0 y1 := hide (by kernel_rfl)
theorem f40n4 {R : Type} (call : Bool → CallF R) (dem : Bool) (N : Nat) (J : KF R) (e : Env) (σ : St) : runK Try.prog call dem N f40c4 f40a4 J e σ = runK Try.prog call dem N f40c11 f40a11 (seqC (fun K e σ => runK Try.prog call dem N f40c12 f40a12 K e σ) f40a4 J) e σ := runK_seq' (by kernel_rfl) (by kernel_rfl) (by kernel_rfl)
theorem f40r11_f40e2 {R : Type} (call : Bool → CallF R) (dem : Bool) (N : Nat) (y0 : Option (Nat × Nat)) (y1 : Nat) (J : KF R) (σ : St) :
    runK Try.prog call dem N f40c11 f40a11 J (f40e2 y0 y1) σ =
Option.bind y0 fun v0 =>
  Option.bind (St.ld σ (Prod.fst v0) (Prod.snd v0 + (3 : Nat))) fun v1 =>
    Option.bind (AV.toMap v1) fun v2 =>
      Option.bind (St.entries σ v2) fun v3 =>
        J Ex.normal (f40e7 y0 y1 (↑(List.length v3) : Int) y0 (some v0) (some (Prod.fst v0, Prod.snd v0 + (3 : Nat))) v2 (↑(List.length v3) : Int)) σ := hide (by kernel_rfl)
theorem f40z4_f40e7 (y0 : Option (Nat × Nat)) (y1 : Nat) (y2 : Int) (y3 : Option (Nat × Nat)) (y4 : Option (Nat × Nat)) (y5 : Option (Nat × Nat)) (y6 : Option Nat) (y7 : Int) : Ann.clr f40a4 (f40e7 y0 y1 y2 y3 y4 y5 y6 y7) = f40e8 y0 y1 y2 := hide (by kernel_rfl)
theorem f40n12 {R : Type} (call : Bool → CallF R) (dem : Bool) (N : Nat) (J : KF R) (e : Env) (σ : St) : runK Try.prog call dem N f40c12 f40a12 J e σ = runK Try.prog call dem N f40c13 f40a13 (seqC (fun K e σ => runK Try.prog call dem N f40c14 f40a14 K e σ) f40a12 J) e σ := runK_seq' (by kernel_rfl) (by kernel_rfl) (by kernel_rfl)
theorem f40r13_f40e8 {R : Type} (call : Bool → CallF R) (dem : Bool) (N : Nat) (y0 : Option (Nat × Nat)) (y1 : Nat) (y2 : Int) (J : KF R) (σ : St) :
    runK Try.prog call dem N f40c13 f40a13 J (f40e8 y0 y1 y2) σ =
Option.bind y0 fun v0 =>
  Option.bind (St.ld σ (Prod.fst v0) (Prod.snd v0 + (3 : Nat))) fun v1 =>
    Option.bind (AV.toMap v1) fun v2 =>
      call dem (41 : Nat) [AV.map v2, AV.func (Fn.func (55 : Nat)) [] [AV.ptr (some (y1, (0 : Nat)))]] σ fun v3 v4 =>
        Option.bind (AV.toTuple v3) fun v5 =>
          if List.length v5 = (0 : Nat) then
            J Ex.normal (f40e9 y0 y1 y2 y0 (some v0) (some (Prod.fst v0, Prod.snd v0 + (3 : Nat))) v2 (55 : Nat) y1) v4
          else none := hide (by kernel_rfl)
theorem f40z12_f40e9 (y0 : Option (Nat × Nat)) (y1 : Nat) (y2 : Int) (y3 : Option (Nat × Nat)) (y4 : Option (Nat × Nat)) (y5 : Option (Nat × Nat)) (y6 : Option Nat) (y7 : Nat) (y8 : Nat) : Ann.clr f40a12 (f40e9 y0 y1 y2 y3 y4 y5 y6 y7 y8) = f40e10 y0 y2 := hide (by kernel_rfl)
theorem f40n14 {R : Type} (call : Bool → CallF R) (dem : Bool) (N : Nat) (J : KF R) (e : Env) (σ : St) : runK Try.prog call dem N f40c14 f40a14 J e σ = runK Try.prog call dem N f40c15 f40a15 (seqC (fun K e σ => runK Try.prog call dem N f40c16 f40a16 K e σ) f40a14 J) e σ := runK_seq' (by kernel_rfl) (by kernel_rfl) (by kernel_rfl)
theorem f40r15_f40e10 {R : Type} (call : Bool → CallF R) (dem : Bool) (N : Nat) (y0 : Option (Nat × Nat)) (y1 : Int) (J : KF R) (σ : St) :
    runK Try.prog call dem N f40c15 f40a15 J (f40e10 y0 y1) σ =
Option.bind y0 fun v0 =>
  Option.bind (St.ld σ (Prod.fst v0) (Prod.snd v0 + (3 : Nat))) fun v1 =>
    Option.bind (AV.toMap v1) fun v2 =>
      Option.bind (St.entries σ v2) fun v3 =>
        J Ex.normal
          (f40e11 y0 (IntKind.wrap IntKind.i64 (y1 - (↑(List.length v3) : Int))) y1 y1 y0 (some v0) (some (Prod.fst v0, Prod.snd v0 + (3 : Nat))) v2
            (↑(List.length v3) : Int) (IntKind.wrap IntKind.i64 (y1 - (↑(List.length v3) : Int))))
          σ := hide (by kernel_rfl)
theorem f40z14_f40e11 (y0 : Option (Nat × Nat)) (y1 : Int) (y2 : Int) (y3 : Int) (y4 : Option (Nat × Nat)) (y5 : Option (Nat × Nat)) (y6 : Option (Nat × Nat)) (y7 : Option Nat) (y8 : Int) (y9 : Int) : Ann.clr f40a14 (f40e11 y0 y1 y2 y3 y4 y5 y6 y7 y8 y9) = f40e6 y1 := hide (by kernel_rfl)
theorem f40y16_f40e6 {R : Type} (call : Bool → CallF R) (dem : Bool) (N : Nat) (y0 : Int) (J : KF R) (σ : St) : runK Try.prog call dem N f40c16 f40a16 J (f40e6 y0) σ = J .ret (f40e6 y0) σ := runK_ret' (by kernel_rfl) (by kernel_rfl)
theorem f40b_f40e6_r {R : Type} (y0 : Int) (σ : St) (K : AV → St → Option R) : bodyC Try.prog f40rs K (Ex.ret) (f40e6 y0) σ =
K (AV.int IntKind.i64 y0) σ := hide (by kernel_rfl)
attribute [go_sem] f40_eq f40n0 f40r1_f40e0 f40z0_f40e1 f40n2 f40n3 f40r5_f40e2 f40z3_f40e3 f40x6_f40e4 f40n7 f40r9_f40e4 f40z7_f40e5 f40y10_f40e6 f40n8 f40z6_f40e4 f40z2_f40e2 f40n4 f40r11_f40e2 f40z4_f40e7 f40n12 f40r13_f40e8 f40z12_f40e9 f40n14 f40r15_f40e10 f40z14_f40e11 f40y16_f40e6 f40b_f40e6_r

noncomputable def f55rs : List ResultVar := [ResultVar.tmp (5 : Nat)]
noncomputable def f55c0 : Code := subCode [] (bodyOf Try.prog 55)
def f55a0 : Ann := subAnn [] ann55
noncomputable def f55c1 : Code := subCode [0] (bodyOf Try.prog 55)
def f55a1 : Ann := subAnn [0] ann55
noncomputable def f55c2 : Code := subCode [1] (bodyOf Try.prog 55)
def f55a2 : Ann := subAnn [1] ann55
noncomputable def f55c3 : Code := subCode [1, 0] (bodyOf Try.prog 55)
def f55a3 : Ann := subAnn [1, 0] ann55
noncomputable def f55c4 : Code := subCode [1, 1] (bodyOf Try.prog 55)
def f55a4 : Ann := subAnn [1, 1] ann55
def f55e0 (y0 : Int) (y1 : Int) (y2 : Option (Nat × Nat)) (y3 : Nat) : Env := AV.agg [AV.int IntKind.i64 y0, AV.int IntKind.i64 y1] :: AV.ptr y2 :: AV.ptr (some (y3, (0 : Nat))) :: Env.sp 7 []
def f55e1 (y0 : Int) (y1 : Int) (y2 : Option (Nat × Nat)) (y3 : Nat) (y4 : Nat) (y5 : Bool) : Env := AV.agg [AV.int IntKind.i64 y0, AV.int IntKind.i64 y1] :: AV.ptr y2 :: AV.ptr (some (y3, (0 : Nat))) :: AV.ptr (some (y4, (0 : Nat))) :: Env.sp 1 (AV.bool y5 :: Env.sp 4 [])
def f55e2 (y0 : Nat) (y1 : Nat) : Env := Env.sp 2 (AV.ptr (some (y0, (0 : Nat))) :: AV.ptr (some (y1, (0 : Nat))) :: Env.sp 6 [])
def f55e3 (y0 : Nat) (y1 : Nat) (y2 : Bool) (y3 : Nat) (y4 : Int) (y5 : Int) (y6 : Bool) : Env := Env.sp 2 (AV.ptr (some (y0, (0 : Nat))) :: AV.ptr (some (y1, (0 : Nat))) :: Env.sp 1 (AV.bool y2 :: AV.ptr (some (y3, (0 : Nat))) :: AV.int IntKind.i64 y4 :: AV.int IntKind.i64 y5 :: AV.bool y6 :: []))
def f55e4 (y0 : Bool) : Env := Env.sp 5 (AV.bool y0 :: Env.sp 4 [])

/- function 55 -/
theorem f55_eq {R : Type} (call : Bool → CallF R) (dem : Bool) (N : Nat) (y0 : Int) (y1 : Int) (y2 : Option (Nat × Nat)) (y3 : Nat) (σ : St) (K : AV → St → Option R) :
    bodyK Try.prog call dem N ann 55 [AV.agg [AV.int IntKind.i64 y0, AV.int IntKind.i64 y1], AV.ptr y2, AV.ptr (some (y3, (0 : Nat)))] σ K = runK Try.prog call dem N f55c0 f55a0 (bodyC Try.prog f55rs K) (f55e0 y0 y1 y2 y3) σ := bodyK_of (fn := ((Try.prog.funcs[55]?).get rfl)) (by kernel_rfl) (by kernel_rfl) (by kernel_rfl) (by kernel_rfl) (by kernel_rfl) (by kernel_rfl)
theorem f55n0 {R : Type} (call : Bool → CallF R) (dem : Bool) (N : Nat) (J : KF R) (e : Env) (σ : St) : runK Try.prog call dem N f55c0 f55a0 J e σ = runK Try.prog call dem N f55c1 f55a1 (seqC (fun K e σ => runK Try.prog call dem N f55c2 f55a2 K e σ) f55a0 J) e σ := runK_seq' (by kernel_rfl) (by kernel_rfl) (by kernel_rfl)
theorem f55r1_f55e0 {R : Type} (call : Bool → CallF R) (dem : Bool) (N : Nat) (y0 : Int) (y1 : Int) (y2 : Option (Nat × Nat)) (y3 : Nat) (J : KF R) (σ : St) :
    runK Try.prog call dem N f55c1 f55a1 J (f55e0 y0 y1 y2 y3) σ =
J Ex.normal (f55e1 y0 y1 y2 y3 (St.next σ) false) (St.new σ (Blk.cells [AV.int IntKind.i64 y0, AV.int IntKind.i64 y1] true)) := hide (by kernel_rfl)
theorem f55z0_f55e1 (y0 : Int) (y1 : Int) (y2 : Option (Nat × Nat)) (y3 : Nat) (y4 : Nat) (y5 : Bool) : Ann.clr f55a0 (f55e1 y0 y1 y2 y3 y4 y5) = f55e2 y3 y4 := hide (by kernel_rfl)
theorem f55n2 {R : Type} (call : Bool → CallF R) (dem : Bool) (N : Nat) (J : KF R) (e : Env) (σ : St) : runK Try.prog call dem N f55c2 f55a2 J e σ = runK Try.prog call dem N f55c3 f55a3 (seqC (fun K e σ => runK Try.prog call dem N f55c4 f55a4 K e σ) f55a2 J) e σ := runK_seq' (by kernel_rfl) (by kernel_rfl) (by kernel_rfl)
theorem f55r3_f55e2 {R : Type} (call : Bool → CallF R) (dem : Bool) (N : Nat) (y0 : Nat) (y1 : Nat) (J : KF R) (σ : St) :
    runK Try.prog call dem N f55c3 f55a3 J (f55e2 y0 y1) σ =
Option.bind (St.ld σ y1 (0 : Nat)) fun v0 =>
  Option.bind (AV.toInt IntKind.i64 v0) fun v1 =>
    Option.bind (St.ld σ y0 (0 : Nat)) fun v2 =>
      Option.bind (AV.toInt IntKind.i64 v2) fun v3 => J Ex.normal (f55e3 y0 y1 (decide (v1 < v3)) y1 v1 v3 (decide (v1 < v3))) σ := hide (by kernel_rfl)
theorem f55z2_f55e3 (y0 : Nat) (y1 : Nat) (y2 : Bool) (y3 : Nat) (y4 : Int) (y5 : Int) (y6 : Bool) : Ann.clr f55a2 (f55e3 y0 y1 y2 y3 y4 y5 y6) = f55e4 y2 := hide (by kernel_rfl)
theorem f55y4_f55e4 {R : Type} (call : Bool → CallF R) (dem : Bool) (N : Nat) (y0 : Bool) (J : KF R) (σ : St) : runK Try.prog call dem N f55c4 f55a4 J (f55e4 y0) σ = J .ret (f55e4 y0) σ := runK_ret' (by kernel_rfl) (by kernel_rfl)
theorem f55b_f55e4_r {R : Type} (y0 : Bool) (σ : St) (K : AV → St → Option R) : bodyC Try.prog f55rs K (Ex.ret) (f55e4 y0) σ =
K (AV.bool y0) σ := hide (by kernel_rfl)
attribute [go_sem] f55_eq f55n0 f55r1_f55e0 f55z0_f55e1 f55n2 f55r3_f55e2 f55z2_f55e3 f55y4_f55e4 f55b_f55e4_r

end Go.Proofs.Ytmgacgonoodkfaa
