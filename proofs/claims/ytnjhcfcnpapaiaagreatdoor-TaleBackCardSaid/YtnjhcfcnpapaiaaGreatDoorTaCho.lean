/- What the machine does with each piece of code, in plain text. PRINTED by a program of this workplace; Lean checks it. -/
import Derived.Test.YtnjhcfcnpapaiaaGreatDoorTaAnn
import Derived.Test.YtnjhcfcnpapaiaaGreatDoorProg
import Derived.KernelRfl
import Derived.Attr
namespace Go.Proofs.YtnjhcfcnpapaiaaGreatDoor
open Go.AM
set_option maxRecDepth 100000
set_option linter.unusedVariables false
noncomputable def f14rs : List ResultVar := [ResultVar.tmp (2 : Nat)]
noncomputable def f14c0 : Code := subCode [] (bodyOf Tryz.prog 14)
def f14a0 : Ann := subAnn [] ann14
noncomputable def f14c1 : Code := subCode [0] (bodyOf Tryz.prog 14)
def f14a1 : Ann := subAnn [0] ann14
noncomputable def f14c2 : Code := subCode [1] (bodyOf Tryz.prog 14)
def f14a2 : Ann := subAnn [1] ann14
noncomputable def f14c3 : Code := subCode [1, 0] (bodyOf Tryz.prog 14)
def f14a3 : Ann := subAnn [1, 0] ann14
noncomputable def f14c4 : Code := subCode [1, 1] (bodyOf Tryz.prog 14)
def f14a4 : Ann := subAnn [1, 1] ann14
noncomputable def f14c5 : Code := subCode [1, 1, 0] (bodyOf Tryz.prog 14)
def f14a5 : Ann := subAnn [1, 1, 0] ann14
noncomputable def f14c6 : Code := subCode [1, 1, 1] (bodyOf Tryz.prog 14)
def f14a6 : Ann := subAnn [1, 1, 1] ann14
noncomputable def f14c7 : Code := subCode [1, 1, 1, 0] (bodyOf Tryz.prog 14)
def f14a7 : Ann := subAnn [1, 1, 1, 0] ann14
noncomputable def f14c8 : Code := subCode [1, 1, 1, 1] (bodyOf Tryz.prog 14)
def f14a8 : Ann := subAnn [1, 1, 1, 1] ann14
noncomputable def f14c9 : Code := subCode [1, 1, 1, 1, 0] (bodyOf Tryz.prog 14)
def f14a9 : Ann := subAnn [1, 1, 1, 1, 0] ann14
noncomputable def f14c10 : Code := subCode [1, 1, 1, 1, 1] (bodyOf Tryz.prog 14)
def f14a10 : Ann := subAnn [1, 1, 1, 1, 1] ann14
noncomputable def f14c11 : Code := subCode [1, 1, 1, 1, 1, 0] (bodyOf Tryz.prog 14)
def f14a11 : Ann := subAnn [1, 1, 1, 1, 1, 0] ann14
noncomputable def f14c12 : Code := subCode [1, 1, 1, 1, 1, 1] (bodyOf Tryz.prog 14)
def f14a12 : Ann := subAnn [1, 1, 1, 1, 1, 1] ann14
def f14e0 (y0 : Int) (y1 : Int) (y2 : Int) (y3 : Int) (y4 : Int) (y5 : Int) (y6 : Int) (y7 : Int) (y8 : ByteArray) (y9 : ByteArray) (y10 : ByteArray) (y11 : ByteArray) : Env := AV.agg
  [AV.int IntKind.i64 y0, AV.int IntKind.i64 y1, AV.int IntKind.i64 y2, AV.int IntKind.i64 y3, AV.int IntKind.i64 y4, AV.int IntKind.i64 y5,
    AV.int IntKind.i64 y6, AV.int IntKind.i64 y7, AV.str y8, AV.str y9, AV.str y10, AV.str y11] :: Env.sp 14 []
def f14e1 (y0 : Int) (y1 : Int) (y2 : Int) (y3 : Int) (y4 : Int) (y5 : Int) (y6 : Int) (y7 : Int) (y8 : ByteArray) (y9 : ByteArray) (y10 : ByteArray) (y11 : ByteArray) (y12 : Nat) (y13 : ByteArray) : Env := AV.agg
  [AV.int IntKind.i64 y0, AV.int IntKind.i64 y1, AV.int IntKind.i64 y2, AV.int IntKind.i64 y3, AV.int IntKind.i64 y4, AV.int IntKind.i64 y5,
    AV.int IntKind.i64 y6, AV.int IntKind.i64 y7, AV.str y8, AV.str y9, AV.str y10, AV.str y11] :: AV.ptr (some (y12, (0 : Nat))) :: AV.str y13 :: Env.sp 12 []
def f14e2 (y0 : Nat) : Env := Env.sp 1 (AV.ptr (some (y0, (0 : Nat))) :: Env.sp 13 [])
def f14e3 (y0 : Nat) (y1 : Nat) : Env := Env.sp 1 (AV.ptr (some (y0, (0 : Nat))) :: Env.sp 1 (AV.ptr (some (y1, (0 : Nat))) :: Env.sp 11 []))
def f14e4 (y0 : Nat) (y1 : Nat) (y2 : Nat) : Env := Env.sp 1 (AV.ptr (some (y0, (0 : Nat))) :: Env.sp 1 (AV.ptr (some (y1, (0 : Nat))) :: AV.ptr (some (y2, (0 : Nat))) :: Env.sp 10 []))
def f14e5 (y0 : Nat) (y1 : Nat) (y2 : Nat) (y3 : Nat) (y4 : Nat) (y5 : Nat) (y6 : Nat) : Env := Env.sp 1 (AV.ptr (some (y0, (0 : Nat))) :: Env.sp 1 (AV.ptr (some (y1, (0 : Nat))) :: AV.ptr (some (y2, (0 : Nat))) :: AV.ptr (some (y3, (0 : Nat))) :: AV.func (Fn.func y4) [] [AV.ptr (some (y5, (0 : Nat))), AV.ptr (some (y6, (0 : Nat)))] :: Env.sp 8 []))
def f14e6 (y0 : Nat) (y1 : Nat) (y2 : Nat) (y3 : Nat) : Env := Env.sp 1 (AV.ptr (some (y0, (0 : Nat))) :: Env.sp 1 (AV.ptr (some (y1, (0 : Nat))) :: AV.ptr (some (y2, (0 : Nat))) :: AV.ptr (some (y3, (0 : Nat))) :: Env.sp 9 []))
def f14e7 (y0 : Nat) (y1 : Nat) (y2 : Nat) (y3 : Nat) (y4 : Nat) (y5 : Nat) (y6 : Nat) (y7 : Nat) : Env := Env.sp 1 (AV.ptr (some (y0, (0 : Nat))) :: Env.sp 1 (AV.ptr (some (y1, (0 : Nat))) :: AV.ptr (some (y2, (0 : Nat))) :: AV.ptr (some (y3, (0 : Nat))) :: Env.sp 1 (AV.func (Fn.func y4) [] [AV.ptr (some (y5, (0 : Nat)))] :: AV.func (Fn.func y6) [] [AV.ptr (some (y7, (0 : Nat)))] :: AV.tuple [] :: Env.sp 5 [])))
def f14e8 (y0 : Nat) (y1 : Nat) : Env := Env.sp 3 (AV.ptr (some (y0, (0 : Nat))) :: AV.ptr (some (y1, (0 : Nat))) :: Env.sp 10 [])
def f14e9 (y0 : ByteArray) (y1 : Nat) (y2 : Nat) (y3 : Option (Nat × Nat)) (y4 : Nat) (y5 : Option Nat) (y6 : Int) (y7 : Int) (y8 : Option (Nat × Nat)) (y9 : Nat) (y10 : Option Nat) (y11 : ByteArray) : Env := Env.sp 2 (AV.str y0 :: AV.ptr (some (y1, (0 : Nat))) :: AV.ptr (some (y2, (0 : Nat))) :: Env.sp 5 (AV.slice y3 y4 y5 (1 : Nat) :: AV.int IntKind.i64 y6 :: AV.int IntKind.i64 y7 :: AV.slice y8 y9 y10 (1 : Nat) :: AV.str y11 :: []))
def f14e10 (y0 : ByteArray) : Env := Env.sp 2 (AV.str y0 :: Env.sp 12 [])

/- function 14 -/
theorem f14_eq {R : Type} (call : Bool → CallF R) (dem : Bool) (N : Nat) (y0 : Int) (y1 : Int) (y2 : Int) (y3 : Int) (y4 : Int) (y5 : Int) (y6 : Int) (y7 : Int) (y8 : ByteArray) (y9 : ByteArray) (y10 : ByteArray) (y11 : ByteArray) (σ : St) (K : AV → St → Option R) :
    bodyK Tryz.prog call dem N ann 14 [AV.agg
    [AV.int IntKind.i64 y0, AV.int IntKind.i64 y1, AV.int IntKind.i64 y2, AV.int IntKind.i64 y3, AV.int IntKind.i64 y4, AV.int IntKind.i64 y5,
      AV.int IntKind.i64 y6, AV.int IntKind.i64 y7, AV.str y8, AV.str y9, AV.str y10, AV.str y11]] σ K = runK Tryz.prog call dem N f14c0 f14a0 (bodyC Tryz.prog f14rs K) (f14e0 y0 y1 y2 y3 y4 y5 y6 y7 y8 y9 y10 y11) σ := bodyK_of (fn := ((Tryz.prog.funcs[14]?).get rfl)) (by kernel_rfl) (by kernel_rfl) (by kernel_rfl) (by kernel_rfl) (by kernel_rfl) (by kernel_rfl)
theorem f14n0 {R : Type} (call : Bool → CallF R) (dem : Bool) (N : Nat) (J : KF R) (e : Env) (σ : St) : runK Tryz.prog call dem N f14c0 f14a0 J e σ = runK Tryz.prog call dem N f14c1 f14a1 (seqC (fun K e σ => runK Tryz.prog call dem N f14c2 f14a2 K e σ) f14a0 J) e σ := runK_seq' (by kernel_rfl) (by kernel_rfl) (by kernel_rfl)
theorem f14r1_f14e0 {R : Type} (call : Bool → CallF R) (dem : Bool) (N : Nat) (y0 : Int) (y1 : Int) (y2 : Int) (y3 : Int) (y4 : Int) (y5 : Int) (y6 : Int) (y7 : Int) (y8 : ByteArray) (y9 : ByteArray) (y10 : ByteArray) (y11 : ByteArray) (J : KF R) (σ : St) :
    runK Tryz.prog call dem N f14c1 f14a1 J (f14e0 y0 y1 y2 y3 y4 y5 y6 y7 y8 y9 y10 y11) σ =
J Ex.normal (f14e1 y0 y1 y2 y3 y4 y5 y6 y7 y8 y9 y10 y11 (St.next σ) (ByteArray.mk #[]))
  (St.new σ
    (Blk.cells
      [AV.int IntKind.i64 y0, AV.int IntKind.i64 y1, AV.int IntKind.i64 y2, AV.int IntKind.i64 y3, AV.int IntKind.i64 y4, AV.int IntKind.i64 y5,
        AV.int IntKind.i64 y6, AV.int IntKind.i64 y7, AV.str y8, AV.str y9, AV.str y10, AV.str y11]
      true)) := hide (by kernel_rfl)
theorem f14z0_f14e1 (y0 : Int) (y1 : Int) (y2 : Int) (y3 : Int) (y4 : Int) (y5 : Int) (y6 : Int) (y7 : Int) (y8 : ByteArray) (y9 : ByteArray) (y10 : ByteArray) (y11 : ByteArray) (y12 : Nat) (y13 : ByteArray) : Ann.clr f14a0 (f14e1 y0 y1 y2 y3 y4 y5 y6 y7 y8 y9 y10 y11 y12 y13) = f14e2 y12 := hide (by kernel_rfl)
theorem f14n2 {R : Type} (call : Bool → CallF R) (dem : Bool) (N : Nat) (J : KF R) (e : Env) (σ : St) : runK Tryz.prog call dem N f14c2 f14a2 J e σ = runK Tryz.prog call dem N f14c3 f14a3 (seqC (fun K e σ => runK Tryz.prog call dem N f14c4 f14a4 K e σ) f14a2 J) e σ := runK_seq' (by kernel_rfl) (by kernel_rfl) (by kernel_rfl)
theorem f14r3_f14e2 {R : Type} (call : Bool → CallF R) (dem : Bool) (N : Nat) (y0 : Nat) (J : KF R) (σ : St) :
    runK Tryz.prog call dem N f14c3 f14a3 J (f14e2 y0) σ =
J Ex.normal (f14e3 y0 (St.next σ)) (St.new σ (Blk.cells [AV.slice none (0 : Nat) (some (0 : Nat)) (1 : Nat)] true)) := hide (by kernel_rfl)
theorem f14z2_f14e3 (y0 : Nat) (y1 : Nat) : Ann.clr f14a2 (f14e3 y0 y1) = f14e3 y0 y1 := hide (by kernel_rfl)
theorem f14n4 {R : Type} (call : Bool → CallF R) (dem : Bool) (N : Nat) (J : KF R) (e : Env) (σ : St) : runK Tryz.prog call dem N f14c4 f14a4 J e σ = runK Tryz.prog call dem N f14c5 f14a5 (seqC (fun K e σ => runK Tryz.prog call dem N f14c6 f14a6 K e σ) f14a4 J) e σ := runK_seq' (by kernel_rfl) (by kernel_rfl) (by kernel_rfl)
theorem f14r5_f14e3 {R : Type} (call : Bool → CallF R) (dem : Bool) (N : Nat) (y0 : Nat) (y1 : Nat) (J : KF R) (σ : St) :
    runK Tryz.prog call dem N f14c5 f14a5 J (f14e3 y0 y1) σ =
Option.bind (St.st (St.new σ (Blk.cells [AV.int IntKind.i64 (0 : Int)] true)) (St.next σ) (0 : Nat) [AV.int IntKind.i64 (0 : Int)]) fun v0 =>
  J Ex.normal (f14e4 y0 y1 (St.next σ)) v0 := hide (by kernel_rfl)
theorem f14z4_f14e4 (y0 : Nat) (y1 : Nat) (y2 : Nat) : Ann.clr f14a4 (f14e4 y0 y1 y2) = f14e4 y0 y1 y2 := hide (by kernel_rfl)
theorem f14n6 {R : Type} (call : Bool → CallF R) (dem : Bool) (N : Nat) (J : KF R) (e : Env) (σ : St) : runK Tryz.prog call dem N f14c6 f14a6 J e σ = runK Tryz.prog call dem N f14c7 f14a7 (seqC (fun K e σ => runK Tryz.prog call dem N f14c8 f14a8 K e σ) f14a6 J) e σ := runK_seq' (by kernel_rfl) (by kernel_rfl) (by kernel_rfl)
theorem f14r7_f14e4 {R : Type} (call : Bool → CallF R) (dem : Bool) (N : Nat) (y0 : Nat) (y1 : Nat) (y2 : Nat) (J : KF R) (σ : St) :
    runK Tryz.prog call dem N f14c7 f14a7 J (f14e4 y0 y1 y2) σ =
Option.bind
  (St.st (St.new σ (Blk.cells [AV.nilFunc] true)) (St.next σ) (0 : Nat)
    [AV.func (Fn.func (28 : Nat)) [] [AV.ptr (some (y1, (0 : Nat))), AV.ptr (some (y2, (0 : Nat)))]])
  fun v0 => J Ex.normal (f14e5 y0 y1 y2 (St.next σ) (28 : Nat) y1 y2) v0 := hide (by kernel_rfl)
theorem f14z6_f14e5 (y0 : Nat) (y1 : Nat) (y2 : Nat) (y3 : Nat) (y4 : Nat) (y5 : Nat) (y6 : Nat) : Ann.clr f14a6 (f14e5 y0 y1 y2 y3 y4 y5 y6) = f14e6 y0 y1 y2 y3 := hide (by kernel_rfl)
theorem f14n8 {R : Type} (call : Bool → CallF R) (dem : Bool) (N : Nat) (J : KF R) (e : Env) (σ : St) : runK Tryz.prog call dem N f14c8 f14a8 J e σ = runK Tryz.prog call dem N f14c9 f14a9 (seqC (fun K e σ => runK Tryz.prog call dem N f14c10 f14a10 K e σ) f14a8 J) e σ := runK_seq' (by kernel_rfl) (by kernel_rfl) (by kernel_rfl)
theorem f14r9_f14e6 {R : Type} (call : Bool → CallF R) (dem : Bool) (N : Nat) (y0 : Nat) (y1 : Nat) (y2 : Nat) (y3 : Nat) (J : KF R) (σ : St) :
    runK Tryz.prog call dem N f14c9 f14a9 J (f14e6 y0 y1 y2 y3) σ =
call dem (29 : Nat)
  [AV.ptr (some (y0, (0 : Nat))), AV.func (Fn.func (30 : Nat)) [] [AV.ptr (some (y3, (0 : Nat)))],
    AV.func (Fn.func (31 : Nat)) [] [AV.ptr (some (y3, (0 : Nat)))]]
  σ fun v0 v1 =>
  Option.bind (AV.toTuple v0) fun v2 => if List.length v2 = (0 : Nat) then J Ex.normal (f14e7 y0 y1 y2 y3 (30 : Nat) y3 (31 : Nat) y3) v1 else none := hide (by kernel_rfl)
theorem f14z8_f14e7 (y0 : Nat) (y1 : Nat) (y2 : Nat) (y3 : Nat) (y4 : Nat) (y5 : Nat) (y6 : Nat) (y7 : Nat) : Ann.clr f14a8 (f14e7 y0 y1 y2 y3 y4 y5 y6 y7) = f14e8 y1 y2 := hide (by kernel_rfl)
theorem f14n10 {R : Type} (call : Bool → CallF R) (dem : Bool) (N : Nat) (J : KF R) (e : Env) (σ : St) : runK Tryz.prog call dem N f14c10 f14a10 J e σ = runK Tryz.prog call dem N f14c11 f14a11 (seqC (fun K e σ => runK Tryz.prog call dem N f14c12 f14a12 K e σ) f14a10 J) e σ := runK_seq' (by kernel_rfl) (by kernel_rfl) (by kernel_rfl)
theorem f14r11_f14e8 {R : Type} (call : Bool → CallF R) (dem : Bool) (N : Nat) (y0 : Nat) (y1 : Nat) (J : KF R) (σ : St) :
    runK Tryz.prog call dem N f14c11 f14a11 J (f14e8 y0 y1) σ =
Option.bind (St.ld σ y0 (0 : Nat)) fun v0 =>
  Option.bind (AV.toSl (1 : Nat) v0) fun v1 =>
    Option.bind (St.ld σ y1 (0 : Nat)) fun v2 =>
      Option.bind (AV.toInt IntKind.i64 v2) fun v3 =>
        Option.bind (Sl.sub (1 : Nat) (Sl.mk (Sl.o v1) (Sl.len v1) (Sl.cap v1)) none (some (IntKind.wrap IntKind.i64 (v3 + (1 : Int)))) none)
          fun v4 =>
          call dem (15 : Nat) [AV.slice (Sl.o v4) (Sl.len v4) (Sl.cap v4) (1 : Nat)] σ fun v5 v6 =>
            Option.bind (AV.toStr v5) fun v7 =>
              J Ex.normal
                (f14e9 v7 y0 y1 (Sl.o v1) (Sl.len v1) (Sl.cap v1) v3 (IntKind.wrap IntKind.i64 (v3 + (1 : Int))) (Sl.o v4) (Sl.len v4) (Sl.cap v4) v7)
                v6 := hide (by kernel_rfl)
theorem f14z10_f14e9 (y0 : ByteArray) (y1 : Nat) (y2 : Nat) (y3 : Option (Nat × Nat)) (y4 : Nat) (y5 : Option Nat) (y6 : Int) (y7 : Int) (y8 : Option (Nat × Nat)) (y9 : Nat) (y10 : Option Nat) (y11 : ByteArray) : Ann.clr f14a10 (f14e9 y0 y1 y2 y3 y4 y5 y6 y7 y8 y9 y10 y11) = f14e10 y0 := hide (by kernel_rfl)
theorem f14y12_f14e10 {R : Type} (call : Bool → CallF R) (dem : Bool) (N : Nat) (y0 : ByteArray) (J : KF R) (σ : St) : runK Tryz.prog call dem N f14c12 f14a12 J (f14e10 y0) σ = J .ret (f14e10 y0) σ := runK_ret' (by kernel_rfl) (by kernel_rfl)
theorem f14b_f14e10_r {R : Type} (y0 : ByteArray) (σ : St) (K : AV → St → Option R) : bodyC Tryz.prog f14rs K (Ex.ret) (f14e10 y0) σ =
K (AV.str y0) σ := hide (by kernel_rfl)
attribute [go_sem] f14_eq f14n0 f14r1_f14e0 f14z0_f14e1 f14n2 f14r3_f14e2 f14z2_f14e3 f14n4 f14r5_f14e3 f14z4_f14e4 f14n6 f14r7_f14e4 f14z6_f14e5 f14n8 f14r9_f14e6 f14z8_f14e7 f14n10 f14r11_f14e8 f14z10_f14e9 f14y12_f14e10 f14b_f14e10_r

noncomputable def f28rs : List ResultVar := []
noncomputable def f28c0 : Code := subCode [] (bodyOf Tryz.prog 28)
def f28a0 : Ann := subAnn [] ann28
noncomputable def f28c1 : Code := subCode [0] (bodyOf Tryz.prog 28)
def f28a1 : Ann := subAnn [0] ann28
noncomputable def f28c2 : Code := subCode [1] (bodyOf Tryz.prog 28)
def f28a2 : Ann := subAnn [1] ann28
noncomputable def f28c3 : Code := subCode [1, 0] (bodyOf Tryz.prog 28)
def f28a3 : Ann := subAnn [1, 0] ann28
noncomputable def f28c4 : Code := subCode [1, 1] (bodyOf Tryz.prog 28)
def f28a4 : Ann := subAnn [1, 1] ann28
noncomputable def f28c5 : Code := subCode [1, 1, 0] (bodyOf Tryz.prog 28)
def f28a5 : Ann := subAnn [1, 1, 0] ann28
noncomputable def f28c6 : Code := subCode [1, 1, 1] (bodyOf Tryz.prog 28)
def f28a6 : Ann := subAnn [1, 1, 1] ann28
def f28e0 (y0 : Int) (y1 : ByteArray) (y2 : Bool) (y3 : Nat) (y4 : Nat) : Env := AV.int IntKind.i64 y0 :: AV.str y1 :: AV.bool y2 :: AV.ptr (some (y3, (0 : Nat))) :: AV.ptr (some (y4, (0 : Nat))) :: Env.sp 10 []
def f28e1 (y0 : Int) (y1 : ByteArray) (y2 : Bool) (y3 : Nat) (y4 : Nat) (y5 : Option (Nat × Nat)) (y6 : Nat) (y7 : Option Nat) (y8 : ByteArray) (y9 : Option (Nat × Nat)) (y10 : Nat) (y11 : Option Nat) (y12 : Option (Nat × Nat)) (y13 : Nat) (y14 : Option Nat) : Env := AV.int IntKind.i64 y0 :: AV.str y1 :: AV.bool y2 :: AV.ptr (some (y3, (0 : Nat))) :: AV.ptr (some (y4, (0 : Nat))) :: Env.sp 3 (AV.slice y5 y6 y7 (1 : Nat) :: AV.str y8 :: AV.slice y9 y10 y11 (1 : Nat) :: AV.slice y12 y13 y14 (1 : Nat) :: Env.sp 3 [])
def f28e2 (y0 : Int) (y1 : Bool) (y2 : Nat) : Env := AV.int IntKind.i64 y0 :: Env.sp 1 (AV.bool y1 :: Env.sp 1 (AV.ptr (some (y2, (0 : Nat))) :: Env.sp 10 []))
def f28e3 (y0 : Int) (y1 : Bool) (y2 : Nat) (y3 : Bool) (y4 : Bool) : Env := AV.int IntKind.i64 y0 :: Env.sp 1 (AV.bool y1 :: Env.sp 1 (AV.ptr (some (y2, (0 : Nat))) :: Env.sp 7 (AV.bool y3 :: AV.bool y4 :: Env.sp 1 [])))
def f28e4 (y0 : Int) (y1 : Nat) (y2 : Bool) : Env := AV.int IntKind.i64 y0 :: Env.sp 3 (AV.ptr (some (y1, (0 : Nat))) :: Env.sp 8 (AV.bool y2 :: Env.sp 1 []))
def f28e5 (y0 : Int) (y1 : Nat) (y2 : Bool) (y3 : Int) : Env := AV.int IntKind.i64 y0 :: Env.sp 3 (AV.ptr (some (y1, (0 : Nat))) :: Env.sp 8 (AV.bool y2 :: AV.int IntKind.i64 y3 :: []))
def f28e6 : Env := Env.sp 15 []

/- function 28 -/
theorem f28_eq {R : Type} (call : Bool → CallF R) (dem : Bool) (N : Nat) (y0 : Int) (y1 : ByteArray) (y2 : Bool) (y3 : Nat) (y4 : Nat) (σ : St) (K : AV → St → Option R) :
    bodyK Tryz.prog call dem N ann 28 [AV.int IntKind.i64 y0, AV.str y1, AV.bool y2, AV.ptr (some (y3, (0 : Nat))), AV.ptr (some (y4, (0 : Nat)))] σ K = runK Tryz.prog call dem N f28c0 f28a0 (bodyC Tryz.prog f28rs K) (f28e0 y0 y1 y2 y3 y4) σ := bodyK_of (fn := ((Tryz.prog.funcs[28]?).get rfl)) (by kernel_rfl) (by kernel_rfl) (by kernel_rfl) (by kernel_rfl) (by kernel_rfl) (by kernel_rfl)
theorem f28n0 {R : Type} (call : Bool → CallF R) (dem : Bool) (N : Nat) (J : KF R) (e : Env) (σ : St) : runK Tryz.prog call dem N f28c0 f28a0 J e σ = runK Tryz.prog call dem N f28c1 f28a1 (seqC (fun K e σ => runK Tryz.prog call dem N f28c2 f28a2 K e σ) f28a0 J) e σ := runK_seq' (by kernel_rfl) (by kernel_rfl) (by kernel_rfl)
theorem f28r1_f28e0 {R : Type} (call : Bool → CallF R) (dem : Bool) (N : Nat) (y0 : Int) (y1 : ByteArray) (y2 : Bool) (y3 : Nat) (y4 : Nat) (J : KF R) (σ : St) :
    runK Tryz.prog call dem N f28c1 f28a1 J (f28e0 y0 y1 y2 y3 y4) σ =
Option.bind (St.ld σ y3 (0 : Nat)) fun v0 =>
  Option.bind (AV.toSl (1 : Nat) v0) fun v1 =>
    Option.bind
      (St.elems (St.new σ (Blk.cells [AV.str y1] true)) (1 : Nat) (Sl.mk (some (St.next σ, (0 : Nat))) (1 : Nat) (some (1 : Nat))) (1 : Nat))
      fun v2 =>
      Option.bind (St.app (St.new σ (Blk.cells [AV.str y1] true)) (1 : Nat) (16 : Nat) (Sl.mk (Sl.o v1) (Sl.len v1) (Sl.cap v1)) (1 : Nat) v2)
        fun v3 =>
        Option.bind (St.st (Prod.snd v3) y3 (0 : Nat) [AV.slice (Sl.o (Prod.fst v3)) (Sl.len (Prod.fst v3)) (Sl.cap (Prod.fst v3)) (1 : Nat)])
          fun v4 =>
          J Ex.normal
            (f28e1 y0 y1 y2 y3 y4 (Sl.o v1) (Sl.len v1) (Sl.cap v1) y1 (some (St.next σ, (0 : Nat))) (1 : Nat) (some (1 : Nat)) (Sl.o (Prod.fst v3))
              (Sl.len (Prod.fst v3)) (Sl.cap (Prod.fst v3)))
            v4 := hide (by kernel_rfl)
theorem f28z0_f28e1 (y0 : Int) (y1 : ByteArray) (y2 : Bool) (y3 : Nat) (y4 : Nat) (y5 : Option (Nat × Nat)) (y6 : Nat) (y7 : Option Nat) (y8 : ByteArray) (y9 : Option (Nat × Nat)) (y10 : Nat) (y11 : Option Nat) (y12 : Option (Nat × Nat)) (y13 : Nat) (y14 : Option Nat) : Ann.clr f28a0 (f28e1 y0 y1 y2 y3 y4 y5 y6 y7 y8 y9 y10 y11 y12 y13 y14) = f28e2 y0 y2 y4 := hide (by kernel_rfl)
theorem f28n2 {R : Type} (call : Bool → CallF R) (dem : Bool) (N : Nat) (J : KF R) (e : Env) (σ : St) : runK Tryz.prog call dem N f28c2 f28a2 J e σ = runK Tryz.prog call dem N f28c3 f28a3 (seqC (fun K e σ => runK Tryz.prog call dem N f28c4 f28a4 K e σ) f28a2 J) e σ := runK_seq' (by kernel_rfl) (by kernel_rfl) (by kernel_rfl)
theorem f28r3_f28e2 {R : Type} (call : Bool → CallF R) (dem : Bool) (N : Nat) (y0 : Int) (y1 : Bool) (y2 : Nat) (J : KF R) (σ : St) :
    runK Tryz.prog call dem N f28c3 f28a3 J (f28e2 y0 y1 y2) σ =
J Ex.normal (f28e3 y0 y1 y2 y1 !y1) σ := hide (by kernel_rfl)
theorem f28z2_f28e3 (y0 : Int) (y1 : Bool) (y2 : Nat) (y3 : Bool) (y4 : Bool) : Ann.clr f28a2 (f28e3 y0 y1 y2 y3 y4) = f28e4 y0 y2 y4 := hide (by kernel_rfl)
theorem f28x4_f28e4 {R : Type} (call : Bool → CallF R) (dem : Bool) (N : Nat) (y0 : Int) (y1 : Nat) (y2 : Bool) (J : KF R) (σ : St) : runK Tryz.prog call dem N f28c4 f28a4 J (f28e4 y0 y1 y2) σ = if y2 = true then runK Tryz.prog call dem N f28c5 f28a5 (condC f28a4 J) (f28e4 y0 y1 y2) σ else runK Tryz.prog call dem N f28c6 f28a6 (condC f28a4 J) (f28e4 y0 y1 y2) σ := runK_cond' (o := Operand.tmp (13 : Nat)) (by kernel_rfl) (by kernel_rfl) (by kernel_rfl) (by kernel_rfl)
theorem f28r5_f28e4 {R : Type} (call : Bool → CallF R) (dem : Bool) (N : Nat) (y0 : Int) (y1 : Nat) (y2 : Bool) (J : KF R) (σ : St) :
    runK Tryz.prog call dem N f28c5 f28a5 J (f28e4 y0 y1 y2) σ =
Option.bind (St.st σ y1 (0 : Nat) [AV.int IntKind.i64 y0]) fun v0 => J Ex.normal (f28e5 y0 y1 y2 y0) v0 := hide (by kernel_rfl)
theorem f28z4_f28e5 (y0 : Int) (y1 : Nat) (y2 : Bool) (y3 : Int) : Ann.clr f28a4 (f28e5 y0 y1 y2 y3) = f28e6 := hide (by kernel_rfl)
theorem f28n6 {R : Type} (call : Bool → CallF R) (dem : Bool) (N : Nat) (J : KF R) (e : Env) (σ : St) : runK Tryz.prog call dem N f28c6 f28a6 J e σ = J .normal e σ := runK_skip' (by kernel_rfl)
theorem f28z4_f28e4 (y0 : Int) (y1 : Nat) (y2 : Bool) : Ann.clr f28a4 (f28e4 y0 y1 y2) = f28e6 := hide (by kernel_rfl)
theorem f28b_f28e6_n {R : Type} (σ : St) (K : AV → St → Option R) : bodyC Tryz.prog f28rs K (Ex.normal) (f28e6) σ =
K (AV.tuple []) σ := hide (by kernel_rfl)
attribute [go_sem] f28_eq f28n0 f28r1_f28e0 f28z0_f28e1 f28n2 f28r3_f28e2 f28z2_f28e3 f28x4_f28e4 f28r5_f28e4 f28z4_f28e5 f28n6 f28z4_f28e4 f28b_f28e6_n

noncomputable def f29rs : List ResultVar := []
noncomputable def f29c0 : Code := subCode [] (bodyOf Tryz.prog 29)
def f29a0 : Ann := subAnn [] ann29
noncomputable def f29c1 : Code := subCode [0] (bodyOf Tryz.prog 29)
def f29a1 : Ann := subAnn [0] ann29
noncomputable def f29c2 : Code := subCode [1] (bodyOf Tryz.prog 29)
def f29a2 : Ann := subAnn [1] ann29
noncomputable def f29c3 : Code := subCode [0, 0] (bodyOf Tryz.prog 29)
def f29a3 : Ann := subAnn [0, 0] ann29
noncomputable def f29c4 : Code := subCode [0, 1] (bodyOf Tryz.prog 29)
def f29a4 : Ann := subAnn [0, 1] ann29
noncomputable def f29c5 : Code := subCode [0, 1, 0] (bodyOf Tryz.prog 29)
def f29a5 : Ann := subAnn [0, 1, 0] ann29
noncomputable def f29c6 : Code := subCode [0, 1, 0, 0] (bodyOf Tryz.prog 29)
def f29a6 : Ann := subAnn [0, 1, 0, 0] ann29
noncomputable def f29c7 : Code := subCode [0, 1, 0, 0, 0] (bodyOf Tryz.prog 29)
def f29a7 : Ann := subAnn [0, 1, 0, 0, 0] ann29
noncomputable def f29c8 : Code := subCode [0, 1, 0, 0, 1] (bodyOf Tryz.prog 29)
def f29a8 : Ann := subAnn [0, 1, 0, 0, 1] ann29
noncomputable def f29c9 : Code := subCode [0, 1, 0, 0, 1, 0] (bodyOf Tryz.prog 29)
def f29a9 : Ann := subAnn [0, 1, 0, 0, 1, 0] ann29
noncomputable def f29c10 : Code := subCode [0, 1, 0, 0, 1, 1] (bodyOf Tryz.prog 29)
def f29a10 : Ann := subAnn [0, 1, 0, 0, 1, 1] ann29
noncomputable def f29c11 : Code := subCode [0, 1, 0, 0, 1, 0, 0] (bodyOf Tryz.prog 29)
def f29a11 : Ann := subAnn [0, 1, 0, 0, 1, 0, 0] ann29
noncomputable def f29c12 : Code := subCode [0, 1, 0, 0, 1, 0, 1] (bodyOf Tryz.prog 29)
def f29a12 : Ann := subAnn [0, 1, 0, 0, 1, 0, 1] ann29
noncomputable def f29c13 : Code := subCode [0, 1, 0, 0, 1, 1, 0] (bodyOf Tryz.prog 29)
def f29a13 : Ann := subAnn [0, 1, 0, 0, 1, 1, 0] ann29
noncomputable def f29c14 : Code := subCode [0, 1, 0, 0, 1, 1, 1] (bodyOf Tryz.prog 29)
def f29a14 : Ann := subAnn [0, 1, 0, 0, 1, 1, 1] ann29
noncomputable def f29c15 : Code := subCode [0, 1, 0, 0, 1, 1, 0, 0] (bodyOf Tryz.prog 29)
def f29a15 : Ann := subAnn [0, 1, 0, 0, 1, 1, 0, 0] ann29
noncomputable def f29c16 : Code := subCode [0, 1, 0, 0, 1, 1, 0, 0, 0] (bodyOf Tryz.prog 29)
def f29a16 : Ann := subAnn [0, 1, 0, 0, 1, 1, 0, 0, 0] ann29
noncomputable def f29c17 : Code := subCode [0, 1, 0, 0, 1, 1, 0, 0, 1] (bodyOf Tryz.prog 29)
def f29a17 : Ann := subAnn [0, 1, 0, 0, 1, 1, 0, 0, 1] ann29
noncomputable def f29c18 : Code := subCode [1, 0] (bodyOf Tryz.prog 29)
def f29a18 : Ann := subAnn [1, 0] ann29
noncomputable def f29c19 : Code := subCode [1, 1] (bodyOf Tryz.prog 29)
def f29a19 : Ann := subAnn [1, 1] ann29
noncomputable def f29c20 : Code := subCode [1, 1, 0] (bodyOf Tryz.prog 29)
def f29a20 : Ann := subAnn [1, 1, 0] ann29
noncomputable def f29c21 : Code := subCode [1, 1, 0, 0] (bodyOf Tryz.prog 29)
def f29a21 : Ann := subAnn [1, 1, 0, 0] ann29
noncomputable def f29c22 : Code := subCode [1, 1, 0, 0, 0] (bodyOf Tryz.prog 29)
def f29a22 : Ann := subAnn [1, 1, 0, 0, 0] ann29
noncomputable def f29c23 : Code := subCode [1, 1, 0, 0, 1] (bodyOf Tryz.prog 29)
def f29a23 : Ann := subAnn [1, 1, 0, 0, 1] ann29
noncomputable def f29c24 : Code := subCode [1, 1, 0, 0, 1, 0] (bodyOf Tryz.prog 29)
def f29a24 : Ann := subAnn [1, 1, 0, 0, 1, 0] ann29
noncomputable def f29c25 : Code := subCode [1, 1, 0, 0, 1, 1] (bodyOf Tryz.prog 29)
def f29a25 : Ann := subAnn [1, 1, 0, 0, 1, 1] ann29
noncomputable def f29c26 : Code := subCode [1, 1, 0, 0, 1, 0, 0] (bodyOf Tryz.prog 29)
def f29a26 : Ann := subAnn [1, 1, 0, 0, 1, 0, 0] ann29
noncomputable def f29c27 : Code := subCode [1, 1, 0, 0, 1, 0, 1] (bodyOf Tryz.prog 29)
def f29a27 : Ann := subAnn [1, 1, 0, 0, 1, 0, 1] ann29
noncomputable def f29c28 : Code := subCode [1, 1, 0, 0, 1, 1, 0] (bodyOf Tryz.prog 29)
def f29a28 : Ann := subAnn [1, 1, 0, 0, 1, 1, 0] ann29
noncomputable def f29c29 : Code := subCode [1, 1, 0, 0, 1, 1, 1] (bodyOf Tryz.prog 29)
def f29a29 : Ann := subAnn [1, 1, 0, 0, 1, 1, 1] ann29
noncomputable def f29c30 : Code := subCode [1, 1, 0, 0, 1, 1, 0, 0] (bodyOf Tryz.prog 29)
def f29a30 : Ann := subAnn [1, 1, 0, 0, 1, 1, 0, 0] ann29
noncomputable def f29c31 : Code := subCode [1, 1, 0, 0, 1, 1, 0, 0, 0] (bodyOf Tryz.prog 29)
def f29a31 : Ann := subAnn [1, 1, 0, 0, 1, 1, 0, 0, 0] ann29
noncomputable def f29c32 : Code := subCode [1, 1, 0, 0, 1, 1, 0, 0, 1] (bodyOf Tryz.prog 29)
def f29a32 : Ann := subAnn [1, 1, 0, 0, 1, 1, 0, 0, 1] ann29
noncomputable def f29L5 {R : Type} (call : Bool → CallF R) (dem : Bool) (N : Nat) : KF R → Env → St → Option R := fun K e σ => runK Tryz.prog call dem N f29c6 f29a6 K e σ
noncomputable def f29L20 {R : Type} (call : Bool → CallF R) (dem : Bool) (N : Nat) : KF R → Env → St → Option R := fun K e σ => runK Tryz.prog call dem N f29c21 f29a21 K e σ
def f29e0 (y0 : Option (Nat × Nat)) (y1 : Nat) (y2 : Nat) (y3 : Nat) (y4 : Nat) : Env := AV.ptr y0 :: AV.func (Fn.func y1) [] [AV.ptr (some (y2, (0 : Nat)))] :: AV.func (Fn.func y3) [] [AV.ptr (some (y4, (0 : Nat)))] :: Env.sp 34 []
def f29e1 (y0 : Option (Nat × Nat)) (y1 : Nat) (y2 : Nat) (y3 : Nat) (y4 : Nat) (y5 : Option (Nat × Nat)) (y6 : Option (Nat × Nat)) (y7 : Nat) (y8 : Option Nat) (y9 : Int) (y10 : Int) : Env := AV.ptr y0 :: AV.func (Fn.func y1) [] [AV.ptr (some (y2, (0 : Nat)))] :: AV.func (Fn.func y3) [] [AV.ptr (some (y4, (0 : Nat)))] :: Env.sp 7 (AV.ptr y5 :: AV.slice y6 y7 y8 (1 : Nat) :: AV.int IntKind.i64 y9 :: AV.int IntKind.i64 y10 :: Env.sp 23 [])
def f29e2 (y0 : Option (Nat × Nat)) (y1 : Nat) (y2 : Nat) (y3 : Nat) (y4 : Nat) (y5 : Option (Nat × Nat)) (y6 : Nat) (y7 : Option Nat) (y8 : Int) (y9 : Int) : Env := AV.ptr y0 :: AV.func (Fn.func y1) [] [AV.ptr (some (y2, (0 : Nat)))] :: AV.func (Fn.func y3) [] [AV.ptr (some (y4, (0 : Nat)))] :: Env.sp 8 (AV.slice y5 y6 y7 (1 : Nat) :: AV.int IntKind.i64 y8 :: AV.int IntKind.i64 y9 :: Env.sp 23 [])
def f29e3 (y0 : Option (Nat × Nat)) (y1 : Nat) (y2 : Nat) (y3 : Nat) (y4 : Nat) (y5 : Option (Nat × Nat)) (y6 : Nat) (y7 : Option Nat) (y8 : Int) (y9 : Int) (y10 : Bool) : Env := AV.ptr y0 :: AV.func (Fn.func y1) [] [AV.ptr (some (y2, (0 : Nat)))] :: AV.func (Fn.func y3) [] [AV.ptr (some (y4, (0 : Nat)))] :: Env.sp 8 (AV.slice y5 y6 y7 (1 : Nat) :: AV.int IntKind.i64 y8 :: AV.int IntKind.i64 y9 :: AV.bool y10 :: Env.sp 22 [])
def f29e4 (y0 : Option (Nat × Nat)) (y1 : Nat) (y2 : Nat) : Env := AV.ptr y0 :: Env.sp 1 (AV.func (Fn.func y1) [] [AV.ptr (some (y2, (0 : Nat)))] :: Env.sp 34 [])
def f29e5 (y0 : Option (Nat × Nat)) (y1 : Nat) (y2 : Nat) (y3 : Nat) (y4 : Nat) (y5 : Int) (y6 : Option (Nat × Nat)) (y7 : Option (Nat × Nat)) (y8 : Nat) (y9 : Option Nat) (y10 : Int) (y11 : Int) (y12 : Int) (y13 : Option (Nat × Nat)) (y14 : Option (Nat × Nat)) : Env := AV.ptr y0 :: AV.func (Fn.func y1) [] [AV.ptr (some (y2, (0 : Nat)))] :: AV.func (Fn.func y3) [] [AV.ptr (some (y4, (0 : Nat)))] :: Env.sp 3 (AV.int IntKind.i64 y5 :: AV.ptr y6 :: Env.sp 3 (AV.slice y7 y8 y9 (1 : Nat) :: AV.int IntKind.i64 y10 :: AV.int IntKind.i64 y11 :: Env.sp 1 (AV.int IntKind.i64 y12 :: AV.ptr y13 :: AV.ptr y14 :: Env.sp 19 [])))
def f29e6 (y0 : Option (Nat × Nat)) (y1 : Nat) (y2 : Nat) (y3 : Nat) (y4 : Nat) (y5 : Int) (y6 : Option (Nat × Nat)) (y7 : Option (Nat × Nat)) (y8 : Nat) (y9 : Option Nat) (y10 : Int) (y11 : Int) : Env := AV.ptr y0 :: AV.func (Fn.func y1) [] [AV.ptr (some (y2, (0 : Nat)))] :: AV.func (Fn.func y3) [] [AV.ptr (some (y4, (0 : Nat)))] :: Env.sp 3 (AV.int IntKind.i64 y5 :: AV.ptr y6 :: Env.sp 3 (AV.slice y7 y8 y9 (1 : Nat) :: AV.int IntKind.i64 y10 :: AV.int IntKind.i64 y11 :: Env.sp 23 []))
def f29e7 (y0 : Option (Nat × Nat)) (y1 : Nat) (y2 : Nat) (y3 : Nat) (y4 : Nat) (y5 : Int) (y6 : Option (Nat × Nat)) (y7 : Option (Nat × Nat)) (y8 : Nat) (y9 : Option Nat) (y10 : Int) (y11 : Int) (y12 : Nat) (y13 : Nat) (y14 : Int) (y15 : Option (Nat × Nat)) : Env := AV.ptr y0 :: AV.func (Fn.func y1) [] [AV.ptr (some (y2, (0 : Nat)))] :: AV.func (Fn.func y3) [] [AV.ptr (some (y4, (0 : Nat)))] :: Env.sp 3 (AV.int IntKind.i64 y5 :: AV.ptr y6 :: Env.sp 3 (AV.slice y7 y8 y9 (1 : Nat) :: AV.int IntKind.i64 y10 :: AV.int IntKind.i64 y11 :: Env.sp 4 (AV.func (Fn.func y12) [] [AV.ptr (some (y13, (0 : Nat)))] :: AV.int IntKind.i64 y14 :: AV.ptr y15 :: AV.tuple [] :: Env.sp 15 [])))
def f29e8 (y0 : Option (Nat × Nat)) (y1 : Nat) (y2 : Nat) (y3 : Nat) (y4 : Nat) (y5 : Option (Nat × Nat)) (y6 : Nat) (y7 : Option Nat) (y8 : Int) (y9 : Int) (y10 : Int) : Env := AV.ptr y0 :: AV.func (Fn.func y1) [] [AV.ptr (some (y2, (0 : Nat)))] :: AV.func (Fn.func y3) [] [AV.ptr (some (y4, (0 : Nat)))] :: Env.sp 8 (AV.slice y5 y6 y7 (1 : Nat) :: AV.int IntKind.i64 y8 :: AV.int IntKind.i64 y9 :: Env.sp 8 (AV.int IntKind.i64 y10 :: Env.sp 14 []))
def f29e9 (y0 : Option (Nat × Nat)) (y1 : Nat) (y2 : Nat) (y3 : Option (Nat × Nat)) (y4 : Option (Nat × Nat)) (y5 : Nat) (y6 : Option Nat) (y7 : Int) (y8 : Int) : Env := AV.ptr y0 :: Env.sp 1 (AV.func (Fn.func y1) [] [AV.ptr (some (y2, (0 : Nat)))] :: Env.sp 20 (AV.ptr y3 :: AV.slice y4 y5 y6 (1 : Nat) :: AV.int IntKind.i64 y7 :: AV.int IntKind.i64 y8 :: Env.sp 10 []))
def f29e10 (y0 : Nat) (y1 : Nat) (y2 : Option (Nat × Nat)) (y3 : Nat) (y4 : Option Nat) (y5 : Int) (y6 : Int) : Env := Env.sp 2 (AV.func (Fn.func y0) [] [AV.ptr (some (y1, (0 : Nat)))] :: Env.sp 21 (AV.slice y2 y3 y4 (1 : Nat) :: AV.int IntKind.i64 y5 :: AV.int IntKind.i64 y6 :: Env.sp 10 []))
def f29e11 (y0 : Nat) (y1 : Nat) (y2 : Option (Nat × Nat)) (y3 : Nat) (y4 : Option Nat) (y5 : Int) (y6 : Int) (y7 : Bool) : Env := Env.sp 2 (AV.func (Fn.func y0) [] [AV.ptr (some (y1, (0 : Nat)))] :: Env.sp 21 (AV.slice y2 y3 y4 (1 : Nat) :: AV.int IntKind.i64 y5 :: AV.int IntKind.i64 y6 :: AV.bool y7 :: Env.sp 9 []))
def f29e12 : Env := Env.sp 37 []
def f29e13 (y0 : Nat) (y1 : Nat) (y2 : Int) (y3 : Option (Nat × Nat)) (y4 : Option (Nat × Nat)) (y5 : Nat) (y6 : Option Nat) (y7 : Int) (y8 : Int) (y9 : Int) (y10 : Option (Nat × Nat)) (y11 : Option (Nat × Nat)) : Env := Env.sp 2 (AV.func (Fn.func y0) [] [AV.ptr (some (y1, (0 : Nat)))] :: Env.sp 5 (AV.int IntKind.i64 y2 :: AV.ptr y3 :: Env.sp 14 (AV.slice y4 y5 y6 (1 : Nat) :: AV.int IntKind.i64 y7 :: AV.int IntKind.i64 y8 :: Env.sp 1 (AV.int IntKind.i64 y9 :: AV.ptr y10 :: AV.ptr y11 :: Env.sp 6 []))))
def f29e14 (y0 : Nat) (y1 : Nat) (y2 : Int) (y3 : Option (Nat × Nat)) (y4 : Option (Nat × Nat)) (y5 : Nat) (y6 : Option Nat) (y7 : Int) (y8 : Int) : Env := Env.sp 2 (AV.func (Fn.func y0) [] [AV.ptr (some (y1, (0 : Nat)))] :: Env.sp 5 (AV.int IntKind.i64 y2 :: AV.ptr y3 :: Env.sp 14 (AV.slice y4 y5 y6 (1 : Nat) :: AV.int IntKind.i64 y7 :: AV.int IntKind.i64 y8 :: Env.sp 10 [])))
def f29e15 (y0 : Nat) (y1 : Nat) (y2 : Int) (y3 : Option (Nat × Nat)) (y4 : Option (Nat × Nat)) (y5 : Nat) (y6 : Option Nat) (y7 : Int) (y8 : Int) (y9 : Nat) (y10 : Nat) (y11 : Int) (y12 : Int) (y13 : Option (Nat × Nat)) : Env := Env.sp 2 (AV.func (Fn.func y0) [] [AV.ptr (some (y1, (0 : Nat)))] :: Env.sp 5 (AV.int IntKind.i64 y2 :: AV.ptr y3 :: Env.sp 14 (AV.slice y4 y5 y6 (1 : Nat) :: AV.int IntKind.i64 y7 :: AV.int IntKind.i64 y8 :: Env.sp 4 (AV.func (Fn.func y9) [] [AV.ptr (some (y10, (0 : Nat)))] :: AV.int IntKind.i64 y11 :: AV.int IntKind.i64 y12 :: AV.ptr y13 :: AV.tuple [] :: Env.sp 1 []))))
def f29e16 (y0 : Nat) (y1 : Nat) (y2 : Option (Nat × Nat)) (y3 : Nat) (y4 : Option Nat) (y5 : Int) (y6 : Int) (y7 : Int) : Env := Env.sp 2 (AV.func (Fn.func y0) [] [AV.ptr (some (y1, (0 : Nat)))] :: Env.sp 21 (AV.slice y2 y3 y4 (1 : Nat) :: AV.int IntKind.i64 y5 :: AV.int IntKind.i64 y6 :: Env.sp 9 (AV.int IntKind.i64 y7 :: [])))

/- function 29 -/
theorem f29_eq {R : Type} (call : Bool → CallF R) (dem : Bool) (N : Nat) (y0 : Option (Nat × Nat)) (y1 : Nat) (y2 : Nat) (y3 : Nat) (y4 : Nat) (σ : St) (K : AV → St → Option R) :
    bodyK Tryz.prog call dem N ann 29 [AV.ptr y0, AV.func (Fn.func y1) [] [AV.ptr (some (y2, (0 : Nat)))], AV.func (Fn.func y3) [] [AV.ptr (some (y4, (0 : Nat)))]] σ K = runK Tryz.prog call dem N f29c0 f29a0 (bodyC Tryz.prog f29rs K) (f29e0 y0 y1 y2 y3 y4) σ := bodyK_of (fn := ((Tryz.prog.funcs[29]?).get rfl)) (by kernel_rfl) (by kernel_rfl) (by kernel_rfl) (by kernel_rfl) (by kernel_rfl) (by kernel_rfl)
theorem f29n0 {R : Type} (call : Bool → CallF R) (dem : Bool) (N : Nat) (J : KF R) (e : Env) (σ : St) : runK Tryz.prog call dem N f29c0 f29a0 J e σ = runK Tryz.prog call dem N f29c1 f29a1 (seqC (fun K e σ => runK Tryz.prog call dem N f29c2 f29a2 K e σ) f29a0 J) e σ := runK_seq' (by kernel_rfl) (by kernel_rfl) (by kernel_rfl)
theorem f29n1 {R : Type} (call : Bool → CallF R) (dem : Bool) (N : Nat) (J : KF R) (e : Env) (σ : St) : runK Tryz.prog call dem N f29c1 f29a1 J e σ = runK Tryz.prog call dem N f29c3 f29a3 (seqC (fun K e σ => runK Tryz.prog call dem N f29c4 f29a4 K e σ) f29a1 J) e σ := runK_seq' (by kernel_rfl) (by kernel_rfl) (by kernel_rfl)
theorem f29r3_f29e0 {R : Type} (call : Bool → CallF R) (dem : Bool) (N : Nat) (y0 : Option (Nat × Nat)) (y1 : Nat) (y2 : Nat) (y3 : Nat) (y4 : Nat) (J : KF R) (σ : St) :
    runK Tryz.prog call dem N f29c3 f29a3 J (f29e0 y0 y1 y2 y3 y4) σ =
call dem (63 : Nat) [AV.ptr y0] σ fun v0 v1 =>
  Option.bind (AV.toSl (1 : Nat) v0) fun v2 =>
    J Ex.normal (f29e1 y0 y1 y2 y3 y4 y0 (Sl.o v2) (Sl.len v2) (Sl.cap v2) (↑(Sl.len v2) : Int) (0 : Int)) v1 := hide (by kernel_rfl)
theorem f29z1_f29e1 (y0 : Option (Nat × Nat)) (y1 : Nat) (y2 : Nat) (y3 : Nat) (y4 : Nat) (y5 : Option (Nat × Nat)) (y6 : Option (Nat × Nat)) (y7 : Nat) (y8 : Option Nat) (y9 : Int) (y10 : Int) : Ann.clr f29a1 (f29e1 y0 y1 y2 y3 y4 y5 y6 y7 y8 y9 y10) = f29e2 y0 y1 y2 y3 y4 y6 y7 y8 y9 y10 := hide (by kernel_rfl)
theorem f29n4 {R : Type} (call : Bool → CallF R) (dem : Bool) (N : Nat) (J : KF R) (e : Env) (σ : St) : runK Tryz.prog call dem N f29c4 f29a4 J e σ = runK Tryz.prog call dem N f29c5 f29a5 (blockC 0 f29a4 J) e σ := runK_block' (by kernel_rfl) (by kernel_rfl)
theorem f29L5_eq {R : Type} (call : Bool → CallF R) (dem : Bool) (N : Nat) (J : KF R) (e : Env) (σ : St) : f29L5 call dem N J e σ = runK Tryz.prog call dem N f29c6 f29a6 J e σ := hide rfl
theorem f29z5_f29e2 (y0 : Option (Nat × Nat)) (y1 : Nat) (y2 : Nat) (y3 : Nat) (y4 : Nat) (y5 : Option (Nat × Nat)) (y6 : Nat) (y7 : Option Nat) (y8 : Int) (y9 : Int) : Ann.clr f29a5 (f29e2 y0 y1 y2 y3 y4 y5 y6 y7 y8 y9) = f29e2 y0 y1 y2 y3 y4 y5 y6 y7 y8 y9 := hide (by kernel_rfl)
theorem f29l5_f29e2 {R : Type} (call : Bool → CallF R) (dem : Bool) (N : Nat) (y0 : Option (Nat × Nat)) (y1 : Nat) (y2 : Nat) (y3 : Nat) (y4 : Nat) (y5 : Option (Nat × Nat)) (y6 : Nat) (y7 : Option Nat) (y8 : Int) (y9 : Int) (J : KF R) (σ : St) : runK Tryz.prog call dem N f29c5 f29a5 J (f29e2 y0 y1 y2 y3 y4 y5 y6 y7 y8 y9) σ = loopK (f29L5 call dem N) f29a5 N J (f29e2 y0 y1 y2 y3 y4 y5 y6 y7 y8 y9) σ := runK_loop' (by kernel_rfl) (by kernel_rfl) (by kernel_rfl)
theorem f29n6 {R : Type} (call : Bool → CallF R) (dem : Bool) (N : Nat) (J : KF R) (e : Env) (σ : St) : runK Tryz.prog call dem N f29c6 f29a6 J e σ = runK Tryz.prog call dem N f29c7 f29a7 (seqC (fun K e σ => runK Tryz.prog call dem N f29c8 f29a8 K e σ) f29a6 J) e σ := runK_seq' (by kernel_rfl) (by kernel_rfl) (by kernel_rfl)
theorem f29r7_f29e2 {R : Type} (call : Bool → CallF R) (dem : Bool) (N : Nat) (y0 : Option (Nat × Nat)) (y1 : Nat) (y2 : Nat) (y3 : Nat) (y4 : Nat) (y5 : Option (Nat × Nat)) (y6 : Nat) (y7 : Option Nat) (y8 : Int) (y9 : Int) (J : KF R) (σ : St) :
    runK Tryz.prog call dem N f29c7 f29a7 J (f29e2 y0 y1 y2 y3 y4 y5 y6 y7 y8 y9) σ =
J Ex.normal (f29e3 y0 y1 y2 y3 y4 y5 y6 y7 y8 y9 (decide (y9 < y8))) σ := hide (by kernel_rfl)
theorem f29z6_f29e3 (y0 : Option (Nat × Nat)) (y1 : Nat) (y2 : Nat) (y3 : Nat) (y4 : Nat) (y5 : Option (Nat × Nat)) (y6 : Nat) (y7 : Option Nat) (y8 : Int) (y9 : Int) (y10 : Bool) : Ann.clr f29a6 (f29e3 y0 y1 y2 y3 y4 y5 y6 y7 y8 y9 y10) = f29e3 y0 y1 y2 y3 y4 y5 y6 y7 y8 y9 y10 := hide (by kernel_rfl)
theorem f29n8 {R : Type} (call : Bool → CallF R) (dem : Bool) (N : Nat) (J : KF R) (e : Env) (σ : St) : runK Tryz.prog call dem N f29c8 f29a8 J e σ = runK Tryz.prog call dem N f29c9 f29a9 (seqC (fun K e σ => runK Tryz.prog call dem N f29c10 f29a10 K e σ) f29a8 J) e σ := runK_seq' (by kernel_rfl) (by kernel_rfl) (by kernel_rfl)
theorem f29x9_f29e3 {R : Type} (call : Bool → CallF R) (dem : Bool) (N : Nat) (y0 : Option (Nat × Nat)) (y1 : Nat) (y2 : Nat) (y3 : Nat) (y4 : Nat) (y5 : Option (Nat × Nat)) (y6 : Nat) (y7 : Option Nat) (y8 : Int) (y9 : Int) (y10 : Bool) (J : KF R) (σ : St) : runK Tryz.prog call dem N f29c9 f29a9 J (f29e3 y0 y1 y2 y3 y4 y5 y6 y7 y8 y9 y10) σ = if y10 = true then runK Tryz.prog call dem N f29c11 f29a11 (condC f29a9 J) (f29e3 y0 y1 y2 y3 y4 y5 y6 y7 y8 y9 y10) σ else runK Tryz.prog call dem N f29c12 f29a12 (condC f29a9 J) (f29e3 y0 y1 y2 y3 y4 y5 y6 y7 y8 y9 y10) σ := runK_cond' (o := Operand.tmp (14 : Nat)) (by kernel_rfl) (by kernel_rfl) (by kernel_rfl) (by kernel_rfl)
theorem f29n11 {R : Type} (call : Bool → CallF R) (dem : Bool) (N : Nat) (J : KF R) (e : Env) (σ : St) : runK Tryz.prog call dem N f29c11 f29a11 J e σ = J .normal e σ := runK_skip' (by kernel_rfl)
theorem f29z9_f29e3 (y0 : Option (Nat × Nat)) (y1 : Nat) (y2 : Nat) (y3 : Nat) (y4 : Nat) (y5 : Option (Nat × Nat)) (y6 : Nat) (y7 : Option Nat) (y8 : Int) (y9 : Int) (y10 : Bool) : Ann.clr f29a9 (f29e3 y0 y1 y2 y3 y4 y5 y6 y7 y8 y9 y10) = f29e2 y0 y1 y2 y3 y4 y5 y6 y7 y8 y9 := hide (by kernel_rfl)
theorem f29y12_f29e3 {R : Type} (call : Bool → CallF R) (dem : Bool) (N : Nat) (y0 : Option (Nat × Nat)) (y1 : Nat) (y2 : Nat) (y3 : Nat) (y4 : Nat) (y5 : Option (Nat × Nat)) (y6 : Nat) (y7 : Option Nat) (y8 : Int) (y9 : Int) (y10 : Bool) (J : KF R) (σ : St) : runK Tryz.prog call dem N f29c12 f29a12 J (f29e3 y0 y1 y2 y3 y4 y5 y6 y7 y8 y9 y10) σ = J (.exit 0) (f29e4 y0 y3 y4) σ := runK_exit' (by kernel_rfl) (by kernel_rfl)
theorem f29z8_f29e2 (y0 : Option (Nat × Nat)) (y1 : Nat) (y2 : Nat) (y3 : Nat) (y4 : Nat) (y5 : Option (Nat × Nat)) (y6 : Nat) (y7 : Option Nat) (y8 : Int) (y9 : Int) : Ann.clr f29a8 (f29e2 y0 y1 y2 y3 y4 y5 y6 y7 y8 y9) = f29e2 y0 y1 y2 y3 y4 y5 y6 y7 y8 y9 := hide (by kernel_rfl)
theorem f29n10 {R : Type} (call : Bool → CallF R) (dem : Bool) (N : Nat) (J : KF R) (e : Env) (σ : St) : runK Tryz.prog call dem N f29c10 f29a10 J e σ = runK Tryz.prog call dem N f29c13 f29a13 (seqC (fun K e σ => runK Tryz.prog call dem N f29c14 f29a14 K e σ) f29a10 J) e σ := runK_seq' (by kernel_rfl) (by kernel_rfl) (by kernel_rfl)
theorem f29n13 {R : Type} (call : Bool → CallF R) (dem : Bool) (N : Nat) (J : KF R) (e : Env) (σ : St) : runK Tryz.prog call dem N f29c13 f29a13 J e σ = runK Tryz.prog call dem N f29c15 f29a15 (blockC 1 f29a13 J) e σ := runK_block' (by kernel_rfl) (by kernel_rfl)
theorem f29n15 {R : Type} (call : Bool → CallF R) (dem : Bool) (N : Nat) (J : KF R) (e : Env) (σ : St) : runK Tryz.prog call dem N f29c15 f29a15 J e σ = runK Tryz.prog call dem N f29c16 f29a16 (seqC (fun K e σ => runK Tryz.prog call dem N f29c17 f29a17 K e σ) f29a15 J) e σ := runK_seq' (by kernel_rfl) (by kernel_rfl) (by kernel_rfl)
theorem f29r16_f29e2 {R : Type} (call : Bool → CallF R) (dem : Bool) (N : Nat) (y0 : Option (Nat × Nat)) (y1 : Nat) (y2 : Nat) (y3 : Nat) (y4 : Nat) (y5 : Option (Nat × Nat)) (y6 : Nat) (y7 : Option Nat) (y8 : Int) (y9 : Int) (J : KF R) (σ : St) :
    runK Tryz.prog call dem N f29c16 f29a16 J (f29e2 y0 y1 y2 y3 y4 y5 y6 y7 y8 y9) σ =
if (0 : Int) ≤ y9 ∧ y9 < (↑y6 : Int) then
  Option.bind y5 fun v0 =>
    Option.bind (St.ld σ (Prod.fst v0) (Prod.snd v0 + Int.toNat y9 * (1 : Nat))) fun v1 =>
      Option.bind (AV.toPtr v1) fun v2 =>
        J Ex.normal (f29e5 y0 y1 y2 y3 y4 y9 v2 y5 y6 y7 y8 y9 y9 (some (Prod.fst v0, Prod.snd v0 + Int.toNat y9 * (1 : Nat))) v2) σ
else none := hide (by kernel_rfl)
theorem f29z15_f29e5 (y0 : Option (Nat × Nat)) (y1 : Nat) (y2 : Nat) (y3 : Nat) (y4 : Nat) (y5 : Int) (y6 : Option (Nat × Nat)) (y7 : Option (Nat × Nat)) (y8 : Nat) (y9 : Option Nat) (y10 : Int) (y11 : Int) (y12 : Int) (y13 : Option (Nat × Nat)) (y14 : Option (Nat × Nat)) : Ann.clr f29a15 (f29e5 y0 y1 y2 y3 y4 y5 y6 y7 y8 y9 y10 y11 y12 y13 y14) = f29e6 y0 y1 y2 y3 y4 y5 y6 y7 y8 y9 y10 y11 := hide (by kernel_rfl)
theorem f29r17_f29e6 {R : Type} (call : Bool → CallF R) (dem : Bool) (N : Nat) (y0 : Option (Nat × Nat)) (y1 : Nat) (y2 : Nat) (y3 : Nat) (y4 : Nat) (y5 : Int) (y6 : Option (Nat × Nat)) (y7 : Option (Nat × Nat)) (y8 : Nat) (y9 : Option Nat) (y10 : Int) (y11 : Int) (J : KF R) (σ : St) :
    runK Tryz.prog call dem N f29c17 f29a17 J (f29e6 y0 y1 y2 y3 y4 y5 y6 y7 y8 y9 y10 y11) σ =
call dem y1 [AV.int IntKind.i64 y5, AV.ptr y6, AV.ptr (some (y2, (0 : Nat)))] σ fun v0 v1 =>
  Option.bind (AV.toTuple v0) fun v2 =>
    if List.length v2 = (0 : Nat) then J Ex.normal (f29e7 y0 y1 y2 y3 y4 y5 y6 y7 y8 y9 y10 y11 y1 y2 y5 y6) v1 else none := hide (by kernel_rfl)
theorem f29z13_f29e7 (y0 : Option (Nat × Nat)) (y1 : Nat) (y2 : Nat) (y3 : Nat) (y4 : Nat) (y5 : Int) (y6 : Option (Nat × Nat)) (y7 : Option (Nat × Nat)) (y8 : Nat) (y9 : Option Nat) (y10 : Int) (y11 : Int) (y12 : Nat) (y13 : Nat) (y14 : Int) (y15 : Option (Nat × Nat)) : Ann.clr f29a13 (f29e7 y0 y1 y2 y3 y4 y5 y6 y7 y8 y9 y10 y11 y12 y13 y14 y15) = f29e2 y0 y1 y2 y3 y4 y7 y8 y9 y10 y11 := hide (by kernel_rfl)
theorem f29z10_f29e2 (y0 : Option (Nat × Nat)) (y1 : Nat) (y2 : Nat) (y3 : Nat) (y4 : Nat) (y5 : Option (Nat × Nat)) (y6 : Nat) (y7 : Option Nat) (y8 : Int) (y9 : Int) : Ann.clr f29a10 (f29e2 y0 y1 y2 y3 y4 y5 y6 y7 y8 y9) = f29e2 y0 y1 y2 y3 y4 y5 y6 y7 y8 y9 := hide (by kernel_rfl)
theorem f29r14_f29e2 {R : Type} (call : Bool → CallF R) (dem : Bool) (N : Nat) (y0 : Option (Nat × Nat)) (y1 : Nat) (y2 : Nat) (y3 : Nat) (y4 : Nat) (y5 : Option (Nat × Nat)) (y6 : Nat) (y7 : Option Nat) (y8 : Int) (y9 : Int) (J : KF R) (σ : St) :
    runK Tryz.prog call dem N f29c14 f29a14 J (f29e2 y0 y1 y2 y3 y4 y5 y6 y7 y8 y9) σ =
J Ex.normal (f29e8 y0 y1 y2 y3 y4 y5 y6 y7 y8 (IntKind.wrap IntKind.i64 (y9 + (1 : Int))) (IntKind.wrap IntKind.i64 (y9 + (1 : Int)))) σ := hide (by kernel_rfl)
theorem f29z5_f29e8 (y0 : Option (Nat × Nat)) (y1 : Nat) (y2 : Nat) (y3 : Nat) (y4 : Nat) (y5 : Option (Nat × Nat)) (y6 : Nat) (y7 : Option Nat) (y8 : Int) (y9 : Int) (y10 : Int) : Ann.clr f29a5 (f29e8 y0 y1 y2 y3 y4 y5 y6 y7 y8 y9 y10) = f29e2 y0 y1 y2 y3 y4 y5 y6 y7 y8 y9 := hide (by kernel_rfl)
theorem f29z4_f29e4 (y0 : Option (Nat × Nat)) (y1 : Nat) (y2 : Nat) : Ann.clr f29a4 (f29e4 y0 y1 y2) = f29e4 y0 y1 y2 := hide (by kernel_rfl)
theorem f29z0_f29e4 (y0 : Option (Nat × Nat)) (y1 : Nat) (y2 : Nat) : Ann.clr f29a0 (f29e4 y0 y1 y2) = f29e4 y0 y1 y2 := hide (by kernel_rfl)
theorem f29n2 {R : Type} (call : Bool → CallF R) (dem : Bool) (N : Nat) (J : KF R) (e : Env) (σ : St) : runK Tryz.prog call dem N f29c2 f29a2 J e σ = runK Tryz.prog call dem N f29c18 f29a18 (seqC (fun K e σ => runK Tryz.prog call dem N f29c19 f29a19 K e σ) f29a2 J) e σ := runK_seq' (by kernel_rfl) (by kernel_rfl) (by kernel_rfl)
theorem f29r18_f29e4 {R : Type} (call : Bool → CallF R) (dem : Bool) (N : Nat) (y0 : Option (Nat × Nat)) (y1 : Nat) (y2 : Nat) (J : KF R) (σ : St) :
    runK Tryz.prog call dem N f29c18 f29a18 J (f29e4 y0 y1 y2) σ =
call dem (64 : Nat) [AV.ptr y0] σ fun v0 v1 =>
  Option.bind (AV.toSl (1 : Nat) v0) fun v2 => J Ex.normal (f29e9 y0 y1 y2 y0 (Sl.o v2) (Sl.len v2) (Sl.cap v2) (↑(Sl.len v2) : Int) (0 : Int)) v1 := hide (by kernel_rfl)
theorem f29z2_f29e9 (y0 : Option (Nat × Nat)) (y1 : Nat) (y2 : Nat) (y3 : Option (Nat × Nat)) (y4 : Option (Nat × Nat)) (y5 : Nat) (y6 : Option Nat) (y7 : Int) (y8 : Int) : Ann.clr f29a2 (f29e9 y0 y1 y2 y3 y4 y5 y6 y7 y8) = f29e10 y1 y2 y4 y5 y6 y7 y8 := hide (by kernel_rfl)
theorem f29n19 {R : Type} (call : Bool → CallF R) (dem : Bool) (N : Nat) (J : KF R) (e : Env) (σ : St) : runK Tryz.prog call dem N f29c19 f29a19 J e σ = runK Tryz.prog call dem N f29c20 f29a20 (blockC 2 f29a19 J) e σ := runK_block' (by kernel_rfl) (by kernel_rfl)
theorem f29L20_eq {R : Type} (call : Bool → CallF R) (dem : Bool) (N : Nat) (J : KF R) (e : Env) (σ : St) : f29L20 call dem N J e σ = runK Tryz.prog call dem N f29c21 f29a21 J e σ := hide rfl
theorem f29z20_f29e10 (y0 : Nat) (y1 : Nat) (y2 : Option (Nat × Nat)) (y3 : Nat) (y4 : Option Nat) (y5 : Int) (y6 : Int) : Ann.clr f29a20 (f29e10 y0 y1 y2 y3 y4 y5 y6) = f29e10 y0 y1 y2 y3 y4 y5 y6 := hide (by kernel_rfl)
theorem f29l20_f29e10 {R : Type} (call : Bool → CallF R) (dem : Bool) (N : Nat) (y0 : Nat) (y1 : Nat) (y2 : Option (Nat × Nat)) (y3 : Nat) (y4 : Option Nat) (y5 : Int) (y6 : Int) (J : KF R) (σ : St) : runK Tryz.prog call dem N f29c20 f29a20 J (f29e10 y0 y1 y2 y3 y4 y5 y6) σ = loopK (f29L20 call dem N) f29a20 N J (f29e10 y0 y1 y2 y3 y4 y5 y6) σ := runK_loop' (by kernel_rfl) (by kernel_rfl) (by kernel_rfl)
theorem f29n21 {R : Type} (call : Bool → CallF R) (dem : Bool) (N : Nat) (J : KF R) (e : Env) (σ : St) : runK Tryz.prog call dem N f29c21 f29a21 J e σ = runK Tryz.prog call dem N f29c22 f29a22 (seqC (fun K e σ => runK Tryz.prog call dem N f29c23 f29a23 K e σ) f29a21 J) e σ := runK_seq' (by kernel_rfl) (by kernel_rfl) (by kernel_rfl)
theorem f29r22_f29e10 {R : Type} (call : Bool → CallF R) (dem : Bool) (N : Nat) (y0 : Nat) (y1 : Nat) (y2 : Option (Nat × Nat)) (y3 : Nat) (y4 : Option Nat) (y5 : Int) (y6 : Int) (J : KF R) (σ : St) :
    runK Tryz.prog call dem N f29c22 f29a22 J (f29e10 y0 y1 y2 y3 y4 y5 y6) σ =
J Ex.normal (f29e11 y0 y1 y2 y3 y4 y5 y6 (decide (y6 < y5))) σ := hide (by kernel_rfl)
theorem f29z21_f29e11 (y0 : Nat) (y1 : Nat) (y2 : Option (Nat × Nat)) (y3 : Nat) (y4 : Option Nat) (y5 : Int) (y6 : Int) (y7 : Bool) : Ann.clr f29a21 (f29e11 y0 y1 y2 y3 y4 y5 y6 y7) = f29e11 y0 y1 y2 y3 y4 y5 y6 y7 := hide (by kernel_rfl)
theorem f29n23 {R : Type} (call : Bool → CallF R) (dem : Bool) (N : Nat) (J : KF R) (e : Env) (σ : St) : runK Tryz.prog call dem N f29c23 f29a23 J e σ = runK Tryz.prog call dem N f29c24 f29a24 (seqC (fun K e σ => runK Tryz.prog call dem N f29c25 f29a25 K e σ) f29a23 J) e σ := runK_seq' (by kernel_rfl) (by kernel_rfl) (by kernel_rfl)
theorem f29x24_f29e11 {R : Type} (call : Bool → CallF R) (dem : Bool) (N : Nat) (y0 : Nat) (y1 : Nat) (y2 : Option (Nat × Nat)) (y3 : Nat) (y4 : Option Nat) (y5 : Int) (y6 : Int) (y7 : Bool) (J : KF R) (σ : St) : runK Tryz.prog call dem N f29c24 f29a24 J (f29e11 y0 y1 y2 y3 y4 y5 y6 y7) σ = if y7 = true then runK Tryz.prog call dem N f29c26 f29a26 (condC f29a24 J) (f29e11 y0 y1 y2 y3 y4 y5 y6 y7) σ else runK Tryz.prog call dem N f29c27 f29a27 (condC f29a24 J) (f29e11 y0 y1 y2 y3 y4 y5 y6 y7) σ := runK_cond' (o := Operand.tmp (27 : Nat)) (by kernel_rfl) (by kernel_rfl) (by kernel_rfl) (by kernel_rfl)
theorem f29n26 {R : Type} (call : Bool → CallF R) (dem : Bool) (N : Nat) (J : KF R) (e : Env) (σ : St) : runK Tryz.prog call dem N f29c26 f29a26 J e σ = J .normal e σ := runK_skip' (by kernel_rfl)
theorem f29z24_f29e11 (y0 : Nat) (y1 : Nat) (y2 : Option (Nat × Nat)) (y3 : Nat) (y4 : Option Nat) (y5 : Int) (y6 : Int) (y7 : Bool) : Ann.clr f29a24 (f29e11 y0 y1 y2 y3 y4 y5 y6 y7) = f29e10 y0 y1 y2 y3 y4 y5 y6 := hide (by kernel_rfl)
theorem f29y27_f29e11 {R : Type} (call : Bool → CallF R) (dem : Bool) (N : Nat) (y0 : Nat) (y1 : Nat) (y2 : Option (Nat × Nat)) (y3 : Nat) (y4 : Option Nat) (y5 : Int) (y6 : Int) (y7 : Bool) (J : KF R) (σ : St) : runK Tryz.prog call dem N f29c27 f29a27 J (f29e11 y0 y1 y2 y3 y4 y5 y6 y7) σ = J (.exit 2) (f29e12) σ := runK_exit' (by kernel_rfl) (by kernel_rfl)
theorem f29z23_f29e10 (y0 : Nat) (y1 : Nat) (y2 : Option (Nat × Nat)) (y3 : Nat) (y4 : Option Nat) (y5 : Int) (y6 : Int) : Ann.clr f29a23 (f29e10 y0 y1 y2 y3 y4 y5 y6) = f29e10 y0 y1 y2 y3 y4 y5 y6 := hide (by kernel_rfl)
theorem f29n25 {R : Type} (call : Bool → CallF R) (dem : Bool) (N : Nat) (J : KF R) (e : Env) (σ : St) : runK Tryz.prog call dem N f29c25 f29a25 J e σ = runK Tryz.prog call dem N f29c28 f29a28 (seqC (fun K e σ => runK Tryz.prog call dem N f29c29 f29a29 K e σ) f29a25 J) e σ := runK_seq' (by kernel_rfl) (by kernel_rfl) (by kernel_rfl)
theorem f29n28 {R : Type} (call : Bool → CallF R) (dem : Bool) (N : Nat) (J : KF R) (e : Env) (σ : St) : runK Tryz.prog call dem N f29c28 f29a28 J e σ = runK Tryz.prog call dem N f29c30 f29a30 (blockC 3 f29a28 J) e σ := runK_block' (by kernel_rfl) (by kernel_rfl)
theorem f29n30 {R : Type} (call : Bool → CallF R) (dem : Bool) (N : Nat) (J : KF R) (e : Env) (σ : St) : runK Tryz.prog call dem N f29c30 f29a30 J e σ = runK Tryz.prog call dem N f29c31 f29a31 (seqC (fun K e σ => runK Tryz.prog call dem N f29c32 f29a32 K e σ) f29a30 J) e σ := runK_seq' (by kernel_rfl) (by kernel_rfl) (by kernel_rfl)
theorem f29r31_f29e10 {R : Type} (call : Bool → CallF R) (dem : Bool) (N : Nat) (y0 : Nat) (y1 : Nat) (y2 : Option (Nat × Nat)) (y3 : Nat) (y4 : Option Nat) (y5 : Int) (y6 : Int) (J : KF R) (σ : St) :
    runK Tryz.prog call dem N f29c31 f29a31 J (f29e10 y0 y1 y2 y3 y4 y5 y6) σ =
if (0 : Int) ≤ y6 ∧ y6 < (↑y3 : Int) then
  Option.bind y2 fun v0 =>
    Option.bind (St.ld σ (Prod.fst v0) (Prod.snd v0 + Int.toNat y6 * (1 : Nat))) fun v1 =>
      Option.bind (AV.toPtr v1) fun v2 =>
        J Ex.normal (f29e13 y0 y1 y6 v2 y2 y3 y4 y5 y6 y6 (some (Prod.fst v0, Prod.snd v0 + Int.toNat y6 * (1 : Nat))) v2) σ
else none := hide (by kernel_rfl)
theorem f29z30_f29e13 (y0 : Nat) (y1 : Nat) (y2 : Int) (y3 : Option (Nat × Nat)) (y4 : Option (Nat × Nat)) (y5 : Nat) (y6 : Option Nat) (y7 : Int) (y8 : Int) (y9 : Int) (y10 : Option (Nat × Nat)) (y11 : Option (Nat × Nat)) : Ann.clr f29a30 (f29e13 y0 y1 y2 y3 y4 y5 y6 y7 y8 y9 y10 y11) = f29e14 y0 y1 y2 y3 y4 y5 y6 y7 y8 := hide (by kernel_rfl)
theorem f29r32_f29e14 {R : Type} (call : Bool → CallF R) (dem : Bool) (N : Nat) (y0 : Nat) (y1 : Nat) (y2 : Int) (y3 : Option (Nat × Nat)) (y4 : Option (Nat × Nat)) (y5 : Nat) (y6 : Option Nat) (y7 : Int) (y8 : Int) (J : KF R) (σ : St) :
    runK Tryz.prog call dem N f29c32 f29a32 J (f29e14 y0 y1 y2 y3 y4 y5 y6 y7 y8) σ =
call dem y0 [AV.int IntKind.i64 (IntKind.wrap IntKind.i64 ((8 : Int) + y2)), AV.ptr y3, AV.ptr (some (y1, (0 : Nat)))] σ fun v0 v1 =>
  Option.bind (AV.toTuple v0) fun v2 =>
    if List.length v2 = (0 : Nat) then J Ex.normal (f29e15 y0 y1 y2 y3 y4 y5 y6 y7 y8 y0 y1 y2 (IntKind.wrap IntKind.i64 ((8 : Int) + y2)) y3) v1
    else none := hide (by kernel_rfl)
theorem f29z28_f29e15 (y0 : Nat) (y1 : Nat) (y2 : Int) (y3 : Option (Nat × Nat)) (y4 : Option (Nat × Nat)) (y5 : Nat) (y6 : Option Nat) (y7 : Int) (y8 : Int) (y9 : Nat) (y10 : Nat) (y11 : Int) (y12 : Int) (y13 : Option (Nat × Nat)) : Ann.clr f29a28 (f29e15 y0 y1 y2 y3 y4 y5 y6 y7 y8 y9 y10 y11 y12 y13) = f29e10 y0 y1 y4 y5 y6 y7 y8 := hide (by kernel_rfl)
theorem f29z25_f29e10 (y0 : Nat) (y1 : Nat) (y2 : Option (Nat × Nat)) (y3 : Nat) (y4 : Option Nat) (y5 : Int) (y6 : Int) : Ann.clr f29a25 (f29e10 y0 y1 y2 y3 y4 y5 y6) = f29e10 y0 y1 y2 y3 y4 y5 y6 := hide (by kernel_rfl)
theorem f29r29_f29e10 {R : Type} (call : Bool → CallF R) (dem : Bool) (N : Nat) (y0 : Nat) (y1 : Nat) (y2 : Option (Nat × Nat)) (y3 : Nat) (y4 : Option Nat) (y5 : Int) (y6 : Int) (J : KF R) (σ : St) :
    runK Tryz.prog call dem N f29c29 f29a29 J (f29e10 y0 y1 y2 y3 y4 y5 y6) σ =
J Ex.normal (f29e16 y0 y1 y2 y3 y4 y5 (IntKind.wrap IntKind.i64 (y6 + (1 : Int))) (IntKind.wrap IntKind.i64 (y6 + (1 : Int)))) σ := hide (by kernel_rfl)
theorem f29z20_f29e16 (y0 : Nat) (y1 : Nat) (y2 : Option (Nat × Nat)) (y3 : Nat) (y4 : Option Nat) (y5 : Int) (y6 : Int) (y7 : Int) : Ann.clr f29a20 (f29e16 y0 y1 y2 y3 y4 y5 y6 y7) = f29e10 y0 y1 y2 y3 y4 y5 y6 := hide (by kernel_rfl)
theorem f29z19_f29e12 : Ann.clr f29a19 (f29e12) = f29e12 := hide (by kernel_rfl)
theorem f29b_f29e12_n {R : Type} (σ : St) (K : AV → St → Option R) : bodyC Tryz.prog f29rs K (Ex.normal) (f29e12) σ =
K (AV.tuple []) σ := hide (by kernel_rfl)
attribute [go_sem] f29_eq f29n0 f29n1 f29r3_f29e0 f29z1_f29e1 f29n4 f29L5_eq f29z5_f29e2 f29l5_f29e2 f29n6 f29r7_f29e2 f29z6_f29e3 f29n8 f29x9_f29e3 f29n11 f29z9_f29e3 f29y12_f29e3 f29z8_f29e2 f29n10 f29n13 f29n15 f29r16_f29e2 f29z15_f29e5 f29r17_f29e6 f29z13_f29e7 f29z10_f29e2 f29r14_f29e2 f29z5_f29e8 f29z4_f29e4 f29z0_f29e4 f29n2 f29r18_f29e4 f29z2_f29e9 f29n19 f29L20_eq f29z20_f29e10 f29l20_f29e10 f29n21 f29r22_f29e10 f29z21_f29e11 f29n23 f29x24_f29e11 f29n26 f29z24_f29e11 f29y27_f29e11 f29z23_f29e10 f29n25 f29n28 f29n30 f29r31_f29e10 f29z30_f29e13 f29r32_f29e14 f29z28_f29e15 f29z25_f29e10 f29r29_f29e10 f29z20_f29e16 f29z19_f29e12 f29b_f29e12_n

noncomputable def f30rs : List ResultVar := []
noncomputable def f30c0 : Code := subCode [] (bodyOf Tryz.prog 30)
def f30a0 : Ann := subAnn [] ann30
def f30e0 (y0 : Int) (y1 : Option (Nat × Nat)) (y2 : Nat) : Env := AV.int IntKind.i64 y0 :: AV.ptr y1 :: AV.ptr (some (y2, (0 : Nat))) :: Env.sp 13 []
def f30e1 (y0 : Int) (y1 : Option (Nat × Nat)) (y2 : Nat) (y3 : AV) (y4 : Int) (y5 : Option (Nat × Nat)) (y6 : Option (Nat × Nat)) (y7 : Int) (y8 : ByteArray) (y9 : Option (Nat × Nat)) (y10 : Option (Nat × Nat)) (y11 : Int) (y12 : Bool) : Env := AV.int IntKind.i64 y0 :: AV.ptr y1 :: AV.ptr (some (y2, (0 : Nat))) :: Env.sp 2 (y3 :: AV.int IntKind.i64 y4 :: AV.ptr y5 :: AV.ptr y6 :: AV.int IntKind.i64 y7 :: AV.str y8 :: AV.ptr y9 :: AV.ptr y10 :: AV.int IntKind.i64 y11 :: AV.bool y12 :: AV.tuple [] :: [])

/- function 30 -/
theorem f30_eq {R : Type} (call : Bool → CallF R) (dem : Bool) (N : Nat) (y0 : Int) (y1 : Option (Nat × Nat)) (y2 : Nat) (σ : St) (K : AV → St → Option R) :
    bodyK Tryz.prog call dem N ann 30 [AV.int IntKind.i64 y0, AV.ptr y1, AV.ptr (some (y2, (0 : Nat)))] σ K = runK Tryz.prog call dem N f30c0 f30a0 (bodyC Tryz.prog f30rs K) (f30e0 y0 y1 y2) σ := bodyK_of (fn := ((Tryz.prog.funcs[30]?).get rfl)) (by kernel_rfl) (by kernel_rfl) (by kernel_rfl) (by kernel_rfl) (by kernel_rfl) (by kernel_rfl)
theorem f30r0_f30e0 {R : Type} (call : Bool → CallF R) (dem : Bool) (N : Nat) (y0 : Int) (y1 : Option (Nat × Nat)) (y2 : Nat) (J : KF R) (σ : St) :
    runK Tryz.prog call dem N f30c0 f30a0 J (f30e0 y0 y1 y2) σ =
Option.bind (St.ld σ y2 (0 : Nat)) fun v0 =>
  if AV.one v0 = true then
    Option.bind y1 fun v1 =>
      Option.bind (St.ld σ (Prod.fst v1) (Prod.snd v1)) fun v2 =>
        Option.bind (AV.toInt IntKind.i64 v2) fun v3 =>
          call false (27 : Nat) [AV.int IntKind.i64 v3] σ fun v4 v5 =>
            Option.bind (AV.toStr v4) fun v6 =>
              if St.same v5 y2 (0 : Nat) (AV.cells v0) = true then
                Option.bind y1 fun v7 =>
                  Option.bind (St.ld v5 (Prod.fst v7) (Prod.snd v7)) fun v8 =>
                    Option.bind (AV.toInt IntKind.i64 v8) fun v9 =>
                      if St.same σ (Prod.fst v7) (Prod.snd v7) [AV.int IntKind.i64 v9] = true then
                        match v0 with
                        | AV.func (Fn.func v10) v11 v12 =>
                          call false v10 (v11 ++ [AV.int IntKind.i64 y0, AV.str v6, AV.bool (v9 == (0 : Int))] ++ v12) v5 fun v13 v14 =>
                            Option.bind (AV.toTuple v13) fun v15 =>
                              if List.length v15 = (0 : Nat) then
                                J Ex.normal (f30e1 y0 y1 y2 v0 y0 y1 (some v1) v3 v6 y1 (some v7) v9 (v9 == (0 : Int))) v14
                              else none
                        | v10 => none
                      else none
              else none
  else none := hide (by kernel_rfl)
theorem f30b_f30e1_n {R : Type} (y0 : Int) (y1 : Option (Nat × Nat)) (y2 : Nat) (y3 : AV) (y4 : Int) (y5 : Option (Nat × Nat)) (y6 : Option (Nat × Nat)) (y7 : Int) (y8 : ByteArray) (y9 : Option (Nat × Nat)) (y10 : Option (Nat × Nat)) (y11 : Int) (y12 : Bool) (σ : St) (K : AV → St → Option R) : bodyC Tryz.prog f30rs K (Ex.normal) (f30e1 y0 y1 y2 y3 y4 y5 y6 y7 y8 y9 y10 y11 y12) σ =
K (AV.tuple []) σ := hide (by kernel_rfl)
attribute [go_sem] f30_eq f30r0_f30e0 f30b_f30e1_n

noncomputable def f31rs : List ResultVar := []
noncomputable def f31c0 : Code := subCode [] (bodyOf Tryz.prog 31)
def f31a0 : Ann := subAnn [] ann31
def f31e0 (y0 : Int) (y1 : Option (Nat × Nat)) (y2 : Nat) : Env := AV.int IntKind.i64 y0 :: AV.ptr y1 :: AV.ptr (some (y2, (0 : Nat))) :: Env.sp 12 []
def f31e1 (y0 : Int) (y1 : Option (Nat × Nat)) (y2 : Nat) (y3 : AV) (y4 : Int) (y5 : Option (Nat × Nat)) (y6 : Option (Nat × Nat)) (y7 : ByteArray) (y8 : Option (Nat × Nat)) (y9 : Option (Nat × Nat)) (y10 : ByteArray) (y11 : Bool) : Env := AV.int IntKind.i64 y0 :: AV.ptr y1 :: AV.ptr (some (y2, (0 : Nat))) :: Env.sp 2 (y3 :: AV.int IntKind.i64 y4 :: AV.ptr y5 :: AV.ptr y6 :: AV.str y7 :: AV.ptr y8 :: AV.ptr y9 :: AV.str y10 :: AV.bool y11 :: AV.tuple [] :: [])

/- function 31 -/
theorem f31_eq {R : Type} (call : Bool → CallF R) (dem : Bool) (N : Nat) (y0 : Int) (y1 : Option (Nat × Nat)) (y2 : Nat) (σ : St) (K : AV → St → Option R) :
    bodyK Tryz.prog call dem N ann 31 [AV.int IntKind.i64 y0, AV.ptr y1, AV.ptr (some (y2, (0 : Nat)))] σ K = runK Tryz.prog call dem N f31c0 f31a0 (bodyC Tryz.prog f31rs K) (f31e0 y0 y1 y2) σ := bodyK_of (fn := ((Tryz.prog.funcs[31]?).get rfl)) (by kernel_rfl) (by kernel_rfl) (by kernel_rfl) (by kernel_rfl) (by kernel_rfl) (by kernel_rfl)
theorem f31r0_f31e0 {R : Type} (call : Bool → CallF R) (dem : Bool) (N : Nat) (y0 : Int) (y1 : Option (Nat × Nat)) (y2 : Nat) (J : KF R) (σ : St) :
    runK Tryz.prog call dem N f31c0 f31a0 J (f31e0 y0 y1 y2) σ =
Option.bind (St.ld σ y2 (0 : Nat)) fun v0 =>
  if AV.one v0 = true then
    Option.bind y1 fun v1 =>
      Option.bind (St.ld σ (Prod.fst v1) (Prod.snd v1)) fun v2 =>
        Option.bind (AV.toStr v2) fun v3 =>
          Option.bind y1 fun v4 =>
            Option.bind (St.ld σ (Prod.fst v4) (Prod.snd v4)) fun v5 =>
              Option.bind (AV.toStr v5) fun v6 =>
                match v0 with
                | AV.func (Fn.func v7) v8 v9 =>
                  call false v7 (v8 ++ [AV.int IntKind.i64 y0, AV.str v3, AV.bool (decide (v6 = ByteArray.mk #[]))] ++ v9) σ fun v10 v11 =>
                    Option.bind (AV.toTuple v10) fun v12 =>
                      if List.length v12 = (0 : Nat) then
                        J Ex.normal (f31e1 y0 y1 y2 v0 y0 y1 (some v1) v3 y1 (some v4) v6 (decide (v6 = ByteArray.mk #[]))) v11
                      else none
                | v7 => none
  else none := hide (by kernel_rfl)
theorem f31b_f31e1_n {R : Type} (y0 : Int) (y1 : Option (Nat × Nat)) (y2 : Nat) (y3 : AV) (y4 : Int) (y5 : Option (Nat × Nat)) (y6 : Option (Nat × Nat)) (y7 : ByteArray) (y8 : Option (Nat × Nat)) (y9 : Option (Nat × Nat)) (y10 : ByteArray) (y11 : Bool) (σ : St) (K : AV → St → Option R) : bodyC Tryz.prog f31rs K (Ex.normal) (f31e1 y0 y1 y2 y3 y4 y5 y6 y7 y8 y9 y10 y11) σ =
K (AV.tuple []) σ := hide (by kernel_rfl)
attribute [go_sem] f31_eq f31r0_f31e0 f31b_f31e1_n

noncomputable def f63rs : List ResultVar := [ResultVar.tmp (2 : Nat)]
noncomputable def f63c0 : Code := subCode [] (bodyOf Tryz.prog 63)
def f63a0 : Ann := subAnn [] ann63
noncomputable def f63c1 : Code := subCode [0] (bodyOf Tryz.prog 63)
def f63a1 : Ann := subAnn [0] ann63
noncomputable def f63c2 : Code := subCode [1] (bodyOf Tryz.prog 63)
def f63a2 : Ann := subAnn [1] ann63
noncomputable def f63c3 : Code := subCode [1, 0] (bodyOf Tryz.prog 63)
def f63a3 : Ann := subAnn [1, 0] ann63
noncomputable def f63c4 : Code := subCode [1, 1] (bodyOf Tryz.prog 63)
def f63a4 : Ann := subAnn [1, 1] ann63
def f63e0 (y0 : Option (Nat × Nat)) : Env := AV.ptr y0 :: Env.sp 27 []
def f63e1 (y0 : Option (Nat × Nat)) (y1 : Option (Nat × Nat)) (y2 : Nat) (y3 : Option Nat) : Env := AV.ptr y0 :: Env.sp 1 (AV.slice y1 y2 y3 (1 : Nat) :: Env.sp 25 [])
def f63e2 (y0 : Option (Nat × Nat)) (y1 : Option (Nat × Nat)) (y2 : Nat) (y3 : Option Nat) (y4 : Option (Nat × Nat)) (y5 : Option (Nat × Nat)) (y6 : Option (Nat × Nat)) (y7 : Option (Nat × Nat)) (y8 : Option (Nat × Nat)) (y9 : Option (Nat × Nat)) (y10 : Option (Nat × Nat)) (y11 : Option (Nat × Nat)) (y12 : Option (Nat × Nat)) (y13 : Option (Nat × Nat)) (y14 : Option (Nat × Nat)) (y15 : Option (Nat × Nat)) (y16 : Option (Nat × Nat)) (y17 : Option (Nat × Nat)) (y18 : Option (Nat × Nat)) (y19 : Option (Nat × Nat)) (y20 : Option (Nat × Nat)) (y21 : Option (Nat × Nat)) (y22 : Option (Nat × Nat)) (y23 : Option (Nat × Nat)) (y24 : Option (Nat × Nat)) (y25 : Option (Nat × Nat)) (y26 : Option (Nat × Nat)) (y27 : Option (Nat × Nat)) (y28 : Option (Nat × Nat)) (y29 : Nat) (y30 : Option Nat) : Env := AV.ptr y0 :: Env.sp 1 (AV.slice y1 y2 y3 (1 : Nat) :: AV.ptr y4 :: AV.ptr y5 :: AV.ptr y6 :: AV.ptr y7 :: AV.ptr y8 :: AV.ptr y9 :: AV.ptr y10 :: AV.ptr y11 :: AV.ptr y12 :: AV.ptr y13 :: AV.ptr y14 :: AV.ptr y15 :: AV.ptr y16 :: AV.ptr y17 :: AV.ptr y18 :: AV.ptr y19 :: AV.ptr y20 :: AV.ptr y21 :: AV.ptr y22 :: AV.ptr y23 :: AV.ptr y24 :: AV.ptr y25 :: AV.ptr y26 :: AV.ptr y27 :: AV.slice y28 y29 y30 (1 : Nat) :: [])
def f63e3 (y0 : Option (Nat × Nat)) (y1 : Nat) (y2 : Option Nat) : Env := Env.sp 2 (AV.slice y0 y1 y2 (1 : Nat) :: Env.sp 25 [])

/- function 63 -/
theorem f63_eq {R : Type} (call : Bool → CallF R) (dem : Bool) (N : Nat) (y0 : Option (Nat × Nat)) (σ : St) (K : AV → St → Option R) :
    bodyK Tryz.prog call dem N ann 63 [AV.ptr y0] σ K = runK Tryz.prog call dem N f63c0 f63a0 (bodyC Tryz.prog f63rs K) (f63e0 y0) σ := bodyK_of (fn := ((Tryz.prog.funcs[63]?).get rfl)) (by kernel_rfl) (by kernel_rfl) (by kernel_rfl) (by kernel_rfl) (by kernel_rfl) (by kernel_rfl)
theorem f63n0 {R : Type} (call : Bool → CallF R) (dem : Bool) (N : Nat) (J : KF R) (e : Env) (σ : St) : runK Tryz.prog call dem N f63c0 f63a0 J e σ = runK Tryz.prog call dem N f63c1 f63a1 (seqC (fun K e σ => runK Tryz.prog call dem N f63c2 f63a2 K e σ) f63a0 J) e σ := runK_seq' (by kernel_rfl) (by kernel_rfl) (by kernel_rfl)
theorem f63r1_f63e0 {R : Type} (call : Bool → CallF R) (dem : Bool) (N : Nat) (y0 : Option (Nat × Nat)) (J : KF R) (σ : St) :
    runK Tryz.prog call dem N f63c1 f63a1 J (f63e0 y0) σ =
J Ex.normal (f63e1 y0 none (0 : Nat) (some (0 : Nat))) σ := hide (by kernel_rfl)
theorem f63z0_f63e1 (y0 : Option (Nat × Nat)) (y1 : Option (Nat × Nat)) (y2 : Nat) (y3 : Option Nat) : Ann.clr f63a0 (f63e1 y0 y1 y2 y3) = f63e0 y0 := hide (by kernel_rfl)
theorem f63n2 {R : Type} (call : Bool → CallF R) (dem : Bool) (N : Nat) (J : KF R) (e : Env) (σ : St) : runK Tryz.prog call dem N f63c2 f63a2 J e σ = runK Tryz.prog call dem N f63c3 f63a3 (seqC (fun K e σ => runK Tryz.prog call dem N f63c4 f63a4 K e σ) f63a2 J) e σ := runK_seq' (by kernel_rfl) (by kernel_rfl) (by kernel_rfl)
theorem f63r3_f63e0 {R : Type} (call : Bool → CallF R) (dem : Bool) (N : Nat) (y0 : Option (Nat × Nat)) (J : KF R) (σ : St) :
    runK Tryz.prog call dem N f63c3 f63a3 J (f63e0 y0) σ =
Option.bind y0 fun v0 =>
  Option.bind y0 fun v1 =>
    Option.bind y0 fun v2 =>
      Option.bind y0 fun v3 =>
        Option.bind y0 fun v4 =>
          Option.bind y0 fun v5 =>
            Option.bind y0 fun v6 =>
              Option.bind y0 fun v7 =>
                J Ex.normal
                  (f63e2 y0 (some (St.next σ, (0 : Nat))) (8 : Nat) (some (8 : Nat)) y0 (some v0) (some (Prod.fst v0, Prod.snd v0)) y0 (some v1)
                    (some (Prod.fst v1, Prod.snd v1 + (1 : Nat))) y0 (some v2) (some (Prod.fst v2, Prod.snd v2 + (2 : Nat))) y0 (some v3)
                    (some (Prod.fst v3, Prod.snd v3 + (3 : Nat))) y0 (some v4) (some (Prod.fst v4, Prod.snd v4 + (4 : Nat))) y0 (some v5)
                    (some (Prod.fst v5, Prod.snd v5 + (5 : Nat))) y0 (some v6) (some (Prod.fst v6, Prod.snd v6 + (6 : Nat))) y0 (some v7)
                    (some (Prod.fst v7, Prod.snd v7 + (7 : Nat))) (some (St.next σ, (0 : Nat))) (8 : Nat) (some (8 : Nat)))
                  (St.new σ
                    (Blk.cells
                      [AV.ptr (some (Prod.fst v0, Prod.snd v0)), AV.ptr (some (Prod.fst v1, Prod.snd v1 + (1 : Nat))),
                        AV.ptr (some (Prod.fst v2, Prod.snd v2 + (2 : Nat))), AV.ptr (some (Prod.fst v3, Prod.snd v3 + (3 : Nat))),
                        AV.ptr (some (Prod.fst v4, Prod.snd v4 + (4 : Nat))), AV.ptr (some (Prod.fst v5, Prod.snd v5 + (5 : Nat))),
                        AV.ptr (some (Prod.fst v6, Prod.snd v6 + (6 : Nat))), AV.ptr (some (Prod.fst v7, Prod.snd v7 + (7 : Nat)))]
                      true)) := hide (by kernel_rfl)
theorem f63z2_f63e2 (y0 : Option (Nat × Nat)) (y1 : Option (Nat × Nat)) (y2 : Nat) (y3 : Option Nat) (y4 : Option (Nat × Nat)) (y5 : Option (Nat × Nat)) (y6 : Option (Nat × Nat)) (y7 : Option (Nat × Nat)) (y8 : Option (Nat × Nat)) (y9 : Option (Nat × Nat)) (y10 : Option (Nat × Nat)) (y11 : Option (Nat × Nat)) (y12 : Option (Nat × Nat)) (y13 : Option (Nat × Nat)) (y14 : Option (Nat × Nat)) (y15 : Option (Nat × Nat)) (y16 : Option (Nat × Nat)) (y17 : Option (Nat × Nat)) (y18 : Option (Nat × Nat)) (y19 : Option (Nat × Nat)) (y20 : Option (Nat × Nat)) (y21 : Option (Nat × Nat)) (y22 : Option (Nat × Nat)) (y23 : Option (Nat × Nat)) (y24 : Option (Nat × Nat)) (y25 : Option (Nat × Nat)) (y26 : Option (Nat × Nat)) (y27 : Option (Nat × Nat)) (y28 : Option (Nat × Nat)) (y29 : Nat) (y30 : Option Nat) : Ann.clr f63a2 (f63e2 y0 y1 y2 y3 y4 y5 y6 y7 y8 y9 y10 y11 y12 y13 y14 y15 y16 y17 y18 y19 y20 y21 y22 y23 y24 y25 y26 y27 y28 y29 y30) = f63e3 y1 y2 y3 := hide (by kernel_rfl)
theorem f63y4_f63e3 {R : Type} (call : Bool → CallF R) (dem : Bool) (N : Nat) (y0 : Option (Nat × Nat)) (y1 : Nat) (y2 : Option Nat) (J : KF R) (σ : St) : runK Tryz.prog call dem N f63c4 f63a4 J (f63e3 y0 y1 y2) σ = J .ret (f63e3 y0 y1 y2) σ := runK_ret' (by kernel_rfl) (by kernel_rfl)
theorem f63b_f63e3_r {R : Type} (y0 : Option (Nat × Nat)) (y1 : Nat) (y2 : Option Nat) (σ : St) (K : AV → St → Option R) : bodyC Tryz.prog f63rs K (Ex.ret) (f63e3 y0 y1 y2) σ =
K (AV.slice y0 y1 y2 (1 : Nat)) σ := hide (by kernel_rfl)
attribute [go_sem] f63_eq f63n0 f63r1_f63e0 f63z0_f63e1 f63n2 f63r3_f63e0 f63z2_f63e2 f63y4_f63e3 f63b_f63e3_r

noncomputable def f64rs : List ResultVar := [ResultVar.tmp (2 : Nat)]
noncomputable def f64c0 : Code := subCode [] (bodyOf Tryz.prog 64)
def f64a0 : Ann := subAnn [] ann64
noncomputable def f64c1 : Code := subCode [0] (bodyOf Tryz.prog 64)
def f64a1 : Ann := subAnn [0] ann64
noncomputable def f64c2 : Code := subCode [1] (bodyOf Tryz.prog 64)
def f64a2 : Ann := subAnn [1] ann64
noncomputable def f64c3 : Code := subCode [1, 0] (bodyOf Tryz.prog 64)
def f64a3 : Ann := subAnn [1, 0] ann64
noncomputable def f64c4 : Code := subCode [1, 1] (bodyOf Tryz.prog 64)
def f64a4 : Ann := subAnn [1, 1] ann64
def f64e0 (y0 : Option (Nat × Nat)) : Env := AV.ptr y0 :: Env.sp 15 []
def f64e1 (y0 : Option (Nat × Nat)) (y1 : Option (Nat × Nat)) (y2 : Nat) (y3 : Option Nat) : Env := AV.ptr y0 :: Env.sp 1 (AV.slice y1 y2 y3 (1 : Nat) :: Env.sp 13 [])
def f64e2 (y0 : Option (Nat × Nat)) (y1 : Option (Nat × Nat)) (y2 : Nat) (y3 : Option Nat) (y4 : Option (Nat × Nat)) (y5 : Option (Nat × Nat)) (y6 : Option (Nat × Nat)) (y7 : Option (Nat × Nat)) (y8 : Option (Nat × Nat)) (y9 : Option (Nat × Nat)) (y10 : Option (Nat × Nat)) (y11 : Option (Nat × Nat)) (y12 : Option (Nat × Nat)) (y13 : Option (Nat × Nat)) (y14 : Option (Nat × Nat)) (y15 : Option (Nat × Nat)) (y16 : Option (Nat × Nat)) (y17 : Nat) (y18 : Option Nat) : Env := AV.ptr y0 :: Env.sp 1 (AV.slice y1 y2 y3 (1 : Nat) :: AV.ptr y4 :: AV.ptr y5 :: AV.ptr y6 :: AV.ptr y7 :: AV.ptr y8 :: AV.ptr y9 :: AV.ptr y10 :: AV.ptr y11 :: AV.ptr y12 :: AV.ptr y13 :: AV.ptr y14 :: AV.ptr y15 :: AV.slice y16 y17 y18 (1 : Nat) :: [])
def f64e3 (y0 : Option (Nat × Nat)) (y1 : Nat) (y2 : Option Nat) : Env := Env.sp 2 (AV.slice y0 y1 y2 (1 : Nat) :: Env.sp 13 [])

/- function 64 -/
theorem f64_eq {R : Type} (call : Bool → CallF R) (dem : Bool) (N : Nat) (y0 : Option (Nat × Nat)) (σ : St) (K : AV → St → Option R) :
    bodyK Tryz.prog call dem N ann 64 [AV.ptr y0] σ K = runK Tryz.prog call dem N f64c0 f64a0 (bodyC Tryz.prog f64rs K) (f64e0 y0) σ := bodyK_of (fn := ((Tryz.prog.funcs[64]?).get rfl)) (by kernel_rfl) (by kernel_rfl) (by kernel_rfl) (by kernel_rfl) (by kernel_rfl) (by kernel_rfl)
theorem f64n0 {R : Type} (call : Bool → CallF R) (dem : Bool) (N : Nat) (J : KF R) (e : Env) (σ : St) : runK Tryz.prog call dem N f64c0 f64a0 J e σ = runK Tryz.prog call dem N f64c1 f64a1 (seqC (fun K e σ => runK Tryz.prog call dem N f64c2 f64a2 K e σ) f64a0 J) e σ := runK_seq' (by kernel_rfl) (by kernel_rfl) (by kernel_rfl)
theorem f64r1_f64e0 {R : Type} (call : Bool → CallF R) (dem : Bool) (N : Nat) (y0 : Option (Nat × Nat)) (J : KF R) (σ : St) :
    runK Tryz.prog call dem N f64c1 f64a1 J (f64e0 y0) σ =
J Ex.normal (f64e1 y0 none (0 : Nat) (some (0 : Nat))) σ := hide (by kernel_rfl)
theorem f64z0_f64e1 (y0 : Option (Nat × Nat)) (y1 : Option (Nat × Nat)) (y2 : Nat) (y3 : Option Nat) : Ann.clr f64a0 (f64e1 y0 y1 y2 y3) = f64e0 y0 := hide (by kernel_rfl)
theorem f64n2 {R : Type} (call : Bool → CallF R) (dem : Bool) (N : Nat) (J : KF R) (e : Env) (σ : St) : runK Tryz.prog call dem N f64c2 f64a2 J e σ = runK Tryz.prog call dem N f64c3 f64a3 (seqC (fun K e σ => runK Tryz.prog call dem N f64c4 f64a4 K e σ) f64a2 J) e σ := runK_seq' (by kernel_rfl) (by kernel_rfl) (by kernel_rfl)
theorem f64r3_f64e0 {R : Type} (call : Bool → CallF R) (dem : Bool) (N : Nat) (y0 : Option (Nat × Nat)) (J : KF R) (σ : St) :
    runK Tryz.prog call dem N f64c3 f64a3 J (f64e0 y0) σ =
Option.bind y0 fun v0 =>
  Option.bind y0 fun v1 =>
    Option.bind y0 fun v2 =>
      Option.bind y0 fun v3 =>
        J Ex.normal
          (f64e2 y0 (some (St.next σ, (0 : Nat))) (4 : Nat) (some (4 : Nat)) y0 (some v0) (some (Prod.fst v0, Prod.snd v0 + (8 : Nat))) y0 (some v1)
            (some (Prod.fst v1, Prod.snd v1 + (9 : Nat))) y0 (some v2) (some (Prod.fst v2, Prod.snd v2 + (10 : Nat))) y0 (some v3)
            (some (Prod.fst v3, Prod.snd v3 + (11 : Nat))) (some (St.next σ, (0 : Nat))) (4 : Nat) (some (4 : Nat)))
          (St.new σ
            (Blk.cells
              [AV.ptr (some (Prod.fst v0, Prod.snd v0 + (8 : Nat))), AV.ptr (some (Prod.fst v1, Prod.snd v1 + (9 : Nat))),
                AV.ptr (some (Prod.fst v2, Prod.snd v2 + (10 : Nat))), AV.ptr (some (Prod.fst v3, Prod.snd v3 + (11 : Nat)))]
              true)) := hide (by kernel_rfl)
theorem f64z2_f64e2 (y0 : Option (Nat × Nat)) (y1 : Option (Nat × Nat)) (y2 : Nat) (y3 : Option Nat) (y4 : Option (Nat × Nat)) (y5 : Option (Nat × Nat)) (y6 : Option (Nat × Nat)) (y7 : Option (Nat × Nat)) (y8 : Option (Nat × Nat)) (y9 : Option (Nat × Nat)) (y10 : Option (Nat × Nat)) (y11 : Option (Nat × Nat)) (y12 : Option (Nat × Nat)) (y13 : Option (Nat × Nat)) (y14 : Option (Nat × Nat)) (y15 : Option (Nat × Nat)) (y16 : Option (Nat × Nat)) (y17 : Nat) (y18 : Option Nat) : Ann.clr f64a2 (f64e2 y0 y1 y2 y3 y4 y5 y6 y7 y8 y9 y10 y11 y12 y13 y14 y15 y16 y17 y18) = f64e3 y1 y2 y3 := hide (by kernel_rfl)
theorem f64y4_f64e3 {R : Type} (call : Bool → CallF R) (dem : Bool) (N : Nat) (y0 : Option (Nat × Nat)) (y1 : Nat) (y2 : Option Nat) (J : KF R) (σ : St) : runK Tryz.prog call dem N f64c4 f64a4 J (f64e3 y0 y1 y2) σ = J .ret (f64e3 y0 y1 y2) σ := runK_ret' (by kernel_rfl) (by kernel_rfl)
theorem f64b_f64e3_r {R : Type} (y0 : Option (Nat × Nat)) (y1 : Nat) (y2 : Option Nat) (σ : St) (K : AV → St → Option R) : bodyC Tryz.prog f64rs K (Ex.ret) (f64e3 y0 y1 y2) σ =
K (AV.slice y0 y1 y2 (1 : Nat)) σ := hide (by kernel_rfl)
attribute [go_sem] f64_eq f64n0 f64r1_f64e0 f64z0_f64e1 f64n2 f64r3_f64e0 f64z2_f64e2 f64y4_f64e3 f64b_f64e3_r

end Go.Proofs.YtnjhcfcnpapaiaaGreatDoor
