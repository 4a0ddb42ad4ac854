/- What the machine does with each piece of code, in plain text. PRINTED by a program of this workplace; Lean checks it. -/
import Derived.Test.YtnjhcfcnpapaiaaGreatDoorTaAnn
import Derived.Test.YtnjhcfcnpapaiaaGreatDoorProg
import Derived.KernelRfl
import Derived.Attr
namespace Go.Proofs.YtnjhcfcnpapaiaaGreatDoor
open Go.AM
set_option maxRecDepth 100000
set_option linter.unusedVariables false
noncomputable def f18rs : List ResultVar := [ResultVar.cell (2 : Nat) (41 : Nat), ResultVar.tmp (3 : Nat)]
noncomputable def f18c0 : Code := subCode [] (bodyOf Tryz.prog 18)
def f18a0 : Ann := subAnn [] ann18
noncomputable def f18c1 : Code := subCode [0] (bodyOf Tryz.prog 18)
def f18a1 : Ann := subAnn [0] ann18
noncomputable def f18c2 : Code := subCode [1] (bodyOf Tryz.prog 18)
def f18a2 : Ann := subAnn [1] ann18
noncomputable def f18c3 : Code := subCode [1, 0] (bodyOf Tryz.prog 18)
def f18a3 : Ann := subAnn [1, 0] ann18
noncomputable def f18c4 : Code := subCode [1, 1] (bodyOf Tryz.prog 18)
def f18a4 : Ann := subAnn [1, 1] ann18
noncomputable def f18c5 : Code := subCode [1, 1, 0] (bodyOf Tryz.prog 18)
def f18a5 : Ann := subAnn [1, 1, 0] ann18
noncomputable def f18c6 : Code := subCode [1, 1, 1] (bodyOf Tryz.prog 18)
def f18a6 : Ann := subAnn [1, 1, 1] ann18
noncomputable def f18c7 : Code := subCode [1, 1, 0, 0] (bodyOf Tryz.prog 18)
def f18a7 : Ann := subAnn [1, 1, 0, 0] ann18
noncomputable def f18c8 : Code := subCode [1, 1, 0, 1] (bodyOf Tryz.prog 18)
def f18a8 : Ann := subAnn [1, 1, 0, 1] ann18
noncomputable def f18c9 : Code := subCode [1, 1, 0, 1, 0] (bodyOf Tryz.prog 18)
def f18a9 : Ann := subAnn [1, 1, 0, 1, 0] ann18
noncomputable def f18c10 : Code := subCode [1, 1, 0, 1, 1] (bodyOf Tryz.prog 18)
def f18a10 : Ann := subAnn [1, 1, 0, 1, 1] ann18
noncomputable def f18c11 : Code := subCode [1, 1, 0, 1, 0, 0] (bodyOf Tryz.prog 18)
def f18a11 : Ann := subAnn [1, 1, 0, 1, 0, 0] ann18
noncomputable def f18c12 : Code := subCode [1, 1, 0, 1, 0, 1] (bodyOf Tryz.prog 18)
def f18a12 : Ann := subAnn [1, 1, 0, 1, 0, 1] ann18
noncomputable def f18c13 : Code := subCode [1, 1, 1, 0] (bodyOf Tryz.prog 18)
def f18a13 : Ann := subAnn [1, 1, 1, 0] ann18
noncomputable def f18c14 : Code := subCode [1, 1, 1, 1] (bodyOf Tryz.prog 18)
def f18a14 : Ann := subAnn [1, 1, 1, 1] ann18
noncomputable def f18c15 : Code := subCode [1, 1, 1, 1, 0] (bodyOf Tryz.prog 18)
def f18a15 : Ann := subAnn [1, 1, 1, 1, 0] ann18
noncomputable def f18c16 : Code := subCode [1, 1, 1, 1, 1] (bodyOf Tryz.prog 18)
def f18a16 : Ann := subAnn [1, 1, 1, 1, 1] ann18
noncomputable def f18c17 : Code := subCode [1, 1, 1, 1, 1, 0] (bodyOf Tryz.prog 18)
def f18a17 : Ann := subAnn [1, 1, 1, 1, 1, 0] ann18
noncomputable def f18c18 : Code := subCode [1, 1, 1, 1, 1, 1] (bodyOf Tryz.prog 18)
def f18a18 : Ann := subAnn [1, 1, 1, 1, 1, 1] ann18
def f18e0 (y0 : ByteArray) : Env := AV.str y0 :: Env.sp 27 []
def f18e1 (y0 : ByteArray) (y1 : Nat) (y2 : Bool) : Env := AV.str y0 :: Env.sp 1 (AV.ptr (some (y1, (0 : Nat))) :: AV.bool y2 :: Env.sp 24 [])
def f18e2 (y0 : ByteArray) (y1 : Nat) : Env := AV.str y0 :: Env.sp 1 (AV.ptr (some (y1, (0 : Nat))) :: Env.sp 25 [])
def f18e3 (y0 : ByteArray) (y1 : Nat) (y2 : Nat) (y3 : Int) (y4 : Option (Nat × Nat)) (y5 : Nat) (y6 : Option Nat) (y7 : Int) (y8 : ByteArray) (y9 : Option (Nat × Nat)) (y10 : Nat) (y11 : Option Nat) (y12 : Int) (y13 : Option (Nat × Nat)) (y14 : Nat) (y15 : Option Nat) (y16 : Int) : Env := AV.str y0 :: Env.sp 1 (AV.ptr (some (y1, (0 : Nat))) :: Env.sp 1 (AV.ptr (some (y2, (0 : Nat))) :: AV.int IntKind.i64 y3 :: Env.sp 1 (AV.tuple [AV.slice y4 y5 y6 (1 : Nat), AV.int IntKind.i64 y7] :: AV.str y8 :: AV.tuple [AV.slice y9 y10 y11 (1 : Nat), AV.int IntKind.i64 y12] :: AV.slice y13 y14 y15 (1 : Nat) :: AV.int IntKind.i64 y16 :: Env.sp 16 [])))
def f18e4 (y0 : ByteArray) (y1 : Nat) (y2 : Nat) (y3 : Int) : Env := AV.str y0 :: Env.sp 1 (AV.ptr (some (y1, (0 : Nat))) :: Env.sp 1 (AV.ptr (some (y2, (0 : Nat))) :: AV.int IntKind.i64 y3 :: Env.sp 22 []))
def f18e5 (y0 : ByteArray) (y1 : Nat) (y2 : Nat) (y3 : Int) (y4 : Int) (y5 : Bool) (y6 : Bool) (y7 : Bool) : Env := AV.str y0 :: Env.sp 1 (AV.ptr (some (y1, (0 : Nat))) :: Env.sp 1 (AV.ptr (some (y2, (0 : Nat))) :: AV.int IntKind.i64 y3 :: Env.sp 6 (AV.int IntKind.i64 y4 :: AV.bool y5 :: AV.bool y6 :: AV.tuple [] :: AV.tuple [] :: AV.tuple [] :: AV.bool y7 :: Env.sp 9 [])))
def f18e6 (y0 : ByteArray) (y1 : Nat) (y2 : Nat) (y3 : Int) (y4 : Int) (y5 : Bool) (y6 : Bool) (y7 : Option (Nat × Nat)) (y8 : Nat) (y9 : Option Nat) (y10 : Int) (y11 : Bool) (y12 : Bool) : Env := AV.str y0 :: Env.sp 1 (AV.ptr (some (y1, (0 : Nat))) :: Env.sp 1 (AV.ptr (some (y2, (0 : Nat))) :: AV.int IntKind.i64 y3 :: Env.sp 6 (AV.int IntKind.i64 y4 :: AV.bool y5 :: AV.bool y6 :: AV.slice y7 y8 y9 (1 : Nat) :: AV.int IntKind.i64 y10 :: AV.bool y11 :: AV.bool y12 :: Env.sp 9 [])))
def f18e7 (y0 : ByteArray) (y1 : Nat) (y2 : Nat) (y3 : Bool) : Env := AV.str y0 :: Env.sp 1 (AV.ptr (some (y1, (0 : Nat))) :: Env.sp 1 (AV.ptr (some (y2, (0 : Nat))) :: Env.sp 13 (AV.bool y3 :: Env.sp 9 [])))
def f18e8 (y0 : ByteArray) (y1 : Nat) (y2 : Bool) (y3 : Nat) (y4 : Bool) (y5 : Int) (y6 : Int) (y7 : Int) (y8 : Int) (y9 : Int) (y10 : Int) (y11 : Int) (y12 : Int) (y13 : ByteArray) (y14 : ByteArray) (y15 : ByteArray) (y16 : ByteArray) : Env := AV.str y0 :: Env.sp 1 (AV.ptr (some (y1, (0 : Nat))) :: AV.bool y2 :: AV.ptr (some (y3, (0 : Nat))) :: Env.sp 13 (AV.bool y4 :: AV.agg
  [AV.int IntKind.i64 y5, AV.int IntKind.i64 y6, AV.int IntKind.i64 y7, AV.int IntKind.i64 y8, AV.int IntKind.i64 y9, AV.int IntKind.i64 y10,
    AV.int IntKind.i64 y11, AV.int IntKind.i64 y12, AV.str y13, AV.str y14, AV.str y15, AV.str y16] :: Env.sp 8 []))
def f18e9 (y0 : Nat) (y1 : Bool) : Env := Env.sp 2 (AV.ptr (some (y0, (0 : Nat))) :: AV.bool y1 :: Env.sp 24 [])
def f18e10 (y0 : ByteArray) (y1 : Nat) (y2 : Nat) : Env := AV.str y0 :: Env.sp 1 (AV.ptr (some (y1, (0 : Nat))) :: Env.sp 1 (AV.ptr (some (y2, (0 : Nat))) :: Env.sp 23 []))
def f18e11 (y0 : ByteArray) (y1 : Nat) (y2 : Nat) (y3 : Nat) : Env := AV.str y0 :: Env.sp 1 (AV.ptr (some (y1, (0 : Nat))) :: Env.sp 1 (AV.ptr (some (y2, (0 : Nat))) :: Env.sp 1 (AV.ptr (some (y3, (0 : Nat))) :: Env.sp 21 [])))
def f18e12 (y0 : ByteArray) (y1 : Nat) (y2 : Nat) (y3 : Nat) (y4 : Nat) (y5 : Nat) (y6 : Nat) (y7 : Nat) : Env := AV.str y0 :: Env.sp 1 (AV.ptr (some (y1, (0 : Nat))) :: Env.sp 1 (AV.ptr (some (y2, (0 : Nat))) :: Env.sp 1 (AV.ptr (some (y3, (0 : Nat))) :: Env.sp 13 (AV.func (Fn.func y4) [] [AV.ptr (some (y5, (0 : Nat)))] :: AV.func (Fn.func y6) [] [AV.ptr (some (y7, (0 : Nat)))] :: AV.tuple [] :: Env.sp 5 []))))
def f18e13 (y0 : ByteArray) (y1 : Nat) (y2 : Nat) : Env := AV.str y0 :: Env.sp 1 (AV.ptr (some (y1, (0 : Nat))) :: Env.sp 3 (AV.ptr (some (y2, (0 : Nat))) :: Env.sp 21 []))
def f18e14 (y0 : ByteArray) (y1 : Nat) (y2 : Bool) (y3 : Nat) (y4 : Int) (y5 : Int) (y6 : Int) (y7 : Int) (y8 : Int) (y9 : Int) (y10 : Int) (y11 : Int) (y12 : ByteArray) (y13 : ByteArray) (y14 : ByteArray) (y15 : ByteArray) (y16 : Int) (y17 : Int) (y18 : Int) (y19 : Int) (y20 : Int) (y21 : Int) (y22 : Int) (y23 : Int) (y24 : ByteArray) (y25 : ByteArray) (y26 : ByteArray) (y27 : ByteArray) (y28 : ByteArray) (y29 : ByteArray) (y30 : Bool) : Env := AV.str y0 :: Env.sp 1 (AV.ptr (some (y1, (0 : Nat))) :: AV.bool y2 :: Env.sp 2 (AV.ptr (some (y3, (0 : Nat))) :: Env.sp 16 (AV.agg
  [AV.int IntKind.i64 y4, AV.int IntKind.i64 y5, AV.int IntKind.i64 y6, AV.int IntKind.i64 y7, AV.int IntKind.i64 y8, AV.int IntKind.i64 y9,
    AV.int IntKind.i64 y10, AV.int IntKind.i64 y11, AV.str y12, AV.str y13, AV.str y14, AV.str y15] :: AV.agg
  [AV.int IntKind.i64 y16, AV.int IntKind.i64 y17, AV.int IntKind.i64 y18, AV.int IntKind.i64 y19, AV.int IntKind.i64 y20, AV.int IntKind.i64 y21,
    AV.int IntKind.i64 y22, AV.int IntKind.i64 y23, AV.str y24, AV.str y25, AV.str y26, AV.str y27] :: AV.str y28 :: AV.str y29 :: AV.bool y30 :: [])))

/- function 18 -/
theorem f18_eq {R : Type} (call : Bool → CallF R) (dem : Bool) (N : Nat) (y0 : ByteArray) (σ : St) (K : AV → St → Option R) :
    bodyK Tryz.prog call dem N ann 18 [AV.str y0] σ K = runK Tryz.prog call dem N f18c0 f18a0 (bodyC Tryz.prog f18rs K) (f18e0 y0) σ := bodyK_of (fn := ((Tryz.prog.funcs[18]?).get rfl)) (by kernel_rfl) (by kernel_rfl) (by kernel_rfl) (by kernel_rfl) (by kernel_rfl) (by kernel_rfl)
theorem f18n0 {R : Type} (call : Bool → CallF R) (dem : Bool) (N : Nat) (J : KF R) (e : Env) (σ : St) : runK Tryz.prog call dem N f18c0 f18a0 J e σ = runK Tryz.prog call dem N f18c1 f18a1 (seqC (fun K e σ => runK Tryz.prog call dem N f18c2 f18a2 K e σ) f18a0 J) e σ := runK_seq' (by kernel_rfl) (by kernel_rfl) (by kernel_rfl)
theorem f18r1_f18e0 {R : Type} (call : Bool → CallF R) (dem : Bool) (N : Nat) (y0 : ByteArray) (J : KF R) (σ : St) :
    runK Tryz.prog call dem N f18c1 f18a1 J (f18e0 y0) σ =
J Ex.normal (f18e1 y0 (St.next σ) false)
  (St.new σ
    (Blk.cells
      [AV.int IntKind.i64 (0 : Int), AV.int IntKind.i64 (0 : Int), AV.int IntKind.i64 (0 : Int), AV.int IntKind.i64 (0 : Int),
        AV.int IntKind.i64 (0 : Int), AV.int IntKind.i64 (0 : Int), AV.int IntKind.i64 (0 : Int), AV.int IntKind.i64 (0 : Int),
        AV.str (ByteArray.mk #[]), AV.str (ByteArray.mk #[]), AV.str (ByteArray.mk #[]), AV.str (ByteArray.mk #[])]
      true)) := hide (by kernel_rfl)
theorem f18z0_f18e1 (y0 : ByteArray) (y1 : Nat) (y2 : Bool) : Ann.clr f18a0 (f18e1 y0 y1 y2) = f18e2 y0 y1 := hide (by kernel_rfl)
theorem f18n2 {R : Type} (call : Bool → CallF R) (dem : Bool) (N : Nat) (J : KF R) (e : Env) (σ : St) : runK Tryz.prog call dem N f18c2 f18a2 J e σ = runK Tryz.prog call dem N f18c3 f18a3 (seqC (fun K e σ => runK Tryz.prog call dem N f18c4 f18a4 K e σ) f18a2 J) e σ := runK_seq' (by kernel_rfl) (by kernel_rfl) (by kernel_rfl)
theorem f18r3_f18e2 {R : Type} (call : Bool → CallF R) (dem : Bool) (N : Nat) (y0 : ByteArray) (y1 : Nat) (J : KF R) (σ : St) :
    runK Tryz.prog call dem N f18c3 f18a3 J (f18e2 y0 y1) σ =
call dem (16 : Nat) [AV.str y0] σ fun v0 v1 =>
  Option.bind (AV.toTuple v0) fun v2 =>
    if List.length v2 = (2 : Nat) then
      Option.bind (List.head? v2) fun v3 =>
        Option.bind (AV.toSl (1 : Nat) v3) fun v4 =>
          Option.bind (List.head? (List.tail v2)) fun v5 =>
            Option.bind (AV.toInt IntKind.i64 v5) fun v6 =>
              Option.bind
                (St.st (St.new v1 (Blk.cells [AV.slice none (0 : Nat) (some (0 : Nat)) (1 : Nat)] true)) (St.next v1) (0 : Nat)
                  [AV.slice (Sl.o v4) (Sl.len v4) (Sl.cap v4) (1 : Nat)])
                fun v7 =>
                J Ex.normal
                  (f18e3 y0 y1 (St.next v1) v6 (Sl.o v4) (Sl.len v4) (Sl.cap v4) v6 y0 (Sl.o v4) (Sl.len v4) (Sl.cap v4) v6 (Sl.o v4) (Sl.len v4)
                    (Sl.cap v4) v6)
                  v7
    else none := hide (by kernel_rfl)
theorem f18z2_f18e3 (y0 : ByteArray) (y1 : Nat) (y2 : Nat) (y3 : Int) (y4 : Option (Nat × Nat)) (y5 : Nat) (y6 : Option Nat) (y7 : Int) (y8 : ByteArray) (y9 : Option (Nat × Nat)) (y10 : Nat) (y11 : Option Nat) (y12 : Int) (y13 : Option (Nat × Nat)) (y14 : Nat) (y15 : Option Nat) (y16 : Int) : Ann.clr f18a2 (f18e3 y0 y1 y2 y3 y4 y5 y6 y7 y8 y9 y10 y11 y12 y13 y14 y15 y16) = f18e4 y0 y1 y2 y3 := hide (by kernel_rfl)
theorem f18n4 {R : Type} (call : Bool → CallF R) (dem : Bool) (N : Nat) (J : KF R) (e : Env) (σ : St) : runK Tryz.prog call dem N f18c4 f18a4 J e σ = runK Tryz.prog call dem N f18c5 f18a5 (seqC (fun K e σ => runK Tryz.prog call dem N f18c6 f18a6 K e σ) f18a4 J) e σ := runK_seq' (by kernel_rfl) (by kernel_rfl) (by kernel_rfl)
theorem f18n5 {R : Type} (call : Bool → CallF R) (dem : Bool) (N : Nat) (J : KF R) (e : Env) (σ : St) : runK Tryz.prog call dem N f18c5 f18a5 J e σ = runK Tryz.prog call dem N f18c7 f18a7 (seqC (fun K e σ => runK Tryz.prog call dem N f18c8 f18a8 K e σ) f18a5 J) e σ := runK_seq' (by kernel_rfl) (by kernel_rfl) (by kernel_rfl)
theorem f18r7_f18e4 {R : Type} (call : Bool → CallF R) (dem : Bool) (N : Nat) (y0 : ByteArray) (y1 : Nat) (y2 : Nat) (y3 : Int) (J : KF R) (σ : St) :
    runK Tryz.prog call dem N f18c7 f18a7 J (f18e4 y0 y1 y2 y3) σ =
if (y3 != (0 : Int)) = true then J Ex.normal (f18e5 y0 y1 y2 y3 y3 (y3 != (0 : Int)) true true) σ
else
  Option.bind (St.ld σ y2 (0 : Nat)) fun v0 =>
    Option.bind (AV.toSl (1 : Nat) v0) fun v1 =>
      J Ex.normal
        (f18e6 y0 y1 y2 y3 y3 (y3 != (0 : Int)) false (Sl.o v1) (Sl.len v1) (Sl.cap v1) (↑(Sl.len v1) : Int)
          (decide ((↑(Sl.len v1) : Int) > (12 : Int))) (decide ((↑(Sl.len v1) : Int) > (12 : Int))))
        σ := hide (by kernel_rfl)
theorem f18z5_f18e5 (y0 : ByteArray) (y1 : Nat) (y2 : Nat) (y3 : Int) (y4 : Int) (y5 : Bool) (y6 : Bool) (y7 : Bool) : Ann.clr f18a5 (f18e5 y0 y1 y2 y3 y4 y5 y6 y7) = f18e7 y0 y1 y2 y7 := hide (by kernel_rfl)
theorem f18x8_f18e7 {R : Type} (call : Bool → CallF R) (dem : Bool) (N : Nat) (y0 : ByteArray) (y1 : Nat) (y2 : Nat) (y3 : Bool) (J : KF R) (σ : St) : runK Tryz.prog call dem N f18c8 f18a8 J (f18e7 y0 y1 y2 y3) σ = if y3 = true then runK Tryz.prog call dem N f18c9 f18a9 (condC f18a8 J) (f18e7 y0 y1 y2 y3) σ else runK Tryz.prog call dem N f18c10 f18a10 (condC f18a8 J) (f18e7 y0 y1 y2 y3) σ := runK_cond' (o := Operand.tmp (18 : Nat)) (by kernel_rfl) (by kernel_rfl) (by kernel_rfl) (by kernel_rfl)
theorem f18n9 {R : Type} (call : Bool → CallF R) (dem : Bool) (N : Nat) (J : KF R) (e : Env) (σ : St) : runK Tryz.prog call dem N f18c9 f18a9 J e σ = runK Tryz.prog call dem N f18c11 f18a11 (seqC (fun K e σ => runK Tryz.prog call dem N f18c12 f18a12 K e σ) f18a9 J) e σ := runK_seq' (by kernel_rfl) (by kernel_rfl) (by kernel_rfl)
theorem f18r11_f18e7 {R : Type} (call : Bool → CallF R) (dem : Bool) (N : Nat) (y0 : ByteArray) (y1 : Nat) (y2 : Nat) (y3 : Bool) (J : KF R) (σ : St) :
    runK Tryz.prog call dem N f18c11 f18a11 J (f18e7 y0 y1 y2 y3) σ =
Option.bind
  (St.st σ y1 (0 : Nat)
    [AV.int IntKind.i64 (0 : Int), AV.int IntKind.i64 (0 : Int), AV.int IntKind.i64 (0 : Int), AV.int IntKind.i64 (0 : Int),
      AV.int IntKind.i64 (0 : Int), AV.int IntKind.i64 (0 : Int), AV.int IntKind.i64 (0 : Int), AV.int IntKind.i64 (0 : Int),
      AV.str (ByteArray.mk #[]), AV.str (ByteArray.mk #[]), AV.str (ByteArray.mk #[]), AV.str (ByteArray.mk #[])])
  fun v0 =>
  J Ex.normal
    (f18e8 y0 y1 false y2 y3 (0 : Int) (0 : Int) (0 : Int) (0 : Int) (0 : Int) (0 : Int) (0 : Int) (0 : Int) (ByteArray.mk #[]) (ByteArray.mk #[])
      (ByteArray.mk #[]) (ByteArray.mk #[]))
    v0 := hide (by kernel_rfl)
theorem f18z9_f18e8 (y0 : ByteArray) (y1 : Nat) (y2 : Bool) (y3 : Nat) (y4 : Bool) (y5 : Int) (y6 : Int) (y7 : Int) (y8 : Int) (y9 : Int) (y10 : Int) (y11 : Int) (y12 : Int) (y13 : ByteArray) (y14 : ByteArray) (y15 : ByteArray) (y16 : ByteArray) : Ann.clr f18a9 (f18e8 y0 y1 y2 y3 y4 y5 y6 y7 y8 y9 y10 y11 y12 y13 y14 y15 y16) = f18e9 y1 y2 := hide (by kernel_rfl)
theorem f18y12_f18e9 {R : Type} (call : Bool → CallF R) (dem : Bool) (N : Nat) (y0 : Nat) (y1 : Bool) (J : KF R) (σ : St) : runK Tryz.prog call dem N f18c12 f18a12 J (f18e9 y0 y1) σ = J .ret (f18e9 y0 y1) σ := runK_ret' (by kernel_rfl) (by kernel_rfl)
theorem f18n10 {R : Type} (call : Bool → CallF R) (dem : Bool) (N : Nat) (J : KF R) (e : Env) (σ : St) : runK Tryz.prog call dem N f18c10 f18a10 J e σ = J .normal e σ := runK_skip' (by kernel_rfl)
theorem f18z8_f18e7 (y0 : ByteArray) (y1 : Nat) (y2 : Nat) (y3 : Bool) : Ann.clr f18a8 (f18e7 y0 y1 y2 y3) = f18e10 y0 y1 y2 := hide (by kernel_rfl)
theorem f18z5_f18e6 (y0 : ByteArray) (y1 : Nat) (y2 : Nat) (y3 : Int) (y4 : Int) (y5 : Bool) (y6 : Bool) (y7 : Option (Nat × Nat)) (y8 : Nat) (y9 : Option Nat) (y10 : Int) (y11 : Bool) (y12 : Bool) : Ann.clr f18a5 (f18e6 y0 y1 y2 y3 y4 y5 y6 y7 y8 y9 y10 y11 y12) = f18e7 y0 y1 y2 y12 := hide (by kernel_rfl)
theorem f18z4_f18e10 (y0 : ByteArray) (y1 : Nat) (y2 : Nat) : Ann.clr f18a4 (f18e10 y0 y1 y2) = f18e10 y0 y1 y2 := hide (by kernel_rfl)
theorem f18n6 {R : Type} (call : Bool → CallF R) (dem : Bool) (N : Nat) (J : KF R) (e : Env) (σ : St) : runK Tryz.prog call dem N f18c6 f18a6 J e σ = runK Tryz.prog call dem N f18c13 f18a13 (seqC (fun K e σ => runK Tryz.prog call dem N f18c14 f18a14 K e σ) f18a6 J) e σ := runK_seq' (by kernel_rfl) (by kernel_rfl) (by kernel_rfl)
theorem f18r13_f18e10 {R : Type} (call : Bool → CallF R) (dem : Bool) (N : Nat) (y0 : ByteArray) (y1 : Nat) (y2 : Nat) (J : KF R) (σ : St) :
    runK Tryz.prog call dem N f18c13 f18a13 J (f18e10 y0 y1 y2) σ =
J Ex.normal (f18e11 y0 y1 y2 (St.next σ))
  (St.new σ
    (Blk.cells
      [AV.int IntKind.i64 (0 : Int), AV.int IntKind.i64 (0 : Int), AV.int IntKind.i64 (0 : Int), AV.int IntKind.i64 (0 : Int),
        AV.int IntKind.i64 (0 : Int), AV.int IntKind.i64 (0 : Int), AV.int IntKind.i64 (0 : Int), AV.int IntKind.i64 (0 : Int),
        AV.str (ByteArray.mk #[]), AV.str (ByteArray.mk #[]), AV.str (ByteArray.mk #[]), AV.str (ByteArray.mk #[])]
      true)) := hide (by kernel_rfl)
theorem f18z6_f18e11 (y0 : ByteArray) (y1 : Nat) (y2 : Nat) (y3 : Nat) : Ann.clr f18a6 (f18e11 y0 y1 y2 y3) = f18e11 y0 y1 y2 y3 := hide (by kernel_rfl)
theorem f18n14 {R : Type} (call : Bool → CallF R) (dem : Bool) (N : Nat) (J : KF R) (e : Env) (σ : St) : runK Tryz.prog call dem N f18c14 f18a14 J e σ = runK Tryz.prog call dem N f18c15 f18a15 (seqC (fun K e σ => runK Tryz.prog call dem N f18c16 f18a16 K e σ) f18a14 J) e σ := runK_seq' (by kernel_rfl) (by kernel_rfl) (by kernel_rfl)
theorem f18r15_f18e11 {R : Type} (call : Bool → CallF R) (dem : Bool) (N : Nat) (y0 : ByteArray) (y1 : Nat) (y2 : Nat) (y3 : Nat) (J : KF R) (σ : St) :
    runK Tryz.prog call dem N f18c15 f18a15 J (f18e11 y0 y1 y2 y3) σ =
call dem (29 : Nat)
  [AV.ptr (some (y3, (0 : Nat))), AV.func (Fn.func (36 : Nat)) [] [AV.ptr (some (y2, (0 : Nat)))],
    AV.func (Fn.func (37 : Nat)) [] [AV.ptr (some (y2, (0 : Nat)))]]
  σ fun v0 v1 =>
  Option.bind (AV.toTuple v0) fun v2 => if List.length v2 = (0 : Nat) then J Ex.normal (f18e12 y0 y1 y2 y3 (36 : Nat) y2 (37 : Nat) y2) v1 else none := hide (by kernel_rfl)
theorem f18z14_f18e12 (y0 : ByteArray) (y1 : Nat) (y2 : Nat) (y3 : Nat) (y4 : Nat) (y5 : Nat) (y6 : Nat) (y7 : Nat) : Ann.clr f18a14 (f18e12 y0 y1 y2 y3 y4 y5 y6 y7) = f18e13 y0 y1 y3 := hide (by kernel_rfl)
theorem f18n16 {R : Type} (call : Bool → CallF R) (dem : Bool) (N : Nat) (J : KF R) (e : Env) (σ : St) : runK Tryz.prog call dem N f18c16 f18a16 J e σ = runK Tryz.prog call dem N f18c17 f18a17 (seqC (fun K e σ => runK Tryz.prog call dem N f18c18 f18a18 K e σ) f18a16 J) e σ := runK_seq' (by kernel_rfl) (by kernel_rfl) (by kernel_rfl)
theorem f18r17_f18e13 {R : Type} (call : Bool → CallF R) (dem : Bool) (N : Nat) (y0 : ByteArray) (y1 : Nat) (y2 : Nat) (J : KF R) (σ : St) :
    runK Tryz.prog call dem N f18c17 f18a17 J (f18e13 y0 y1 y2) σ =
Option.bind (St.ld σ y2 (0 : Nat)) fun v0 =>
  Option.bind (AV.toInt IntKind.i64 v0) fun v1 =>
    Option.bind (St.ld σ y2 (1 : Nat)) fun v2 =>
      Option.bind (AV.toInt IntKind.i64 v2) fun v3 =>
        Option.bind (St.ld σ y2 (2 : Nat)) fun v4 =>
          Option.bind (AV.toInt IntKind.i64 v4) fun v5 =>
            Option.bind (St.ld σ y2 (3 : Nat)) fun v6 =>
              Option.bind (AV.toInt IntKind.i64 v6) fun v7 =>
                Option.bind (St.ld σ y2 (4 : Nat)) fun v8 =>
                  Option.bind (AV.toInt IntKind.i64 v8) fun v9 =>
                    Option.bind (St.ld σ y2 (5 : Nat)) fun v10 =>
                      Option.bind (AV.toInt IntKind.i64 v10) fun v11 =>
                        Option.bind (St.ld σ y2 (6 : Nat)) fun v12 =>
                          Option.bind (AV.toInt IntKind.i64 v12) fun v13 =>
                            Option.bind (St.ld σ y2 (7 : Nat)) fun v14 =>
                              Option.bind (AV.toInt IntKind.i64 v14) fun v15 =>
                                Option.bind (St.ld σ y2 (8 : Nat)) fun v16 =>
                                  Option.bind (AV.toStr v16) fun v17 =>
                                    Option.bind (St.ld σ y2 (9 : Nat)) fun v18 =>
                                      Option.bind (AV.toStr v18) fun v19 =>
                                        Option.bind (St.ld σ y2 (10 : Nat)) fun v20 =>
                                          Option.bind (AV.toStr v20) fun v21 =>
                                            Option.bind (St.ld σ y2 (11 : Nat)) fun v22 =>
                                              Option.bind (AV.toStr v22) fun v23 =>
                                                Option.bind (St.ld σ y2 (0 : Nat)) fun v24 =>
                                                  Option.bind (AV.toInt IntKind.i64 v24) fun v25 =>
                                                    Option.bind (St.ld σ y2 (1 : Nat)) fun v26 =>
                                                      Option.bind (AV.toInt IntKind.i64 v26) fun v27 =>
                                                        Option.bind (St.ld σ y2 (2 : Nat)) fun v28 =>
                                                          Option.bind (AV.toInt IntKind.i64 v28) fun v29 =>
                                                            Option.bind (St.ld σ y2 (3 : Nat)) fun v30 =>
                                                              Option.bind (AV.toInt IntKind.i64 v30) fun v31 =>
                                                                Option.bind (St.ld σ y2 (4 : Nat)) fun v32 =>
                                                                  Option.bind (AV.toInt IntKind.i64 v32) fun v33 =>
                                                                    Option.bind (St.ld σ y2 (5 : Nat)) fun v34 =>
                                                                      Option.bind (AV.toInt IntKind.i64 v34) fun v35 =>
                                                                        Option.bind (St.ld σ y2 (6 : Nat)) fun v36 =>
                                                                          Option.bind (AV.toInt IntKind.i64 v36) fun v37 =>
                                                                            Option.bind (St.ld σ y2 (7 : Nat)) fun v38 =>
                                                                              Option.bind (AV.toInt IntKind.i64 v38) fun v39 =>
                                                                                Option.bind (St.ld σ y2 (8 : Nat)) fun v40 =>
                                                                                  Option.bind (AV.toStr v40) fun v41 =>
                                                                                    Option.bind (St.ld σ y2 (9 : Nat)) fun v42 =>
                                                                                      Option.bind (AV.toStr v42) fun v43 =>
                                                                                        Option.bind (St.ld σ y2 (10 : Nat)) fun v44 =>
                                                                                          Option.bind (AV.toStr v44) fun v45 =>
                                                                                            Option.bind (St.ld σ y2 (11 : Nat)) fun v46 =>
                                                                                              Option.bind (AV.toStr v46) fun v47 =>
                                                                                                call false (14 : Nat)
                                                                                                  [AV.agg
                                                                                                      [AV.int IntKind.i64 v25, AV.int IntKind.i64 v27,
                                                                                                        AV.int IntKind.i64 v29,
                                                                                                        AV.int IntKind.i64 v31,
                                                                                                        AV.int IntKind.i64 v33,
                                                                                                        AV.int IntKind.i64 v35,
                                                                                                        AV.int IntKind.i64 v37,
                                                                                                        AV.int IntKind.i64 v39, AV.str v41,
                                                                                                        AV.str v43, AV.str v45, AV.str v47]]
                                                                                                  σ fun v48 v49 =>
                                                                                                  Option.bind (AV.toStr v48) fun v50 =>
                                                                                                    if
                                                                                                        St.same v49 y2 (0 : Nat)
                                                                                                            [AV.int IntKind.i64 v1,
                                                                                                              AV.int IntKind.i64 v3,
                                                                                                              AV.int IntKind.i64 v5,
                                                                                                              AV.int IntKind.i64 v7,
                                                                                                              AV.int IntKind.i64 v9,
                                                                                                              AV.int IntKind.i64 v11,
                                                                                                              AV.int IntKind.i64 v13,
                                                                                                              AV.int IntKind.i64 v15, AV.str v17,
                                                                                                              AV.str v19, AV.str v21, AV.str v23] =
                                                                                                          true then
                                                                                                      Option.bind
                                                                                                        (St.st v49 y1 (0 : Nat)
                                                                                                          [AV.int IntKind.i64 v1,
                                                                                                            AV.int IntKind.i64 v3,
                                                                                                            AV.int IntKind.i64 v5,
                                                                                                            AV.int IntKind.i64 v7,
                                                                                                            AV.int IntKind.i64 v9,
                                                                                                            AV.int IntKind.i64 v11,
                                                                                                            AV.int IntKind.i64 v13,
                                                                                                            AV.int IntKind.i64 v15, AV.str v17,
                                                                                                            AV.str v19, AV.str v21, AV.str v23])
                                                                                                        fun v51 =>
                                                                                                        J Ex.normal
                                                                                                          (f18e14 y0 y1 (decide (v50 = y0)) y2 v1 v3
                                                                                                            v5 v7 v9 v11 v13 v15 v17 v19 v21 v23 v25
                                                                                                            v27 v29 v31 v33 v35 v37 v39 v41 v43 v45
                                                                                                            v47 v50 y0 (decide (v50 = y0)))
                                                                                                          v51
                                                                                                    else none := hide (by kernel_rfl)
theorem f18z16_f18e14 (y0 : ByteArray) (y1 : Nat) (y2 : Bool) (y3 : Nat) (y4 : Int) (y5 : Int) (y6 : Int) (y7 : Int) (y8 : Int) (y9 : Int) (y10 : Int) (y11 : Int) (y12 : ByteArray) (y13 : ByteArray) (y14 : ByteArray) (y15 : ByteArray) (y16 : Int) (y17 : Int) (y18 : Int) (y19 : Int) (y20 : Int) (y21 : Int) (y22 : Int) (y23 : Int) (y24 : ByteArray) (y25 : ByteArray) (y26 : ByteArray) (y27 : ByteArray) (y28 : ByteArray) (y29 : ByteArray) (y30 : Bool) : Ann.clr f18a16 (f18e14 y0 y1 y2 y3 y4 y5 y6 y7 y8 y9 y10 y11 y12 y13 y14 y15 y16 y17 y18 y19 y20 y21 y22 y23 y24 y25 y26 y27 y28 y29 y30) = f18e9 y1 y2 := hide (by kernel_rfl)
theorem f18y18_f18e9 {R : Type} (call : Bool → CallF R) (dem : Bool) (N : Nat) (y0 : Nat) (y1 : Bool) (J : KF R) (σ : St) : runK Tryz.prog call dem N f18c18 f18a18 J (f18e9 y0 y1) σ = J .ret (f18e9 y0 y1) σ := runK_ret' (by kernel_rfl) (by kernel_rfl)
theorem f18b_f18e9_r {R : Type} (y0 : Nat) (y1 : Bool) (σ : St) (K : AV → St → Option R) : bodyC Tryz.prog f18rs K (Ex.ret) (f18e9 y0 y1) σ =
Option.bind (St.ld σ y0 (0 : Nat)) fun v0 =>
  Option.bind (AV.toInt IntKind.i64 v0) fun v1 =>
    Option.bind (St.ld σ y0 (1 : Nat)) fun v2 =>
      Option.bind (AV.toInt IntKind.i64 v2) fun v3 =>
        Option.bind (St.ld σ y0 (2 : Nat)) fun v4 =>
          Option.bind (AV.toInt IntKind.i64 v4) fun v5 =>
            Option.bind (St.ld σ y0 (3 : Nat)) fun v6 =>
              Option.bind (AV.toInt IntKind.i64 v6) fun v7 =>
                Option.bind (St.ld σ y0 (4 : Nat)) fun v8 =>
                  Option.bind (AV.toInt IntKind.i64 v8) fun v9 =>
                    Option.bind (St.ld σ y0 (5 : Nat)) fun v10 =>
                      Option.bind (AV.toInt IntKind.i64 v10) fun v11 =>
                        Option.bind (St.ld σ y0 (6 : Nat)) fun v12 =>
                          Option.bind (AV.toInt IntKind.i64 v12) fun v13 =>
                            Option.bind (St.ld σ y0 (7 : Nat)) fun v14 =>
                              Option.bind (AV.toInt IntKind.i64 v14) fun v15 =>
                                Option.bind (St.ld σ y0 (8 : Nat)) fun v16 =>
                                  Option.bind (AV.toStr v16) fun v17 =>
                                    Option.bind (St.ld σ y0 (9 : Nat)) fun v18 =>
                                      Option.bind (AV.toStr v18) fun v19 =>
                                        Option.bind (St.ld σ y0 (10 : Nat)) fun v20 =>
                                          Option.bind (AV.toStr v20) fun v21 =>
                                            Option.bind (St.ld σ y0 (11 : Nat)) fun v22 =>
                                              Option.bind (AV.toStr v22) fun v23 =>
                                                K
                                                  (AV.tuple
                                                    [AV.agg
                                                        [AV.int IntKind.i64 v1, AV.int IntKind.i64 v3, AV.int IntKind.i64 v5, AV.int IntKind.i64 v7,
                                                          AV.int IntKind.i64 v9, AV.int IntKind.i64 v11, AV.int IntKind.i64 v13,
                                                          AV.int IntKind.i64 v15, AV.str v17, AV.str v19, AV.str v21, AV.str v23],
                                                      AV.bool y1])
                                                  σ := hide (by kernel_rfl)
attribute [go_sem] f18_eq f18n0 f18r1_f18e0 f18z0_f18e1 f18n2 f18r3_f18e2 f18z2_f18e3 f18n4 f18n5 f18r7_f18e4 f18z5_f18e5 f18x8_f18e7 f18n9 f18r11_f18e7 f18z9_f18e8 f18y12_f18e9 f18n10 f18z8_f18e7 f18z5_f18e6 f18z4_f18e10 f18n6 f18r13_f18e10 f18z6_f18e11 f18n14 f18r15_f18e11 f18z14_f18e12 f18n16 f18r17_f18e13 f18z16_f18e14 f18y18_f18e9 f18b_f18e9_r

noncomputable def f36rs : List ResultVar := []
noncomputable def f36c0 : Code := subCode [] (bodyOf Tryz.prog 36)
def f36a0 : Ann := subAnn [] ann36
noncomputable def f36c1 : Code := subCode [0] (bodyOf Tryz.prog 36)
def f36a1 : Ann := subAnn [0] ann36
noncomputable def f36c2 : Code := subCode [1] (bodyOf Tryz.prog 36)
def f36a2 : Ann := subAnn [1] ann36
noncomputable def f36c3 : Code := subCode [1, 0] (bodyOf Tryz.prog 36)
def f36a3 : Ann := subAnn [1, 0] ann36
noncomputable def f36c4 : Code := subCode [1, 1] (bodyOf Tryz.prog 36)
def f36a4 : Ann := subAnn [1, 1] ann36
def f36e0 (y0 : Int) (y1 : Option (Nat × Nat)) (y2 : Nat) : Env := AV.int IntKind.i64 y0 :: AV.ptr y1 :: AV.ptr (some (y2, (0 : Nat))) :: Env.sp 16 []
def f36e1 (y0 : Int) (y1 : Option (Nat × Nat)) (y2 : Nat) (y3 : Int) (y4 : Option (Nat × Nat)) (y5 : Nat) (y6 : Option Nat) (y7 : Int) (y8 : Bool) : Env := AV.int IntKind.i64 y0 :: AV.ptr y1 :: AV.ptr (some (y2, (0 : Nat))) :: Env.sp 2 (AV.int IntKind.i64 y3 :: AV.slice y4 y5 y6 (1 : Nat) :: AV.int IntKind.i64 y7 :: AV.bool y8 :: Env.sp 10 [])
def f36e2 (y0 : Int) (y1 : Option (Nat × Nat)) (y2 : Nat) (y3 : Bool) : Env := AV.int IntKind.i64 y0 :: AV.ptr y1 :: AV.ptr (some (y2, (0 : Nat))) :: Env.sp 5 (AV.bool y3 :: Env.sp 10 [])
def f36e3 (y0 : Int) (y1 : Option (Nat × Nat)) (y2 : Nat) (y3 : Bool) (y4 : Int) (y5 : Int) (y6 : Option (Nat × Nat)) (y7 : Option (Nat × Nat)) (y8 : Nat) (y9 : Option Nat) (y10 : Int) (y11 : Option (Nat × Nat)) (y12 : ByteArray) (y13 : Int) (y14 : Int) (y15 : Int) (y16 : Int) (y17 : Option (Nat × Nat)) : Env := AV.int IntKind.i64 y0 :: AV.ptr y1 :: AV.ptr (some (y2, (0 : Nat))) :: Env.sp 5 (AV.bool y3 :: AV.tuple [AV.int IntKind.i64 y4, AV.int IntKind.i64 y5] :: AV.ptr y6 :: AV.slice y7 y8 y9 (1 : Nat) :: AV.int IntKind.i64 y10 :: AV.ptr y11 :: AV.str y12 :: AV.tuple [AV.int IntKind.i64 y13, AV.int IntKind.i64 y14] :: AV.int IntKind.i64 y15 :: AV.int IntKind.i64 y16 :: AV.ptr y17 :: [])
def f36e4 : Env := Env.sp 19 []

/- function 36 -/
theorem f36_eq {R : Type} (call : Bool → CallF R) (dem : Bool) (N : Nat) (y0 : Int) (y1 : Option (Nat × Nat)) (y2 : Nat) (σ : St) (K : AV → St → Option R) :
    bodyK Tryz.prog call dem N ann 36 [AV.int IntKind.i64 y0, AV.ptr y1, AV.ptr (some (y2, (0 : Nat)))] σ K = runK Tryz.prog call dem N f36c0 f36a0 (bodyC Tryz.prog f36rs K) (f36e0 y0 y1 y2) σ := bodyK_of (fn := ((Tryz.prog.funcs[36]?).get rfl)) (by kernel_rfl) (by kernel_rfl) (by kernel_rfl) (by kernel_rfl) (by kernel_rfl) (by kernel_rfl)
theorem f36n0 {R : Type} (call : Bool → CallF R) (dem : Bool) (N : Nat) (J : KF R) (e : Env) (σ : St) : runK Tryz.prog call dem N f36c0 f36a0 J e σ = runK Tryz.prog call dem N f36c1 f36a1 (seqC (fun K e σ => runK Tryz.prog call dem N f36c2 f36a2 K e σ) f36a0 J) e σ := runK_seq' (by kernel_rfl) (by kernel_rfl) (by kernel_rfl)
theorem f36r1_f36e0 {R : Type} (call : Bool → CallF R) (dem : Bool) (N : Nat) (y0 : Int) (y1 : Option (Nat × Nat)) (y2 : Nat) (J : KF R) (σ : St) :
    runK Tryz.prog call dem N f36c1 f36a1 J (f36e0 y0 y1 y2) σ =
Option.bind (St.ld σ y2 (0 : Nat)) fun v0 =>
  Option.bind (AV.toSl (1 : Nat) v0) fun v1 =>
    J Ex.normal (f36e1 y0 y1 y2 y0 (Sl.o v1) (Sl.len v1) (Sl.cap v1) (↑(Sl.len v1) : Int) (decide (y0 < (↑(Sl.len v1) : Int)))) σ := hide (by kernel_rfl)
theorem f36z0_f36e1 (y0 : Int) (y1 : Option (Nat × Nat)) (y2 : Nat) (y3 : Int) (y4 : Option (Nat × Nat)) (y5 : Nat) (y6 : Option Nat) (y7 : Int) (y8 : Bool) : Ann.clr f36a0 (f36e1 y0 y1 y2 y3 y4 y5 y6 y7 y8) = f36e2 y0 y1 y2 y8 := hide (by kernel_rfl)
theorem f36x2_f36e2 {R : Type} (call : Bool → CallF R) (dem : Bool) (N : Nat) (y0 : Int) (y1 : Option (Nat × Nat)) (y2 : Nat) (y3 : Bool) (J : KF R) (σ : St) : runK Tryz.prog call dem N f36c2 f36a2 J (f36e2 y0 y1 y2 y3) σ = if y3 = true then runK Tryz.prog call dem N f36c3 f36a3 (condC f36a2 J) (f36e2 y0 y1 y2 y3) σ else runK Tryz.prog call dem N f36c4 f36a4 (condC f36a2 J) (f36e2 y0 y1 y2 y3) σ := runK_cond' (o := Operand.tmp (8 : Nat)) (by kernel_rfl) (by kernel_rfl) (by kernel_rfl) (by kernel_rfl)
theorem f36r3_f36e2 {R : Type} (call : Bool → CallF R) (dem : Bool) (N : Nat) (y0 : Int) (y1 : Option (Nat × Nat)) (y2 : Nat) (y3 : Bool) (J : KF R) (σ : St) :
    runK Tryz.prog call dem N f36c3 f36a3 J (f36e2 y0 y1 y2 y3) σ =
Option.bind (St.ld σ y2 (0 : Nat)) fun v0 =>
  Option.bind (AV.toSl (1 : Nat) v0) fun v1 =>
    if (0 : Int) ≤ y0 ∧ y0 < (↑(Sl.len v1) : Int) then
      Option.bind (Sl.o v1) fun v2 =>
        Option.bind (St.ld σ (Prod.fst v2) (Prod.snd v2 + Int.toNat y0 * (1 : Nat))) fun v3 =>
          Option.bind (AV.toStr v3) fun v4 =>
            call dem (35 : Nat) [AV.str v4] σ fun v5 v6 =>
              Option.bind (AV.toTuple v5) fun v7 =>
                if List.length v7 = (2 : Nat) then
                  Option.bind (List.head? v7) fun v8 =>
                    Option.bind (AV.toInt IntKind.i64 v8) fun v9 =>
                      Option.bind (List.head? (List.tail v7)) fun v10 =>
                        Option.bind (AV.toInt IntKind.i64 v10) fun v11 =>
                          Option.bind y1 fun v12 =>
                            Option.bind (St.st v6 (Prod.fst v12) (Prod.snd v12) [AV.int IntKind.i64 v9]) fun v13 =>
                              J Ex.normal
                                (f36e3 y0 y1 y2 y3 v9 v11 y1 (Sl.o v1) (Sl.len v1) (Sl.cap v1) y0
                                  (some (Prod.fst v2, Prod.snd v2 + Int.toNat y0 * (1 : Nat))) v4 v9 v11 v9 v11 (some v12))
                                v13
                else none
    else none := hide (by kernel_rfl)
theorem f36z2_f36e3 (y0 : Int) (y1 : Option (Nat × Nat)) (y2 : Nat) (y3 : Bool) (y4 : Int) (y5 : Int) (y6 : Option (Nat × Nat)) (y7 : Option (Nat × Nat)) (y8 : Nat) (y9 : Option Nat) (y10 : Int) (y11 : Option (Nat × Nat)) (y12 : ByteArray) (y13 : Int) (y14 : Int) (y15 : Int) (y16 : Int) (y17 : Option (Nat × Nat)) : Ann.clr f36a2 (f36e3 y0 y1 y2 y3 y4 y5 y6 y7 y8 y9 y10 y11 y12 y13 y14 y15 y16 y17) = f36e4 := hide (by kernel_rfl)
theorem f36n4 {R : Type} (call : Bool → CallF R) (dem : Bool) (N : Nat) (J : KF R) (e : Env) (σ : St) : runK Tryz.prog call dem N f36c4 f36a4 J e σ = J .normal e σ := runK_skip' (by kernel_rfl)
theorem f36z2_f36e2 (y0 : Int) (y1 : Option (Nat × Nat)) (y2 : Nat) (y3 : Bool) : Ann.clr f36a2 (f36e2 y0 y1 y2 y3) = f36e4 := hide (by kernel_rfl)
theorem f36b_f36e4_n {R : Type} (σ : St) (K : AV → St → Option R) : bodyC Tryz.prog f36rs K (Ex.normal) (f36e4) σ =
K (AV.tuple []) σ := hide (by kernel_rfl)
attribute [go_sem] f36_eq f36n0 f36r1_f36e0 f36z0_f36e1 f36x2_f36e2 f36r3_f36e2 f36z2_f36e3 f36n4 f36z2_f36e2 f36b_f36e4_n

noncomputable def f37rs : List ResultVar := []
noncomputable def f37c0 : Code := subCode [] (bodyOf Tryz.prog 37)
def f37a0 : Ann := subAnn [] ann37
noncomputable def f37c1 : Code := subCode [0] (bodyOf Tryz.prog 37)
def f37a1 : Ann := subAnn [0] ann37
noncomputable def f37c2 : Code := subCode [1] (bodyOf Tryz.prog 37)
def f37a2 : Ann := subAnn [1] ann37
noncomputable def f37c3 : Code := subCode [1, 0] (bodyOf Tryz.prog 37)
def f37a3 : Ann := subAnn [1, 0] ann37
noncomputable def f37c4 : Code := subCode [1, 1] (bodyOf Tryz.prog 37)
def f37a4 : Ann := subAnn [1, 1] ann37
def f37e0 (y0 : Int) (y1 : Option (Nat × Nat)) (y2 : Nat) : Env := AV.int IntKind.i64 y0 :: AV.ptr y1 :: AV.ptr (some (y2, (0 : Nat))) :: Env.sp 12 []
def f37e1 (y0 : Int) (y1 : Option (Nat × Nat)) (y2 : Nat) (y3 : Int) (y4 : Option (Nat × Nat)) (y5 : Nat) (y6 : Option Nat) (y7 : Int) (y8 : Bool) : Env := AV.int IntKind.i64 y0 :: AV.ptr y1 :: AV.ptr (some (y2, (0 : Nat))) :: Env.sp 2 (AV.int IntKind.i64 y3 :: AV.slice y4 y5 y6 (1 : Nat) :: AV.int IntKind.i64 y7 :: AV.bool y8 :: Env.sp 6 [])
def f37e2 (y0 : Int) (y1 : Option (Nat × Nat)) (y2 : Nat) (y3 : Bool) : Env := AV.int IntKind.i64 y0 :: AV.ptr y1 :: AV.ptr (some (y2, (0 : Nat))) :: Env.sp 5 (AV.bool y3 :: Env.sp 6 [])
def f37e3 (y0 : Int) (y1 : Option (Nat × Nat)) (y2 : Nat) (y3 : Bool) (y4 : Option (Nat × Nat)) (y5 : Option (Nat × Nat)) (y6 : Nat) (y7 : Option Nat) (y8 : Int) (y9 : Option (Nat × Nat)) (y10 : ByteArray) (y11 : Option (Nat × Nat)) : Env := AV.int IntKind.i64 y0 :: AV.ptr y1 :: AV.ptr (some (y2, (0 : Nat))) :: Env.sp 5 (AV.bool y3 :: AV.ptr y4 :: AV.slice y5 y6 y7 (1 : Nat) :: AV.int IntKind.i64 y8 :: AV.ptr y9 :: AV.str y10 :: AV.ptr y11 :: [])
def f37e4 : Env := Env.sp 15 []

/- function 37 -/
theorem f37_eq {R : Type} (call : Bool → CallF R) (dem : Bool) (N : Nat) (y0 : Int) (y1 : Option (Nat × Nat)) (y2 : Nat) (σ : St) (K : AV → St → Option R) :
    bodyK Tryz.prog call dem N ann 37 [AV.int IntKind.i64 y0, AV.ptr y1, AV.ptr (some (y2, (0 : Nat)))] σ K = runK Tryz.prog call dem N f37c0 f37a0 (bodyC Tryz.prog f37rs K) (f37e0 y0 y1 y2) σ := bodyK_of (fn := ((Tryz.prog.funcs[37]?).get rfl)) (by kernel_rfl) (by kernel_rfl) (by kernel_rfl) (by kernel_rfl) (by kernel_rfl) (by kernel_rfl)
theorem f37n0 {R : Type} (call : Bool → CallF R) (dem : Bool) (N : Nat) (J : KF R) (e : Env) (σ : St) : runK Tryz.prog call dem N f37c0 f37a0 J e σ = runK Tryz.prog call dem N f37c1 f37a1 (seqC (fun K e σ => runK Tryz.prog call dem N f37c2 f37a2 K e σ) f37a0 J) e σ := runK_seq' (by kernel_rfl) (by kernel_rfl) (by kernel_rfl)
theorem f37r1_f37e0 {R : Type} (call : Bool → CallF R) (dem : Bool) (N : Nat) (y0 : Int) (y1 : Option (Nat × Nat)) (y2 : Nat) (J : KF R) (σ : St) :
    runK Tryz.prog call dem N f37c1 f37a1 J (f37e0 y0 y1 y2) σ =
Option.bind (St.ld σ y2 (0 : Nat)) fun v0 =>
  Option.bind (AV.toSl (1 : Nat) v0) fun v1 =>
    J Ex.normal (f37e1 y0 y1 y2 y0 (Sl.o v1) (Sl.len v1) (Sl.cap v1) (↑(Sl.len v1) : Int) (decide (y0 < (↑(Sl.len v1) : Int)))) σ := hide (by kernel_rfl)
theorem f37z0_f37e1 (y0 : Int) (y1 : Option (Nat × Nat)) (y2 : Nat) (y3 : Int) (y4 : Option (Nat × Nat)) (y5 : Nat) (y6 : Option Nat) (y7 : Int) (y8 : Bool) : Ann.clr f37a0 (f37e1 y0 y1 y2 y3 y4 y5 y6 y7 y8) = f37e2 y0 y1 y2 y8 := hide (by kernel_rfl)
theorem f37x2_f37e2 {R : Type} (call : Bool → CallF R) (dem : Bool) (N : Nat) (y0 : Int) (y1 : Option (Nat × Nat)) (y2 : Nat) (y3 : Bool) (J : KF R) (σ : St) : runK Tryz.prog call dem N f37c2 f37a2 J (f37e2 y0 y1 y2 y3) σ = if y3 = true then runK Tryz.prog call dem N f37c3 f37a3 (condC f37a2 J) (f37e2 y0 y1 y2 y3) σ else runK Tryz.prog call dem N f37c4 f37a4 (condC f37a2 J) (f37e2 y0 y1 y2 y3) σ := runK_cond' (o := Operand.tmp (8 : Nat)) (by kernel_rfl) (by kernel_rfl) (by kernel_rfl) (by kernel_rfl)
theorem f37r3_f37e2 {R : Type} (call : Bool → CallF R) (dem : Bool) (N : Nat) (y0 : Int) (y1 : Option (Nat × Nat)) (y2 : Nat) (y3 : Bool) (J : KF R) (σ : St) :
    runK Tryz.prog call dem N f37c3 f37a3 J (f37e2 y0 y1 y2 y3) σ =
Option.bind (St.ld σ y2 (0 : Nat)) fun v0 =>
  Option.bind (AV.toSl (1 : Nat) v0) fun v1 =>
    if (0 : Int) ≤ y0 ∧ y0 < (↑(Sl.len v1) : Int) then
      Option.bind (Sl.o v1) fun v2 =>
        Option.bind (St.ld σ (Prod.fst v2) (Prod.snd v2 + Int.toNat y0 * (1 : Nat))) fun v3 =>
          Option.bind (AV.toStr v3) fun v4 =>
            Option.bind y1 fun v5 =>
              Option.bind (St.st σ (Prod.fst v5) (Prod.snd v5) [AV.str v4]) fun v6 =>
                J Ex.normal
                  (f37e3 y0 y1 y2 y3 y1 (Sl.o v1) (Sl.len v1) (Sl.cap v1) y0 (some (Prod.fst v2, Prod.snd v2 + Int.toNat y0 * (1 : Nat))) v4
                    (some v5))
                  v6
    else none := hide (by kernel_rfl)
theorem f37z2_f37e3 (y0 : Int) (y1 : Option (Nat × Nat)) (y2 : Nat) (y3 : Bool) (y4 : Option (Nat × Nat)) (y5 : Option (Nat × Nat)) (y6 : Nat) (y7 : Option Nat) (y8 : Int) (y9 : Option (Nat × Nat)) (y10 : ByteArray) (y11 : Option (Nat × Nat)) : Ann.clr f37a2 (f37e3 y0 y1 y2 y3 y4 y5 y6 y7 y8 y9 y10 y11) = f37e4 := hide (by kernel_rfl)
theorem f37n4 {R : Type} (call : Bool → CallF R) (dem : Bool) (N : Nat) (J : KF R) (e : Env) (σ : St) : runK Tryz.prog call dem N f37c4 f37a4 J e σ = J .normal e σ := runK_skip' (by kernel_rfl)
theorem f37z2_f37e2 (y0 : Int) (y1 : Option (Nat × Nat)) (y2 : Nat) (y3 : Bool) : Ann.clr f37a2 (f37e2 y0 y1 y2 y3) = f37e4 := hide (by kernel_rfl)
theorem f37b_f37e4_n {R : Type} (σ : St) (K : AV → St → Option R) : bodyC Tryz.prog f37rs K (Ex.normal) (f37e4) σ =
K (AV.tuple []) σ := hide (by kernel_rfl)
attribute [go_sem] f37_eq f37n0 f37r1_f37e0 f37z0_f37e1 f37x2_f37e2 f37r3_f37e2 f37z2_f37e3 f37n4 f37z2_f37e2 f37b_f37e4_n

end Go.Proofs.YtnjhcfcnpapaiaaGreatDoor
