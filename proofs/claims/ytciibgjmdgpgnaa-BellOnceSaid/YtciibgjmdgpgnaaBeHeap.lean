/- What the machine does with each piece of code, in plain text. PRINTED by a program of this workplace; Lean checks it. -/
import Derived.Test.YtciibgjmdgpgnaaBeAnn
import Derived.Test.YtciibgjmdgpgnaaProg
import Derived.KernelRfl
import Derived.Attr
namespace Go.Proofs.Ytciibgjmdgpgnaa
open Go.AM
set_option maxRecDepth 100000
set_option linter.unusedVariables false
noncomputable def f21rs : List ResultVar := []
noncomputable def f21c0 : Code := subCode [] (bodyOf Try.prog 21)
def f21a0 : Ann := subAnn [] ann21
noncomputable def f21c1 : Code := subCode [0] (bodyOf Try.prog 21)
def f21a1 : Ann := subAnn [0] ann21
noncomputable def f21c2 : Code := subCode [1] (bodyOf Try.prog 21)
def f21a2 : Ann := subAnn [1] ann21
def f21e0 (y0 : Nat) (y1 : Int) (y2 : Int) (y3 : Int) (y4 : Int) : Env := AV.iface (59 : Nat) (AV.ptr (some (y0, (2 : Nat)))) :: AV.iface (52 : Nat) (AV.agg [AV.int IntKind.i64 y1, AV.int IntKind.i64 y2, AV.int IntKind.i64 y3, AV.int IntKind.i64 y4]) :: Env.sp 10 []
def f21e1 (y0 : Nat) (y1 : Int) (y2 : Int) (y3 : Int) (y4 : Int) (y5 : Nat) (y6 : Int) (y7 : Int) (y8 : Int) (y9 : Int) : Env := AV.iface (59 : Nat) (AV.ptr (some (y0, (2 : Nat)))) :: AV.iface (52 : Nat) (AV.agg [AV.int IntKind.i64 y1, AV.int IntKind.i64 y2, AV.int IntKind.i64 y3, AV.int IntKind.i64 y4]) :: Env.sp 2 (AV.iface (59 : Nat) (AV.ptr (some (y5, (2 : Nat)))) :: AV.iface (52 : Nat) (AV.agg [AV.int IntKind.i64 y6, AV.int IntKind.i64 y7, AV.int IntKind.i64 y8, AV.int IntKind.i64 y9]) :: AV.tuple [] :: Env.sp 5 [])
def f21e2 (y0 : Nat) : Env := AV.iface (59 : Nat) (AV.ptr (some (y0, (2 : Nat)))) :: Env.sp 11 []
def f21e3 (y0 : Nat) (y1 : Nat) (y2 : Nat) (y3 : Int) (y4 : Int) : Env := AV.iface (59 : Nat) (AV.ptr (some (y0, (2 : Nat)))) :: Env.sp 6 (AV.iface (59 : Nat) (AV.ptr (some (y1, (2 : Nat)))) :: AV.iface (59 : Nat) (AV.ptr (some (y2, (2 : Nat)))) :: AV.int IntKind.i64 y3 :: AV.int IntKind.i64 y4 :: AV.tuple [] :: [])

/- function 21 -/
theorem f21_eq {R : Type} (call : Bool → CallF R) (dem : Bool) (N : Nat) (y0 : Nat) (y1 : Int) (y2 : Int) (y3 : Int) (y4 : Int) (σ : St) (K : AV → St → Option R) :
    bodyK Try.prog call dem N ann 21 [AV.iface (59 : Nat) (AV.ptr (some (y0, (2 : Nat)))),
  AV.iface (52 : Nat) (AV.agg [AV.int IntKind.i64 y1, AV.int IntKind.i64 y2, AV.int IntKind.i64 y3, AV.int IntKind.i64 y4])] σ K = runK Try.prog call dem N f21c0 f21a0 (bodyC Try.prog f21rs K) (f21e0 y0 y1 y2 y3 y4) σ := bodyK_of (fn := ((Try.prog.funcs[21]?).get rfl)) (by kernel_rfl) (by kernel_rfl) (by kernel_rfl) (by kernel_rfl) (by kernel_rfl) (by kernel_rfl)
theorem f21n0 {R : Type} (call : Bool → CallF R) (dem : Bool) (N : Nat) (J : KF R) (e : Env) (σ : St) : runK Try.prog call dem N f21c0 f21a0 J e σ = runK Try.prog call dem N f21c1 f21a1 (seqC (fun K e σ => runK Try.prog call dem N f21c2 f21a2 K e σ) f21a0 J) e σ := runK_seq' (by kernel_rfl) (by kernel_rfl) (by kernel_rfl)
theorem f21r1_f21e0 {R : Type} (call : Bool → CallF R) (dem : Bool) (N : Nat) (y0 : Nat) (y1 : Int) (y2 : Int) (y3 : Int) (y4 : Int) (J : KF R) (σ : St) :
    runK Try.prog call dem N f21c1 f21a1 J (f21e0 y0 y1 y2 y3 y4) σ =
call dem (53 : Nat)
  [AV.ptr (some (y0, (2 : Nat))),
    AV.iface (52 : Nat) (AV.agg [AV.int IntKind.i64 y1, AV.int IntKind.i64 y2, AV.int IntKind.i64 y3, AV.int IntKind.i64 y4])]
  σ fun v0 v1 =>
  Option.bind (AV.toTuple v0) fun v2 => if List.length v2 = (0 : Nat) then J Ex.normal (f21e1 y0 y1 y2 y3 y4 y0 y1 y2 y3 y4) v1 else none := hide (by kernel_rfl)
theorem f21z0_f21e1 (y0 : Nat) (y1 : Int) (y2 : Int) (y3 : Int) (y4 : Int) (y5 : Nat) (y6 : Int) (y7 : Int) (y8 : Int) (y9 : Int) : Ann.clr f21a0 (f21e1 y0 y1 y2 y3 y4 y5 y6 y7 y8 y9) = f21e2 y0 := hide (by kernel_rfl)
theorem f21r2_f21e2 {R : Type} (call : Bool → CallF R) (dem : Bool) (N : Nat) (y0 : Nat) (J : KF R) (σ : St) :
    runK Try.prog call dem N f21c2 f21a2 J (f21e2 y0) σ =
Option.bind (St.ld σ y0 (2 : Nat)) fun v0 =>
  Option.bind (AV.toSl (4 : Nat) v0) fun v1 =>
    call dem (49 : Nat) [AV.slice (Sl.o v1) (Sl.len v1) (Sl.cap v1) (4 : Nat)] σ fun v2 v3 =>
      Option.bind (AV.toInt IntKind.i64 v2) fun v4 =>
        call dem (29 : Nat) [AV.iface (59 : Nat) (AV.ptr (some (y0, (2 : Nat)))), AV.int IntKind.i64 (IntKind.wrap IntKind.i64 (v4 - (1 : Int)))] v3
          fun v5 v6 =>
          Option.bind (AV.toTuple v5) fun v7 =>
            if List.length v7 = (0 : Nat) then J Ex.normal (f21e3 y0 y0 y0 v4 (IntKind.wrap IntKind.i64 (v4 - (1 : Int)))) v6 else none := hide (by kernel_rfl)
theorem f21b_f21e3_n {R : Type} (y0 : Nat) (y1 : Nat) (y2 : Nat) (y3 : Int) (y4 : Int) (σ : St) (K : AV → St → Option R) : bodyC Try.prog f21rs K (Ex.normal) (f21e3 y0 y1 y2 y3 y4) σ =
K (AV.tuple []) σ := hide (by kernel_rfl)
attribute [go_sem] f21_eq f21n0 f21r1_f21e0 f21z0_f21e1 f21r2_f21e2 f21b_f21e3_n

noncomputable def f24rs : List ResultVar := [ResultVar.tmp (2 : Nat)]
noncomputable def f24c0 : Code := subCode [] (bodyOf Try.prog 24)
def f24a0 : Ann := subAnn [] ann24
noncomputable def f24c1 : Code := subCode [0] (bodyOf Try.prog 24)
def f24a1 : Ann := subAnn [0] ann24
noncomputable def f24c2 : Code := subCode [1] (bodyOf Try.prog 24)
def f24a2 : Ann := subAnn [1] ann24
noncomputable def f24c3 : Code := subCode [1, 0] (bodyOf Try.prog 24)
def f24a3 : Ann := subAnn [1, 0] ann24
noncomputable def f24c4 : Code := subCode [1, 1] (bodyOf Try.prog 24)
def f24a4 : Ann := subAnn [1, 1] ann24
noncomputable def f24c5 : Code := subCode [1, 1, 0] (bodyOf Try.prog 24)
def f24a5 : Ann := subAnn [1, 1, 0] ann24
noncomputable def f24c6 : Code := subCode [1, 1, 1] (bodyOf Try.prog 24)
def f24a6 : Ann := subAnn [1, 1, 1] ann24
noncomputable def f24c7 : Code := subCode [1, 1, 1, 0] (bodyOf Try.prog 24)
def f24a7 : Ann := subAnn [1, 1, 1, 0] ann24
noncomputable def f24c8 : Code := subCode [1, 1, 1, 1] (bodyOf Try.prog 24)
def f24a8 : Ann := subAnn [1, 1, 1, 1] ann24
noncomputable def f24c9 : Code := subCode [1, 1, 1, 1, 0] (bodyOf Try.prog 24)
def f24a9 : Ann := subAnn [1, 1, 1, 1, 0] ann24
noncomputable def f24c10 : Code := subCode [1, 1, 1, 1, 1] (bodyOf Try.prog 24)
def f24a10 : Ann := subAnn [1, 1, 1, 1, 1] ann24
def f24e0 (y0 : Nat) : Env := AV.iface (59 : Nat) (AV.ptr (some (y0, (2 : Nat)))) :: Env.sp 14 []
def f24e1 (y0 : Nat) : Env := AV.iface (59 : Nat) (AV.ptr (some (y0, (2 : Nat)))) :: Env.sp 1 (AV.nilIface :: Env.sp 12 [])
def f24e2 (y0 : Nat) (y1 : Int) (y2 : Nat) (y3 : Int) (y4 : Int) : Env := AV.iface (59 : Nat) (AV.ptr (some (y0, (2 : Nat)))) :: Env.sp 2 (AV.int IntKind.i64 y1 :: AV.iface (59 : Nat) (AV.ptr (some (y2, (2 : Nat)))) :: AV.int IntKind.i64 y3 :: AV.int IntKind.i64 y4 :: Env.sp 8 [])
def f24e3 (y0 : Nat) (y1 : Int) : Env := AV.iface (59 : Nat) (AV.ptr (some (y0, (2 : Nat)))) :: Env.sp 2 (AV.int IntKind.i64 y1 :: Env.sp 11 [])
def f24e4 (y0 : Nat) (y1 : Int) (y2 : Nat) (y3 : Int) : Env := AV.iface (59 : Nat) (AV.ptr (some (y0, (2 : Nat)))) :: Env.sp 2 (AV.int IntKind.i64 y1 :: Env.sp 3 (AV.iface (59 : Nat) (AV.ptr (some (y2, (2 : Nat)))) :: AV.int IntKind.i64 y3 :: AV.tuple [] :: Env.sp 5 []))
def f24e5 (y0 : Nat) (y1 : Int) (y2 : Nat) (y3 : Int) (y4 : Bool) : Env := AV.iface (59 : Nat) (AV.ptr (some (y0, (2 : Nat)))) :: Env.sp 2 (AV.int IntKind.i64 y1 :: Env.sp 6 (AV.iface (59 : Nat) (AV.ptr (some (y2, (2 : Nat)))) :: AV.int IntKind.i64 y3 :: AV.bool y4 :: Env.sp 2 []))
def f24e6 (y0 : Nat) (y1 : AV) (y2 : Nat) (y3 : AV) : Env := AV.iface (59 : Nat) (AV.ptr (some (y0, (2 : Nat)))) :: Env.sp 1 (y1 :: Env.sp 10 (AV.iface (59 : Nat) (AV.ptr (some (y2, (2 : Nat)))) :: y3 :: []))
def f24e7 (y0 : AV) : Env := Env.sp 2 (y0 :: Env.sp 12 [])

/- function 24 -/
theorem f24_eq {R : Type} (call : Bool → CallF R) (dem : Bool) (N : Nat) (y0 : Nat) (σ : St) (K : AV → St → Option R) :
    bodyK Try.prog call dem N ann 24 [AV.iface (59 : Nat) (AV.ptr (some (y0, (2 : Nat))))] σ K = runK Try.prog call dem N f24c0 f24a0 (bodyC Try.prog f24rs K) (f24e0 y0) σ := bodyK_of (fn := ((Try.prog.funcs[24]?).get rfl)) (by kernel_rfl) (by kernel_rfl) (by kernel_rfl) (by kernel_rfl) (by kernel_rfl) (by kernel_rfl)
theorem f24n0 {R : Type} (call : Bool → CallF R) (dem : Bool) (N : Nat) (J : KF R) (e : Env) (σ : St) : runK Try.prog call dem N f24c0 f24a0 J e σ = runK Try.prog call dem N f24c1 f24a1 (seqC (fun K e σ => runK Try.prog call dem N f24c2 f24a2 K e σ) f24a0 J) e σ := runK_seq' (by kernel_rfl) (by kernel_rfl) (by kernel_rfl)
theorem f24r1_f24e0 {R : Type} (call : Bool → CallF R) (dem : Bool) (N : Nat) (y0 : Nat) (J : KF R) (σ : St) :
    runK Try.prog call dem N f24c1 f24a1 J (f24e0 y0) σ =
J Ex.normal (f24e1 y0) σ := hide (by kernel_rfl)
theorem f24z0_f24e1 (y0 : Nat) : Ann.clr f24a0 (f24e1 y0) = f24e0 y0 := hide (by kernel_rfl)
theorem f24n2 {R : Type} (call : Bool → CallF R) (dem : Bool) (N : Nat) (J : KF R) (e : Env) (σ : St) : runK Try.prog call dem N f24c2 f24a2 J e σ = runK Try.prog call dem N f24c3 f24a3 (seqC (fun K e σ => runK Try.prog call dem N f24c4 f24a4 K e σ) f24a2 J) e σ := runK_seq' (by kernel_rfl) (by kernel_rfl) (by kernel_rfl)
theorem f24r3_f24e0 {R : Type} (call : Bool → CallF R) (dem : Bool) (N : Nat) (y0 : Nat) (J : KF R) (σ : St) :
    runK Try.prog call dem N f24c3 f24a3 J (f24e0 y0) σ =
Option.bind (St.ld σ y0 (2 : Nat)) fun v0 =>
  Option.bind (AV.toSl (4 : Nat) v0) fun v1 =>
    call dem (49 : Nat) [AV.slice (Sl.o v1) (Sl.len v1) (Sl.cap v1) (4 : Nat)] σ fun v2 v3 =>
      Option.bind (AV.toInt IntKind.i64 v2) fun v4 =>
        J Ex.normal (f24e2 y0 (IntKind.wrap IntKind.i64 (v4 - (1 : Int))) y0 v4 (IntKind.wrap IntKind.i64 (v4 - (1 : Int)))) v3 := hide (by kernel_rfl)
theorem f24z2_f24e2 (y0 : Nat) (y1 : Int) (y2 : Nat) (y3 : Int) (y4 : Int) : Ann.clr f24a2 (f24e2 y0 y1 y2 y3 y4) = f24e3 y0 y1 := hide (by kernel_rfl)
theorem f24n4 {R : Type} (call : Bool → CallF R) (dem : Bool) (N : Nat) (J : KF R) (e : Env) (σ : St) : runK Try.prog call dem N f24c4 f24a4 J e σ = runK Try.prog call dem N f24c5 f24a5 (seqC (fun K e σ => runK Try.prog call dem N f24c6 f24a6 K e σ) f24a4 J) e σ := runK_seq' (by kernel_rfl) (by kernel_rfl) (by kernel_rfl)
theorem f24r5_f24e3 {R : Type} (call : Bool → CallF R) (dem : Bool) (N : Nat) (y0 : Nat) (y1 : Int) (J : KF R) (σ : St) :
    runK Try.prog call dem N f24c5 f24a5 J (f24e3 y0 y1) σ =
Option.bind (St.ld σ y0 (2 : Nat)) fun v0 =>
  Option.bind (AV.toSl (4 : Nat) v0) fun v1 =>
    call dem (51 : Nat) [AV.slice (Sl.o v1) (Sl.len v1) (Sl.cap v1) (4 : Nat), AV.int IntKind.i64 (0 : Int), AV.int IntKind.i64 y1] σ fun v2 v3 =>
      Option.bind (AV.toTuple v2) fun v4 => if List.length v4 = (0 : Nat) then J Ex.normal (f24e4 y0 y1 y0 y1) v3 else none := hide (by kernel_rfl)
theorem f24z4_f24e4 (y0 : Nat) (y1 : Int) (y2 : Nat) (y3 : Int) : Ann.clr f24a4 (f24e4 y0 y1 y2 y3) = f24e3 y0 y1 := hide (by kernel_rfl)
theorem f24n6 {R : Type} (call : Bool → CallF R) (dem : Bool) (N : Nat) (J : KF R) (e : Env) (σ : St) : runK Try.prog call dem N f24c6 f24a6 J e σ = runK Try.prog call dem N f24c7 f24a7 (seqC (fun K e σ => runK Try.prog call dem N f24c8 f24a8 K e σ) f24a6 J) e σ := runK_seq' (by kernel_rfl) (by kernel_rfl) (by kernel_rfl)
theorem f24r7_f24e3 {R : Type} (call : Bool → CallF R) (dem : Bool) (N : Nat) (y0 : Nat) (y1 : Int) (J : KF R) (σ : St) :
    runK Try.prog call dem N f24c7 f24a7 J (f24e3 y0 y1) σ =
call dem (30 : Nat) [AV.iface (59 : Nat) (AV.ptr (some (y0, (2 : Nat)))), AV.int IntKind.i64 (0 : Int), AV.int IntKind.i64 y1] σ fun v0 v1 =>
  Option.bind (AV.toBool v0) fun v2 => J Ex.normal (f24e5 y0 y1 y0 y1 v2) v1 := hide (by kernel_rfl)
theorem f24z6_f24e5 (y0 : Nat) (y1 : Int) (y2 : Nat) (y3 : Int) (y4 : Bool) : Ann.clr f24a6 (f24e5 y0 y1 y2 y3 y4) = f24e0 y0 := hide (by kernel_rfl)
theorem f24n8 {R : Type} (call : Bool → CallF R) (dem : Bool) (N : Nat) (J : KF R) (e : Env) (σ : St) : runK Try.prog call dem N f24c8 f24a8 J e σ = runK Try.prog call dem N f24c9 f24a9 (seqC (fun K e σ => runK Try.prog call dem N f24c10 f24a10 K e σ) f24a8 J) e σ := runK_seq' (by kernel_rfl) (by kernel_rfl) (by kernel_rfl)
theorem f24r9_f24e0 {R : Type} (call : Bool → CallF R) (dem : Bool) (N : Nat) (y0 : Nat) (J : KF R) (σ : St) :
    runK Try.prog call dem N f24c9 f24a9 J (f24e0 y0) σ =
call dem (52 : Nat) [AV.ptr (some (y0, (2 : Nat)))] σ fun v0 v1 => if AV.one v0 = true then J Ex.normal (f24e6 y0 v0 y0 v0) v1 else none := hide (by kernel_rfl)
theorem f24z8_f24e6 (y0 : Nat) (y1 : AV) (y2 : Nat) (y3 : AV) : Ann.clr f24a8 (f24e6 y0 y1 y2 y3) = f24e7 y1 := hide (by kernel_rfl)
theorem f24y10_f24e7 {R : Type} (call : Bool → CallF R) (dem : Bool) (N : Nat) (y0 : AV) (J : KF R) (σ : St) : runK Try.prog call dem N f24c10 f24a10 J (f24e7 y0) σ = J .ret (f24e7 y0) σ := runK_ret' (by kernel_rfl) (by kernel_rfl)
theorem f24b_f24e7_r {R : Type} (y0 : AV) (σ : St) (K : AV → St → Option R) : bodyC Try.prog f24rs K (Ex.ret) (f24e7 y0) σ =
K y0 σ := hide (by kernel_rfl)
attribute [go_sem] f24_eq f24n0 f24r1_f24e0 f24z0_f24e1 f24n2 f24r3_f24e0 f24z2_f24e2 f24n4 f24r5_f24e3 f24z4_f24e4 f24n6 f24r7_f24e3 f24z6_f24e5 f24n8 f24r9_f24e0 f24z8_f24e6 f24y10_f24e7 f24b_f24e7_r

noncomputable def f29rs : List ResultVar := []
noncomputable def f29c0 : Code := subCode [] (bodyOf Try.prog 29)
def f29a0 : Ann := subAnn [] ann29
noncomputable def f29c1 : Code := subCode [0] (bodyOf Try.prog 29)
def f29a1 : Ann := subAnn [0] ann29
noncomputable def f29c2 : Code := subCode [0, 0] (bodyOf Try.prog 29)
def f29a2 : Ann := subAnn [0, 0] ann29
noncomputable def f29c3 : Code := subCode [0, 0, 0] (bodyOf Try.prog 29)
def f29a3 : Ann := subAnn [0, 0, 0] ann29
noncomputable def f29c4 : Code := subCode [0, 0, 0, 0] (bodyOf Try.prog 29)
def f29a4 : Ann := subAnn [0, 0, 0, 0] ann29
noncomputable def f29c5 : Code := subCode [0, 0, 0, 1] (bodyOf Try.prog 29)
def f29a5 : Ann := subAnn [0, 0, 0, 1] ann29
noncomputable def f29c6 : Code := subCode [0, 0, 0, 1, 0] (bodyOf Try.prog 29)
def f29a6 : Ann := subAnn [0, 0, 0, 1, 0] ann29
noncomputable def f29c7 : Code := subCode [0, 0, 0, 1, 1] (bodyOf Try.prog 29)
def f29a7 : Ann := subAnn [0, 0, 0, 1, 1] ann29
noncomputable def f29c8 : Code := subCode [0, 0, 0, 1, 0, 0] (bodyOf Try.prog 29)
def f29a8 : Ann := subAnn [0, 0, 0, 1, 0, 0] ann29
noncomputable def f29c9 : Code := subCode [0, 0, 0, 1, 0, 1] (bodyOf Try.prog 29)
def f29a9 : Ann := subAnn [0, 0, 0, 1, 0, 1] ann29
noncomputable def f29c10 : Code := subCode [0, 0, 0, 1, 0, 1, 0] (bodyOf Try.prog 29)
def f29a10 : Ann := subAnn [0, 0, 0, 1, 0, 1, 0] ann29
noncomputable def f29c11 : Code := subCode [0, 0, 0, 1, 0, 1, 1] (bodyOf Try.prog 29)
def f29a11 : Ann := subAnn [0, 0, 0, 1, 0, 1, 1] ann29
noncomputable def f29c12 : Code := subCode [0, 0, 0, 1, 1, 0] (bodyOf Try.prog 29)
def f29a12 : Ann := subAnn [0, 0, 0, 1, 1, 0] ann29
noncomputable def f29c13 : Code := subCode [0, 0, 0, 1, 1, 1] (bodyOf Try.prog 29)
def f29a13 : Ann := subAnn [0, 0, 0, 1, 1, 1] ann29
noncomputable def f29L1 {R : Type} (call : Bool → CallF R) (dem : Bool) (N : Nat) : KF R → Env → St → Option R := fun K e σ => runK Try.prog call dem N f29c2 f29a2 K e σ
def f29e0 (y0 : Nat) (y1 : Int) : Env := AV.iface (59 : Nat) (AV.ptr (some (y0, (2 : Nat)))) :: AV.int IntKind.i64 y1 :: Env.sp 21 []
def f29e1 (y0 : Nat) (y1 : Int) (y2 : Int) (y3 : Int) (y4 : Int) (y5 : Int) : Env := AV.iface (59 : Nat) (AV.ptr (some (y0, (2 : Nat)))) :: AV.int IntKind.i64 y1 :: Env.sp 2 (AV.int IntKind.i64 y2 :: AV.int IntKind.i64 y3 :: AV.int IntKind.i64 y4 :: AV.int IntKind.i64 y5 :: Env.sp 15 [])
def f29e2 (y0 : Nat) (y1 : Int) (y2 : Int) : Env := AV.iface (59 : Nat) (AV.ptr (some (y0, (2 : Nat)))) :: AV.int IntKind.i64 y1 :: Env.sp 2 (AV.int IntKind.i64 y2 :: Env.sp 18 [])
def f29e3 (y0 : Nat) (y1 : Int) (y2 : Int) (y3 : Int) (y4 : Int) (y5 : Bool) (y6 : Bool) (y7 : Bool) : Env := AV.iface (59 : Nat) (AV.ptr (some (y0, (2 : Nat)))) :: AV.int IntKind.i64 y1 :: Env.sp 2 (AV.int IntKind.i64 y2 :: Env.sp 3 (AV.int IntKind.i64 y3 :: AV.int IntKind.i64 y4 :: AV.bool y5 :: AV.bool y6 :: AV.tuple [] :: AV.tuple [] :: AV.tuple [] :: AV.tuple [] :: AV.tuple [] :: AV.bool y7 :: Env.sp 5 []))
def f29e4 (y0 : Nat) (y1 : Int) (y2 : Int) (y3 : Int) (y4 : Int) (y5 : Bool) (y6 : Bool) (y7 : Nat) (y8 : Int) (y9 : Int) (y10 : Bool) (y11 : Bool) (y12 : Bool) : Env := AV.iface (59 : Nat) (AV.ptr (some (y0, (2 : Nat)))) :: AV.int IntKind.i64 y1 :: Env.sp 2 (AV.int IntKind.i64 y2 :: Env.sp 3 (AV.int IntKind.i64 y3 :: AV.int IntKind.i64 y4 :: AV.bool y5 :: AV.bool y6 :: AV.iface (59 : Nat) (AV.ptr (some (y7, (2 : Nat)))) :: AV.int IntKind.i64 y8 :: AV.int IntKind.i64 y9 :: AV.bool y10 :: AV.bool y11 :: AV.bool y12 :: Env.sp 5 []))
def f29e5 (y0 : Nat) (y1 : Int) (y2 : Int) (y3 : Bool) : Env := AV.iface (59 : Nat) (AV.ptr (some (y0, (2 : Nat)))) :: AV.int IntKind.i64 y1 :: Env.sp 2 (AV.int IntKind.i64 y2 :: Env.sp 12 (AV.bool y3 :: Env.sp 5 []))
def f29e6 : Env := Env.sp 23 []
def f29e7 (y0 : Nat) (y1 : Int) (y2 : Int) (y3 : Nat) (y4 : Int) (y5 : Int) : Env := AV.iface (59 : Nat) (AV.ptr (some (y0, (2 : Nat)))) :: AV.int IntKind.i64 y1 :: Env.sp 2 (AV.int IntKind.i64 y2 :: Env.sp 13 (AV.iface (59 : Nat) (AV.ptr (some (y3, (2 : Nat)))) :: AV.int IntKind.i64 y4 :: AV.int IntKind.i64 y5 :: AV.tuple [] :: Env.sp 1 []))
def f29e8 (y0 : Nat) (y1 : Int) : Env := AV.iface (59 : Nat) (AV.ptr (some (y0, (2 : Nat)))) :: Env.sp 3 (AV.int IntKind.i64 y1 :: Env.sp 18 [])
def f29e9 (y0 : Nat) (y1 : Int) (y2 : Int) (y3 : Int) : Env := AV.iface (59 : Nat) (AV.ptr (some (y0, (2 : Nat)))) :: AV.int IntKind.i64 y1 :: Env.sp 2 (AV.int IntKind.i64 y2 :: Env.sp 17 (AV.int IntKind.i64 y3 :: []))

/- function 29 -/
theorem f29_eq {R : Type} (call : Bool → CallF R) (dem : Bool) (N : Nat) (y0 : Nat) (y1 : Int) (σ : St) (K : AV → St → Option R) :
    bodyK Try.prog call dem N ann 29 [AV.iface (59 : Nat) (AV.ptr (some (y0, (2 : Nat)))), AV.int IntKind.i64 y1] σ K = runK Try.prog call dem N f29c0 f29a0 (bodyC Try.prog f29rs K) (f29e0 y0 y1) σ := bodyK_of (fn := ((Try.prog.funcs[29]?).get rfl)) (by kernel_rfl) (by kernel_rfl) (by kernel_rfl) (by kernel_rfl) (by kernel_rfl) (by kernel_rfl)
theorem f29n0 {R : Type} (call : Bool → CallF R) (dem : Bool) (N : Nat) (J : KF R) (e : Env) (σ : St) : runK Try.prog call dem N f29c0 f29a0 J e σ = runK Try.prog call dem N f29c1 f29a1 (blockC 0 f29a0 J) e σ := runK_block' (by kernel_rfl) (by kernel_rfl)
theorem f29L1_eq {R : Type} (call : Bool → CallF R) (dem : Bool) (N : Nat) (J : KF R) (e : Env) (σ : St) : f29L1 call dem N J e σ = runK Try.prog call dem N f29c2 f29a2 J e σ := hide rfl
theorem f29z1_f29e0 (y0 : Nat) (y1 : Int) : Ann.clr f29a1 (f29e0 y0 y1) = f29e0 y0 y1 := hide (by kernel_rfl)
theorem f29l1_f29e0 {R : Type} (call : Bool → CallF R) (dem : Bool) (N : Nat) (y0 : Nat) (y1 : Int) (J : KF R) (σ : St) : runK Try.prog call dem N f29c1 f29a1 J (f29e0 y0 y1) σ = loopK (f29L1 call dem N) f29a1 N J (f29e0 y0 y1) σ := runK_loop' (by kernel_rfl) (by kernel_rfl) (by kernel_rfl)
theorem f29n2 {R : Type} (call : Bool → CallF R) (dem : Bool) (N : Nat) (J : KF R) (e : Env) (σ : St) : runK Try.prog call dem N f29c2 f29a2 J e σ = runK Try.prog call dem N f29c3 f29a3 (blockC 1 f29a2 J) e σ := runK_block' (by kernel_rfl) (by kernel_rfl)
theorem f29n3 {R : Type} (call : Bool → CallF R) (dem : Bool) (N : Nat) (J : KF R) (e : Env) (σ : St) : runK Try.prog call dem N f29c3 f29a3 J e σ = runK Try.prog call dem N f29c4 f29a4 (seqC (fun K e σ => runK Try.prog call dem N f29c5 f29a5 K e σ) f29a3 J) e σ := runK_seq' (by kernel_rfl) (by kernel_rfl) (by kernel_rfl)
theorem f29r4_f29e0 {R : Type} (call : Bool → CallF R) (dem : Bool) (N : Nat) (y0 : Nat) (y1 : Int) (J : KF R) (σ : St) :
    runK Try.prog call dem N f29c4 f29a4 J (f29e0 y0 y1) σ =
J Ex.normal
  (f29e1 y0 y1 (IntKind.wrap IntKind.i64 (Int.tdiv (IntKind.wrap IntKind.i64 (y1 - (1 : Int))) (2 : Int))) y1
    (IntKind.wrap IntKind.i64 (y1 - (1 : Int))) (IntKind.wrap IntKind.i64 (Int.tdiv (IntKind.wrap IntKind.i64 (y1 - (1 : Int))) (2 : Int))))
  σ := hide (by kernel_rfl)
theorem f29z3_f29e1 (y0 : Nat) (y1 : Int) (y2 : Int) (y3 : Int) (y4 : Int) (y5 : Int) : Ann.clr f29a3 (f29e1 y0 y1 y2 y3 y4 y5) = f29e2 y0 y1 y2 := hide (by kernel_rfl)
theorem f29n5 {R : Type} (call : Bool → CallF R) (dem : Bool) (N : Nat) (J : KF R) (e : Env) (σ : St) : runK Try.prog call dem N f29c5 f29a5 J e σ = runK Try.prog call dem N f29c6 f29a6 (seqC (fun K e σ => runK Try.prog call dem N f29c7 f29a7 K e σ) f29a5 J) e σ := runK_seq' (by kernel_rfl) (by kernel_rfl) (by kernel_rfl)
theorem f29n6 {R : Type} (call : Bool → CallF R) (dem : Bool) (N : Nat) (J : KF R) (e : Env) (σ : St) : runK Try.prog call dem N f29c6 f29a6 J e σ = runK Try.prog call dem N f29c8 f29a8 (seqC (fun K e σ => runK Try.prog call dem N f29c9 f29a9 K e σ) f29a6 J) e σ := runK_seq' (by kernel_rfl) (by kernel_rfl) (by kernel_rfl)
theorem f29r8_f29e2 {R : Type} (call : Bool → CallF R) (dem : Bool) (N : Nat) (y0 : Nat) (y1 : Int) (y2 : Int) (J : KF R) (σ : St) :
    runK Try.prog call dem N f29c8 f29a8 J (f29e2 y0 y1 y2) σ =
if (y2 == y1) = true then J Ex.normal (f29e3 y0 y1 y2 y2 y1 (y2 == y1) true true) σ
else
  Option.bind (St.ld σ y0 (2 : Nat)) fun v0 =>
    Option.bind (AV.toSl (4 : Nat) v0) fun v1 =>
      call dem (50 : Nat) [AV.slice (Sl.o v1) (Sl.len v1) (Sl.cap v1) (4 : Nat), AV.int IntKind.i64 y1, AV.int IntKind.i64 y2] σ fun v2 v3 =>
        Option.bind (AV.toBool v2) fun v4 => J Ex.normal (f29e4 y0 y1 y2 y2 y1 (y2 == y1) false y0 y1 y2 v4 (!v4) !v4) v3 := hide (by kernel_rfl)
theorem f29z6_f29e3 (y0 : Nat) (y1 : Int) (y2 : Int) (y3 : Int) (y4 : Int) (y5 : Bool) (y6 : Bool) (y7 : Bool) : Ann.clr f29a6 (f29e3 y0 y1 y2 y3 y4 y5 y6 y7) = f29e5 y0 y1 y2 y7 := hide (by kernel_rfl)
theorem f29x9_f29e5 {R : Type} (call : Bool → CallF R) (dem : Bool) (N : Nat) (y0 : Nat) (y1 : Int) (y2 : Int) (y3 : Bool) (J : KF R) (σ : St) : runK Try.prog call dem N f29c9 f29a9 J (f29e5 y0 y1 y2 y3) σ = if y3 = true then runK Try.prog call dem N f29c10 f29a10 (condC f29a9 J) (f29e5 y0 y1 y2 y3) σ else runK Try.prog call dem N f29c11 f29a11 (condC f29a9 J) (f29e5 y0 y1 y2 y3) σ := runK_cond' (o := Operand.tmp (17 : Nat)) (by kernel_rfl) (by kernel_rfl) (by kernel_rfl) (by kernel_rfl)
theorem f29y10_f29e5 {R : Type} (call : Bool → CallF R) (dem : Bool) (N : Nat) (y0 : Nat) (y1 : Int) (y2 : Int) (y3 : Bool) (J : KF R) (σ : St) : runK Try.prog call dem N f29c10 f29a10 J (f29e5 y0 y1 y2 y3) σ = J (.exit 0) (f29e6) σ := runK_exit' (by kernel_rfl) (by kernel_rfl)
theorem f29n11 {R : Type} (call : Bool → CallF R) (dem : Bool) (N : Nat) (J : KF R) (e : Env) (σ : St) : runK Try.prog call dem N f29c11 f29a11 J e σ = J .normal e σ := runK_skip' (by kernel_rfl)
theorem f29z9_f29e5 (y0 : Nat) (y1 : Int) (y2 : Int) (y3 : Bool) : Ann.clr f29a9 (f29e5 y0 y1 y2 y3) = f29e2 y0 y1 y2 := hide (by kernel_rfl)
theorem f29z6_f29e4 (y0 : Nat) (y1 : Int) (y2 : Int) (y3 : Int) (y4 : Int) (y5 : Bool) (y6 : Bool) (y7 : Nat) (y8 : Int) (y9 : Int) (y10 : Bool) (y11 : Bool) (y12 : Bool) : Ann.clr f29a6 (f29e4 y0 y1 y2 y3 y4 y5 y6 y7 y8 y9 y10 y11 y12) = f29e5 y0 y1 y2 y12 := hide (by kernel_rfl)
theorem f29z5_f29e2 (y0 : Nat) (y1 : Int) (y2 : Int) : Ann.clr f29a5 (f29e2 y0 y1 y2) = f29e2 y0 y1 y2 := hide (by kernel_rfl)
theorem f29n7 {R : Type} (call : Bool → CallF R) (dem : Bool) (N : Nat) (J : KF R) (e : Env) (σ : St) : runK Try.prog call dem N f29c7 f29a7 J e σ = runK Try.prog call dem N f29c12 f29a12 (seqC (fun K e σ => runK Try.prog call dem N f29c13 f29a13 K e σ) f29a7 J) e σ := runK_seq' (by kernel_rfl) (by kernel_rfl) (by kernel_rfl)
theorem f29r12_f29e2 {R : Type} (call : Bool → CallF R) (dem : Bool) (N : Nat) (y0 : Nat) (y1 : Int) (y2 : Int) (J : KF R) (σ : St) :
    runK Try.prog call dem N f29c12 f29a12 J (f29e2 y0 y1 y2) σ =
Option.bind (St.ld σ y0 (2 : Nat)) fun v0 =>
  Option.bind (AV.toSl (4 : Nat) v0) fun v1 =>
    call dem (51 : Nat) [AV.slice (Sl.o v1) (Sl.len v1) (Sl.cap v1) (4 : Nat), AV.int IntKind.i64 y2, AV.int IntKind.i64 y1] σ fun v2 v3 =>
      Option.bind (AV.toTuple v2) fun v4 => if List.length v4 = (0 : Nat) then J Ex.normal (f29e7 y0 y1 y2 y0 y2 y1) v3 else none := hide (by kernel_rfl)
theorem f29z7_f29e7 (y0 : Nat) (y1 : Int) (y2 : Int) (y3 : Nat) (y4 : Int) (y5 : Int) : Ann.clr f29a7 (f29e7 y0 y1 y2 y3 y4 y5) = f29e8 y0 y2 := hide (by kernel_rfl)
theorem f29r13_f29e8 {R : Type} (call : Bool → CallF R) (dem : Bool) (N : Nat) (y0 : Nat) (y1 : Int) (J : KF R) (σ : St) :
    runK Try.prog call dem N f29c13 f29a13 J (f29e8 y0 y1) σ =
J Ex.normal (f29e9 y0 y1 y1 y1) σ := hide (by kernel_rfl)
theorem f29z2_f29e9 (y0 : Nat) (y1 : Int) (y2 : Int) (y3 : Int) : Ann.clr f29a2 (f29e9 y0 y1 y2 y3) = f29e0 y0 y1 := hide (by kernel_rfl)
theorem f29z0_f29e6 : Ann.clr f29a0 (f29e6) = f29e6 := hide (by kernel_rfl)
theorem f29b_f29e6_n {R : Type} (σ : St) (K : AV → St → Option R) : bodyC Try.prog f29rs K (Ex.normal) (f29e6) σ =
K (AV.tuple []) σ := hide (by kernel_rfl)
attribute [go_sem] f29_eq f29n0 f29L1_eq f29z1_f29e0 f29l1_f29e0 f29n2 f29n3 f29r4_f29e0 f29z3_f29e1 f29n5 f29n6 f29r8_f29e2 f29z6_f29e3 f29x9_f29e5 f29y10_f29e5 f29n11 f29z9_f29e5 f29z6_f29e4 f29z5_f29e2 f29n7 f29r12_f29e2 f29z7_f29e7 f29r13_f29e8 f29z2_f29e9 f29z0_f29e6 f29b_f29e6_n

noncomputable def f30rs : List ResultVar := [ResultVar.tmp (6 : Nat)]
noncomputable def f30c0 : Code := subCode [] (bodyOf Try.prog 30)
def f30a0 : Ann := subAnn [] ann30
noncomputable def f30c1 : Code := subCode [0] (bodyOf Try.prog 30)
def f30a1 : Ann := subAnn [0] ann30
noncomputable def f30c2 : Code := subCode [1] (bodyOf Try.prog 30)
def f30a2 : Ann := subAnn [1] ann30
noncomputable def f30c3 : Code := subCode [1, 0] (bodyOf Try.prog 30)
def f30a3 : Ann := subAnn [1, 0] ann30
noncomputable def f30c4 : Code := subCode [1, 1] (bodyOf Try.prog 30)
def f30a4 : Ann := subAnn [1, 1] ann30
noncomputable def f30c5 : Code := subCode [1, 1, 0] (bodyOf Try.prog 30)
def f30a5 : Ann := subAnn [1, 1, 0] ann30
noncomputable def f30c6 : Code := subCode [1, 1, 1] (bodyOf Try.prog 30)
def f30a6 : Ann := subAnn [1, 1, 1] ann30
noncomputable def f30c7 : Code := subCode [1, 1, 0, 0] (bodyOf Try.prog 30)
def f30a7 : Ann := subAnn [1, 1, 0, 0] ann30
noncomputable def f30c8 : Code := subCode [1, 1, 0, 0, 0] (bodyOf Try.prog 30)
def f30a8 : Ann := subAnn [1, 1, 0, 0, 0] ann30
noncomputable def f30c9 : Code := subCode [1, 1, 0, 0, 0, 0] (bodyOf Try.prog 30)
def f30a9 : Ann := subAnn [1, 1, 0, 0, 0, 0] ann30
noncomputable def f30c10 : Code := subCode [1, 1, 0, 0, 0, 0, 0] (bodyOf Try.prog 30)
def f30a10 : Ann := subAnn [1, 1, 0, 0, 0, 0, 0] ann30
noncomputable def f30c11 : Code := subCode [1, 1, 0, 0, 0, 0, 1] (bodyOf Try.prog 30)
def f30a11 : Ann := subAnn [1, 1, 0, 0, 0, 0, 1] ann30
noncomputable def f30c12 : Code := subCode [1, 1, 0, 0, 0, 0, 1, 0] (bodyOf Try.prog 30)
def f30a12 : Ann := subAnn [1, 1, 0, 0, 0, 0, 1, 0] ann30
noncomputable def f30c13 : Code := subCode [1, 1, 0, 0, 0, 0, 1, 1] (bodyOf Try.prog 30)
def f30a13 : Ann := subAnn [1, 1, 0, 0, 0, 0, 1, 1] ann30
noncomputable def f30c14 : Code := subCode [1, 1, 0, 0, 0, 0, 1, 0, 0] (bodyOf Try.prog 30)
def f30a14 : Ann := subAnn [1, 1, 0, 0, 0, 0, 1, 0, 0] ann30
noncomputable def f30c15 : Code := subCode [1, 1, 0, 0, 0, 0, 1, 0, 1] (bodyOf Try.prog 30)
def f30a15 : Ann := subAnn [1, 1, 0, 0, 0, 0, 1, 0, 1] ann30
noncomputable def f30c16 : Code := subCode [1, 1, 0, 0, 0, 0, 1, 0, 1, 0] (bodyOf Try.prog 30)
def f30a16 : Ann := subAnn [1, 1, 0, 0, 0, 0, 1, 0, 1, 0] ann30
noncomputable def f30c17 : Code := subCode [1, 1, 0, 0, 0, 0, 1, 0, 1, 1] (bodyOf Try.prog 30)
def f30a17 : Ann := subAnn [1, 1, 0, 0, 0, 0, 1, 0, 1, 1] ann30
noncomputable def f30c18 : Code := subCode [1, 1, 0, 0, 0, 0, 1, 1, 0] (bodyOf Try.prog 30)
def f30a18 : Ann := subAnn [1, 1, 0, 0, 0, 0, 1, 1, 0] ann30
noncomputable def f30c19 : Code := subCode [1, 1, 0, 0, 0, 0, 1, 1, 1] (bodyOf Try.prog 30)
def f30a19 : Ann := subAnn [1, 1, 0, 0, 0, 0, 1, 1, 1] ann30
noncomputable def f30c20 : Code := subCode [1, 1, 0, 0, 0, 0, 1, 1, 1, 0] (bodyOf Try.prog 30)
def f30a20 : Ann := subAnn [1, 1, 0, 0, 0, 0, 1, 1, 1, 0] ann30
noncomputable def f30c21 : Code := subCode [1, 1, 0, 0, 0, 0, 1, 1, 1, 1] (bodyOf Try.prog 30)
def f30a21 : Ann := subAnn [1, 1, 0, 0, 0, 0, 1, 1, 1, 1] ann30
noncomputable def f30c22 : Code := subCode [1, 1, 0, 0, 0, 0, 1, 1, 1, 0, 0] (bodyOf Try.prog 30)
def f30a22 : Ann := subAnn [1, 1, 0, 0, 0, 0, 1, 1, 1, 0, 0] ann30
noncomputable def f30c23 : Code := subCode [1, 1, 0, 0, 0, 0, 1, 1, 1, 0, 1] (bodyOf Try.prog 30)
def f30a23 : Ann := subAnn [1, 1, 0, 0, 0, 0, 1, 1, 1, 0, 1] ann30
noncomputable def f30c24 : Code := subCode [1, 1, 0, 0, 0, 0, 1, 1, 1, 0, 1, 0] (bodyOf Try.prog 30)
def f30a24 : Ann := subAnn [1, 1, 0, 0, 0, 0, 1, 1, 1, 0, 1, 0] ann30
noncomputable def f30c25 : Code := subCode [1, 1, 0, 0, 0, 0, 1, 1, 1, 0, 1, 1] (bodyOf Try.prog 30)
def f30a25 : Ann := subAnn [1, 1, 0, 0, 0, 0, 1, 1, 1, 0, 1, 1] ann30
noncomputable def f30c26 : Code := subCode [1, 1, 0, 0, 0, 0, 1, 1, 1, 0, 1, 1, 0] (bodyOf Try.prog 30)
def f30a26 : Ann := subAnn [1, 1, 0, 0, 0, 0, 1, 1, 1, 0, 1, 1, 0] ann30
noncomputable def f30c27 : Code := subCode [1, 1, 0, 0, 0, 0, 1, 1, 1, 0, 1, 1, 1] (bodyOf Try.prog 30)
def f30a27 : Ann := subAnn [1, 1, 0, 0, 0, 0, 1, 1, 1, 0, 1, 1, 1] ann30
noncomputable def f30c28 : Code := subCode [1, 1, 0, 0, 0, 0, 1, 1, 1, 1, 0] (bodyOf Try.prog 30)
def f30a28 : Ann := subAnn [1, 1, 0, 0, 0, 0, 1, 1, 1, 1, 0] ann30
noncomputable def f30c29 : Code := subCode [1, 1, 0, 0, 0, 0, 1, 1, 1, 1, 1] (bodyOf Try.prog 30)
def f30a29 : Ann := subAnn [1, 1, 0, 0, 0, 0, 1, 1, 1, 1, 1] ann30
noncomputable def f30c30 : Code := subCode [1, 1, 0, 0, 0, 0, 1, 1, 1, 1, 0, 0] (bodyOf Try.prog 30)
def f30a30 : Ann := subAnn [1, 1, 0, 0, 0, 0, 1, 1, 1, 1, 0, 0] ann30
noncomputable def f30c31 : Code := subCode [1, 1, 0, 0, 0, 0, 1, 1, 1, 1, 0, 1] (bodyOf Try.prog 30)
def f30a31 : Ann := subAnn [1, 1, 0, 0, 0, 0, 1, 1, 1, 1, 0, 1] ann30
noncomputable def f30c32 : Code := subCode [1, 1, 0, 0, 0, 0, 1, 1, 1, 1, 0, 1, 0] (bodyOf Try.prog 30)
def f30a32 : Ann := subAnn [1, 1, 0, 0, 0, 0, 1, 1, 1, 1, 0, 1, 0] ann30
noncomputable def f30c33 : Code := subCode [1, 1, 0, 0, 0, 0, 1, 1, 1, 1, 0, 1, 1] (bodyOf Try.prog 30)
def f30a33 : Ann := subAnn [1, 1, 0, 0, 0, 0, 1, 1, 1, 1, 0, 1, 1] ann30
noncomputable def f30c34 : Code := subCode [1, 1, 0, 0, 0, 0, 1, 1, 1, 1, 1, 0] (bodyOf Try.prog 30)
def f30a34 : Ann := subAnn [1, 1, 0, 0, 0, 0, 1, 1, 1, 1, 1, 0] ann30
noncomputable def f30c35 : Code := subCode [1, 1, 0, 0, 0, 0, 1, 1, 1, 1, 1, 1] (bodyOf Try.prog 30)
def f30a35 : Ann := subAnn [1, 1, 0, 0, 0, 0, 1, 1, 1, 1, 1, 1] ann30
noncomputable def f30c36 : Code := subCode [1, 1, 1, 0] (bodyOf Try.prog 30)
def f30a36 : Ann := subAnn [1, 1, 1, 0] ann30
noncomputable def f30c37 : Code := subCode [1, 1, 1, 1] (bodyOf Try.prog 30)
def f30a37 : Ann := subAnn [1, 1, 1, 1] ann30
noncomputable def f30L7 {R : Type} (call : Bool → CallF R) (dem : Bool) (N : Nat) : KF R → Env → St → Option R := fun K e σ => runK Try.prog call dem N f30c8 f30a8 K e σ
def f30e0 (y0 : Nat) (y1 : Int) (y2 : Int) : Env := AV.iface (59 : Nat) (AV.ptr (some (y0, (2 : Nat)))) :: AV.int IntKind.i64 y1 :: AV.int IntKind.i64 y2 :: Env.sp 45 []
def f30e1 (y0 : Nat) (y1 : Int) (y2 : Int) (y3 : Bool) : Env := AV.iface (59 : Nat) (AV.ptr (some (y0, (2 : Nat)))) :: AV.int IntKind.i64 y1 :: AV.int IntKind.i64 y2 :: Env.sp 3 (AV.bool y3 :: Env.sp 41 [])
def f30e2 (y0 : Nat) (y1 : Int) (y2 : Int) (y3 : Int) (y4 : Int) : Env := AV.iface (59 : Nat) (AV.ptr (some (y0, (2 : Nat)))) :: AV.int IntKind.i64 y1 :: AV.int IntKind.i64 y2 :: Env.sp 4 (AV.int IntKind.i64 y3 :: Env.sp 3 (AV.int IntKind.i64 y4 :: Env.sp 36 []))
def f30e3 (y0 : Nat) (y1 : Int) (y2 : Int) (y3 : Int) : Env := AV.iface (59 : Nat) (AV.ptr (some (y0, (2 : Nat)))) :: AV.int IntKind.i64 y1 :: AV.int IntKind.i64 y2 :: Env.sp 4 (AV.int IntKind.i64 y3 :: Env.sp 40 [])
def f30e4 (y0 : Nat) (y1 : Int) (y2 : Int) (y3 : Int) (y4 : Int) (y5 : Int) (y6 : Int) (y7 : Int) : Env := AV.iface (59 : Nat) (AV.ptr (some (y0, (2 : Nat)))) :: AV.int IntKind.i64 y1 :: AV.int IntKind.i64 y2 :: Env.sp 4 (AV.int IntKind.i64 y3 :: AV.int IntKind.i64 y4 :: Env.sp 3 (AV.int IntKind.i64 y5 :: AV.int IntKind.i64 y6 :: AV.int IntKind.i64 y7 :: Env.sp 33 []))
def f30e5 (y0 : Nat) (y1 : Int) (y2 : Int) (y3 : Int) (y4 : Int) : Env := AV.iface (59 : Nat) (AV.ptr (some (y0, (2 : Nat)))) :: AV.int IntKind.i64 y1 :: AV.int IntKind.i64 y2 :: Env.sp 4 (AV.int IntKind.i64 y3 :: AV.int IntKind.i64 y4 :: Env.sp 39 [])
def f30e6 (y0 : Nat) (y1 : Int) (y2 : Int) (y3 : Int) (y4 : Int) (y5 : Int) (y6 : Int) (y7 : Bool) (y8 : Bool) (y9 : Bool) : Env := AV.iface (59 : Nat) (AV.ptr (some (y0, (2 : Nat)))) :: AV.int IntKind.i64 y1 :: AV.int IntKind.i64 y2 :: Env.sp 4 (AV.int IntKind.i64 y3 :: AV.int IntKind.i64 y4 :: Env.sp 6 (AV.int IntKind.i64 y5 :: AV.int IntKind.i64 y6 :: AV.bool y7 :: AV.bool y8 :: AV.tuple [] :: AV.tuple [] :: AV.bool y9 :: Env.sp 26 []))
def f30e7 (y0 : Nat) (y1 : Int) (y2 : Int) (y3 : Int) (y4 : Int) (y5 : Int) (y6 : Int) (y7 : Bool) (y8 : Bool) (y9 : Int) (y10 : Bool) (y11 : Bool) : Env := AV.iface (59 : Nat) (AV.ptr (some (y0, (2 : Nat)))) :: AV.int IntKind.i64 y1 :: AV.int IntKind.i64 y2 :: Env.sp 4 (AV.int IntKind.i64 y3 :: AV.int IntKind.i64 y4 :: Env.sp 6 (AV.int IntKind.i64 y5 :: AV.int IntKind.i64 y6 :: AV.bool y7 :: AV.bool y8 :: AV.int IntKind.i64 y9 :: AV.bool y10 :: AV.bool y11 :: Env.sp 26 []))
def f30e8 (y0 : Nat) (y1 : Int) (y2 : Int) (y3 : Int) (y4 : Int) (y5 : Bool) : Env := AV.iface (59 : Nat) (AV.ptr (some (y0, (2 : Nat)))) :: AV.int IntKind.i64 y1 :: AV.int IntKind.i64 y2 :: Env.sp 4 (AV.int IntKind.i64 y3 :: AV.int IntKind.i64 y4 :: Env.sp 12 (AV.bool y5 :: Env.sp 26 []))
def f30e9 (y0 : Int) (y1 : Int) : Env := Env.sp 1 (AV.int IntKind.i64 y0 :: Env.sp 5 (AV.int IntKind.i64 y1 :: Env.sp 40 []))
def f30e10 (y0 : Nat) (y1 : Int) (y2 : Int) (y3 : Int) (y4 : Int) (y5 : Int) (y6 : Int) : Env := AV.iface (59 : Nat) (AV.ptr (some (y0, (2 : Nat)))) :: AV.int IntKind.i64 y1 :: AV.int IntKind.i64 y2 :: Env.sp 4 (AV.int IntKind.i64 y3 :: AV.int IntKind.i64 y4 :: AV.int IntKind.i64 y5 :: Env.sp 12 (AV.int IntKind.i64 y6 :: Env.sp 25 []))
def f30e11 (y0 : Nat) (y1 : Int) (y2 : Int) (y3 : Int) (y4 : Int) (y5 : Int) : Env := AV.iface (59 : Nat) (AV.ptr (some (y0, (2 : Nat)))) :: AV.int IntKind.i64 y1 :: AV.int IntKind.i64 y2 :: Env.sp 4 (AV.int IntKind.i64 y3 :: AV.int IntKind.i64 y4 :: AV.int IntKind.i64 y5 :: Env.sp 38 [])
def f30e12 (y0 : Nat) (y1 : Int) (y2 : Int) (y3 : Int) (y4 : Int) (y5 : Int) (y6 : Int) (y7 : Int) (y8 : Int) : Env := AV.iface (59 : Nat) (AV.ptr (some (y0, (2 : Nat)))) :: AV.int IntKind.i64 y1 :: AV.int IntKind.i64 y2 :: Env.sp 4 (AV.int IntKind.i64 y3 :: AV.int IntKind.i64 y4 :: AV.int IntKind.i64 y5 :: AV.int IntKind.i64 y6 :: Env.sp 12 (AV.int IntKind.i64 y7 :: AV.int IntKind.i64 y8 :: Env.sp 23 []))
def f30e13 (y0 : Nat) (y1 : Int) (y2 : Int) (y3 : Int) (y4 : Int) (y5 : Int) (y6 : Int) : Env := AV.iface (59 : Nat) (AV.ptr (some (y0, (2 : Nat)))) :: AV.int IntKind.i64 y1 :: AV.int IntKind.i64 y2 :: Env.sp 4 (AV.int IntKind.i64 y3 :: AV.int IntKind.i64 y4 :: AV.int IntKind.i64 y5 :: AV.int IntKind.i64 y6 :: Env.sp 37 [])
def f30e14 (y0 : Nat) (y1 : Int) (y2 : Int) (y3 : Int) (y4 : Int) (y5 : Int) (y6 : Int) (y7 : Int) (y8 : Int) (y9 : Bool) (y10 : Bool) (y11 : Nat) (y12 : Int) (y13 : Int) (y14 : Bool) (y15 : Bool) : Env := AV.iface (59 : Nat) (AV.ptr (some (y0, (2 : Nat)))) :: AV.int IntKind.i64 y1 :: AV.int IntKind.i64 y2 :: Env.sp 4 (AV.int IntKind.i64 y3 :: AV.int IntKind.i64 y4 :: AV.int IntKind.i64 y5 :: AV.int IntKind.i64 y6 :: Env.sp 14 (AV.int IntKind.i64 y7 :: AV.int IntKind.i64 y8 :: AV.bool y9 :: AV.bool y10 :: AV.iface (59 : Nat) (AV.ptr (some (y11, (2 : Nat)))) :: AV.int IntKind.i64 y12 :: AV.int IntKind.i64 y13 :: AV.bool y14 :: AV.bool y15 :: Env.sp 14 []))
def f30e15 (y0 : Nat) (y1 : Int) (y2 : Int) (y3 : Int) (y4 : Int) (y5 : Int) (y6 : Int) (y7 : Int) (y8 : Int) (y9 : Bool) (y10 : Bool) (y11 : Bool) : Env := AV.iface (59 : Nat) (AV.ptr (some (y0, (2 : Nat)))) :: AV.int IntKind.i64 y1 :: AV.int IntKind.i64 y2 :: Env.sp 4 (AV.int IntKind.i64 y3 :: AV.int IntKind.i64 y4 :: AV.int IntKind.i64 y5 :: AV.int IntKind.i64 y6 :: Env.sp 14 (AV.int IntKind.i64 y7 :: AV.int IntKind.i64 y8 :: AV.bool y9 :: AV.bool y10 :: AV.tuple [] :: AV.tuple [] :: AV.tuple [] :: AV.tuple [] :: AV.bool y11 :: Env.sp 14 []))
def f30e16 (y0 : Nat) (y1 : Int) (y2 : Int) (y3 : Int) (y4 : Int) (y5 : Int) (y6 : Bool) : Env := AV.iface (59 : Nat) (AV.ptr (some (y0, (2 : Nat)))) :: AV.int IntKind.i64 y1 :: AV.int IntKind.i64 y2 :: Env.sp 4 (AV.int IntKind.i64 y3 :: Env.sp 1 (AV.int IntKind.i64 y4 :: AV.int IntKind.i64 y5 :: Env.sp 22 (AV.bool y6 :: Env.sp 14 [])))
def f30e17 (y0 : Nat) (y1 : Int) (y2 : Int) (y3 : Int) (y4 : Int) (y5 : Int) (y6 : Bool) (y7 : Int) : Env := AV.iface (59 : Nat) (AV.ptr (some (y0, (2 : Nat)))) :: AV.int IntKind.i64 y1 :: AV.int IntKind.i64 y2 :: Env.sp 4 (AV.int IntKind.i64 y3 :: Env.sp 1 (AV.int IntKind.i64 y4 :: AV.int IntKind.i64 y5 :: Env.sp 22 (AV.bool y6 :: AV.int IntKind.i64 y7 :: Env.sp 13 [])))
def f30e18 (y0 : Nat) (y1 : Int) (y2 : Int) (y3 : Int) (y4 : Int) : Env := AV.iface (59 : Nat) (AV.ptr (some (y0, (2 : Nat)))) :: AV.int IntKind.i64 y1 :: AV.int IntKind.i64 y2 :: Env.sp 4 (AV.int IntKind.i64 y3 :: Env.sp 1 (AV.int IntKind.i64 y4 :: Env.sp 38 []))
def f30e19 (y0 : Nat) (y1 : Int) (y2 : Int) (y3 : Int) (y4 : Int) (y5 : Nat) (y6 : Int) (y7 : Int) (y8 : Bool) (y9 : Bool) : Env := AV.iface (59 : Nat) (AV.ptr (some (y0, (2 : Nat)))) :: AV.int IntKind.i64 y1 :: AV.int IntKind.i64 y2 :: Env.sp 4 (AV.int IntKind.i64 y3 :: Env.sp 1 (AV.int IntKind.i64 y4 :: Env.sp 25 (AV.iface (59 : Nat) (AV.ptr (some (y5, (2 : Nat)))) :: AV.int IntKind.i64 y6 :: AV.int IntKind.i64 y7 :: AV.bool y8 :: AV.bool y9 :: Env.sp 8 [])))
def f30e20 (y0 : Nat) (y1 : Int) (y2 : Int) (y3 : Int) (y4 : Int) (y5 : Bool) : Env := AV.iface (59 : Nat) (AV.ptr (some (y0, (2 : Nat)))) :: AV.int IntKind.i64 y1 :: AV.int IntKind.i64 y2 :: Env.sp 4 (AV.int IntKind.i64 y3 :: Env.sp 1 (AV.int IntKind.i64 y4 :: Env.sp 29 (AV.bool y5 :: Env.sp 8 [])))
def f30e21 (y0 : Nat) (y1 : Int) (y2 : Int) (y3 : Int) (y4 : Int) (y5 : Nat) (y6 : Int) (y7 : Int) : Env := AV.iface (59 : Nat) (AV.ptr (some (y0, (2 : Nat)))) :: AV.int IntKind.i64 y1 :: AV.int IntKind.i64 y2 :: Env.sp 4 (AV.int IntKind.i64 y3 :: Env.sp 1 (AV.int IntKind.i64 y4 :: Env.sp 30 (AV.iface (59 : Nat) (AV.ptr (some (y5, (2 : Nat)))) :: AV.int IntKind.i64 y6 :: AV.int IntKind.i64 y7 :: AV.tuple [] :: Env.sp 4 [])))
def f30e22 (y0 : Nat) (y1 : Int) (y2 : Int) (y3 : Int) : Env := AV.iface (59 : Nat) (AV.ptr (some (y0, (2 : Nat)))) :: AV.int IntKind.i64 y1 :: AV.int IntKind.i64 y2 :: Env.sp 6 (AV.int IntKind.i64 y3 :: Env.sp 38 [])
def f30e23 (y0 : Nat) (y1 : Int) (y2 : Int) (y3 : Int) (y4 : Int) (y5 : Int) : Env := AV.iface (59 : Nat) (AV.ptr (some (y0, (2 : Nat)))) :: AV.int IntKind.i64 y1 :: AV.int IntKind.i64 y2 :: Env.sp 4 (AV.int IntKind.i64 y3 :: Env.sp 1 (AV.int IntKind.i64 y4 :: Env.sp 34 (AV.int IntKind.i64 y5 :: Env.sp 3 [])))
def f30e24 (y0 : Int) (y1 : Bool) (y2 : Int) (y3 : Int) (y4 : Int) (y5 : Bool) : Env := Env.sp 1 (AV.int IntKind.i64 y0 :: Env.sp 4 (AV.bool y1 :: AV.int IntKind.i64 y2 :: Env.sp 37 (AV.int IntKind.i64 y3 :: AV.int IntKind.i64 y4 :: AV.bool y5 :: [])))
def f30e25 (y0 : Bool) : Env := Env.sp 6 (AV.bool y0 :: Env.sp 41 [])

/- function 30 -/
theorem f30_eq {R : Type} (call : Bool → CallF R) (dem : Bool) (N : Nat) (y0 : Nat) (y1 : Int) (y2 : Int) (σ : St) (K : AV → St → Option R) :
    bodyK Try.prog call dem N ann 30 [AV.iface (59 : Nat) (AV.ptr (some (y0, (2 : Nat)))), AV.int IntKind.i64 y1, AV.int IntKind.i64 y2] σ K = runK Try.prog call dem N f30c0 f30a0 (bodyC Try.prog f30rs K) (f30e0 y0 y1 y2) σ := bodyK_of (fn := ((Try.prog.funcs[30]?).get rfl)) (by kernel_rfl) (by kernel_rfl) (by kernel_rfl) (by kernel_rfl) (by kernel_rfl) (by kernel_rfl)
theorem f30n0 {R : Type} (call : Bool → CallF R) (dem : Bool) (N : Nat) (J : KF R) (e : Env) (σ : St) : runK Try.prog call dem N f30c0 f30a0 J e σ = runK Try.prog call dem N f30c1 f30a1 (seqC (fun K e σ => runK Try.prog call dem N f30c2 f30a2 K e σ) f30a0 J) e σ := runK_seq' (by kernel_rfl) (by kernel_rfl) (by kernel_rfl)
theorem f30r1_f30e0 {R : Type} (call : Bool → CallF R) (dem : Bool) (N : Nat) (y0 : Nat) (y1 : Int) (y2 : Int) (J : KF R) (σ : St) :
    runK Try.prog call dem N f30c1 f30a1 J (f30e0 y0 y1 y2) σ =
J Ex.normal (f30e1 y0 y1 y2 false) σ := hide (by kernel_rfl)
theorem f30z0_f30e1 (y0 : Nat) (y1 : Int) (y2 : Int) (y3 : Bool) : Ann.clr f30a0 (f30e1 y0 y1 y2 y3) = f30e0 y0 y1 y2 := hide (by kernel_rfl)
theorem f30n2 {R : Type} (call : Bool → CallF R) (dem : Bool) (N : Nat) (J : KF R) (e : Env) (σ : St) : runK Try.prog call dem N f30c2 f30a2 J e σ = runK Try.prog call dem N f30c3 f30a3 (seqC (fun K e σ => runK Try.prog call dem N f30c4 f30a4 K e σ) f30a2 J) e σ := runK_seq' (by kernel_rfl) (by kernel_rfl) (by kernel_rfl)
theorem f30r3_f30e0 {R : Type} (call : Bool → CallF R) (dem : Bool) (N : Nat) (y0 : Nat) (y1 : Int) (y2 : Int) (J : KF R) (σ : St) :
    runK Try.prog call dem N f30c3 f30a3 J (f30e0 y0 y1 y2) σ =
J Ex.normal (f30e2 y0 y1 y2 y1 y1) σ := hide (by kernel_rfl)
theorem f30z2_f30e2 (y0 : Nat) (y1 : Int) (y2 : Int) (y3 : Int) (y4 : Int) : Ann.clr f30a2 (f30e2 y0 y1 y2 y3 y4) = f30e3 y0 y1 y2 y3 := hide (by kernel_rfl)
theorem f30n4 {R : Type} (call : Bool → CallF R) (dem : Bool) (N : Nat) (J : KF R) (e : Env) (σ : St) : runK Try.prog call dem N f30c4 f30a4 J e σ = runK Try.prog call dem N f30c5 f30a5 (seqC (fun K e σ => runK Try.prog call dem N f30c6 f30a6 K e σ) f30a4 J) e σ := runK_seq' (by kernel_rfl) (by kernel_rfl) (by kernel_rfl)
theorem f30n5 {R : Type} (call : Bool → CallF R) (dem : Bool) (N : Nat) (J : KF R) (e : Env) (σ : St) : runK Try.prog call dem N f30c5 f30a5 J e σ = runK Try.prog call dem N f30c7 f30a7 (blockC 0 f30a5 J) e σ := runK_block' (by kernel_rfl) (by kernel_rfl)
theorem f30L7_eq {R : Type} (call : Bool → CallF R) (dem : Bool) (N : Nat) (J : KF R) (e : Env) (σ : St) : f30L7 call dem N J e σ = runK Try.prog call dem N f30c8 f30a8 J e σ := hide rfl
theorem f30z7_f30e3 (y0 : Nat) (y1 : Int) (y2 : Int) (y3 : Int) : Ann.clr f30a7 (f30e3 y0 y1 y2 y3) = f30e3 y0 y1 y2 y3 := hide (by kernel_rfl)
theorem f30l7_f30e3 {R : Type} (call : Bool → CallF R) (dem : Bool) (N : Nat) (y0 : Nat) (y1 : Int) (y2 : Int) (y3 : Int) (J : KF R) (σ : St) : runK Try.prog call dem N f30c7 f30a7 J (f30e3 y0 y1 y2 y3) σ = loopK (f30L7 call dem N) f30a7 N J (f30e3 y0 y1 y2 y3) σ := runK_loop' (by kernel_rfl) (by kernel_rfl) (by kernel_rfl)
theorem f30n8 {R : Type} (call : Bool → CallF R) (dem : Bool) (N : Nat) (J : KF R) (e : Env) (σ : St) : runK Try.prog call dem N f30c8 f30a8 J e σ = runK Try.prog call dem N f30c9 f30a9 (blockC 1 f30a8 J) e σ := runK_block' (by kernel_rfl) (by kernel_rfl)
theorem f30n9 {R : Type} (call : Bool → CallF R) (dem : Bool) (N : Nat) (J : KF R) (e : Env) (σ : St) : runK Try.prog call dem N f30c9 f30a9 J e σ = runK Try.prog call dem N f30c10 f30a10 (seqC (fun K e σ => runK Try.prog call dem N f30c11 f30a11 K e σ) f30a9 J) e σ := runK_seq' (by kernel_rfl) (by kernel_rfl) (by kernel_rfl)
theorem f30r10_f30e3 {R : Type} (call : Bool → CallF R) (dem : Bool) (N : Nat) (y0 : Nat) (y1 : Int) (y2 : Int) (y3 : Int) (J : KF R) (σ : St) :
    runK Try.prog call dem N f30c10 f30a10 J (f30e3 y0 y1 y2 y3) σ =
J Ex.normal
  (f30e4 y0 y1 y2 y3 (IntKind.wrap IntKind.i64 (IntKind.wrap IntKind.i64 ((2 : Int) * y3) + (1 : Int))) y3 (IntKind.wrap IntKind.i64 ((2 : Int) * y3))
    (IntKind.wrap IntKind.i64 (IntKind.wrap IntKind.i64 ((2 : Int) * y3) + (1 : Int))))
  σ := hide (by kernel_rfl)
theorem f30z9_f30e4 (y0 : Nat) (y1 : Int) (y2 : Int) (y3 : Int) (y4 : Int) (y5 : Int) (y6 : Int) (y7 : Int) : Ann.clr f30a9 (f30e4 y0 y1 y2 y3 y4 y5 y6 y7) = f30e5 y0 y1 y2 y3 y4 := hide (by kernel_rfl)
theorem f30n11 {R : Type} (call : Bool → CallF R) (dem : Bool) (N : Nat) (J : KF R) (e : Env) (σ : St) : runK Try.prog call dem N f30c11 f30a11 J e σ = runK Try.prog call dem N f30c12 f30a12 (seqC (fun K e σ => runK Try.prog call dem N f30c13 f30a13 K e σ) f30a11 J) e σ := runK_seq' (by kernel_rfl) (by kernel_rfl) (by kernel_rfl)
theorem f30n12 {R : Type} (call : Bool → CallF R) (dem : Bool) (N : Nat) (J : KF R) (e : Env) (σ : St) : runK Try.prog call dem N f30c12 f30a12 J e σ = runK Try.prog call dem N f30c14 f30a14 (seqC (fun K e σ => runK Try.prog call dem N f30c15 f30a15 K e σ) f30a12 J) e σ := runK_seq' (by kernel_rfl) (by kernel_rfl) (by kernel_rfl)
theorem f30r14_f30e5 {R : Type} (call : Bool → CallF R) (dem : Bool) (N : Nat) (y0 : Nat) (y1 : Int) (y2 : Int) (y3 : Int) (y4 : Int) (J : KF R) (σ : St) :
    runK Try.prog call dem N f30c14 f30a14 J (f30e5 y0 y1 y2 y3 y4) σ =
if decide (y4 ≥ y2) = true then J Ex.normal (f30e6 y0 y1 y2 y3 y4 y4 y2 (decide (y4 ≥ y2)) true true) σ
else J Ex.normal (f30e7 y0 y1 y2 y3 y4 y4 y2 (decide (y4 ≥ y2)) false y4 (decide (y4 < (0 : Int))) (decide (y4 < (0 : Int)))) σ := hide (by kernel_rfl)
theorem f30z12_f30e6 (y0 : Nat) (y1 : Int) (y2 : Int) (y3 : Int) (y4 : Int) (y5 : Int) (y6 : Int) (y7 : Bool) (y8 : Bool) (y9 : Bool) : Ann.clr f30a12 (f30e6 y0 y1 y2 y3 y4 y5 y6 y7 y8 y9) = f30e8 y0 y1 y2 y3 y4 y9 := hide (by kernel_rfl)
theorem f30x15_f30e8 {R : Type} (call : Bool → CallF R) (dem : Bool) (N : Nat) (y0 : Nat) (y1 : Int) (y2 : Int) (y3 : Int) (y4 : Int) (y5 : Bool) (J : KF R) (σ : St) : runK Try.prog call dem N f30c15 f30a15 J (f30e8 y0 y1 y2 y3 y4 y5) σ = if y5 = true then runK Try.prog call dem N f30c16 f30a16 (condC f30a15 J) (f30e8 y0 y1 y2 y3 y4 y5) σ else runK Try.prog call dem N f30c17 f30a17 (condC f30a15 J) (f30e8 y0 y1 y2 y3 y4 y5) σ := runK_cond' (o := Operand.tmp (21 : Nat)) (by kernel_rfl) (by kernel_rfl) (by kernel_rfl) (by kernel_rfl)
theorem f30y16_f30e8 {R : Type} (call : Bool → CallF R) (dem : Bool) (N : Nat) (y0 : Nat) (y1 : Int) (y2 : Int) (y3 : Int) (y4 : Int) (y5 : Bool) (J : KF R) (σ : St) : runK Try.prog call dem N f30c16 f30a16 J (f30e8 y0 y1 y2 y3 y4 y5) σ = J (.exit 0) (f30e9 y1 y3) σ := runK_exit' (by kernel_rfl) (by kernel_rfl)
theorem f30n17 {R : Type} (call : Bool → CallF R) (dem : Bool) (N : Nat) (J : KF R) (e : Env) (σ : St) : runK Try.prog call dem N f30c17 f30a17 J e σ = J .normal e σ := runK_skip' (by kernel_rfl)
theorem f30z15_f30e8 (y0 : Nat) (y1 : Int) (y2 : Int) (y3 : Int) (y4 : Int) (y5 : Bool) : Ann.clr f30a15 (f30e8 y0 y1 y2 y3 y4 y5) = f30e5 y0 y1 y2 y3 y4 := hide (by kernel_rfl)
theorem f30z12_f30e7 (y0 : Nat) (y1 : Int) (y2 : Int) (y3 : Int) (y4 : Int) (y5 : Int) (y6 : Int) (y7 : Bool) (y8 : Bool) (y9 : Int) (y10 : Bool) (y11 : Bool) : Ann.clr f30a12 (f30e7 y0 y1 y2 y3 y4 y5 y6 y7 y8 y9 y10 y11) = f30e8 y0 y1 y2 y3 y4 y11 := hide (by kernel_rfl)
theorem f30z11_f30e5 (y0 : Nat) (y1 : Int) (y2 : Int) (y3 : Int) (y4 : Int) : Ann.clr f30a11 (f30e5 y0 y1 y2 y3 y4) = f30e5 y0 y1 y2 y3 y4 := hide (by kernel_rfl)
theorem f30n13 {R : Type} (call : Bool → CallF R) (dem : Bool) (N : Nat) (J : KF R) (e : Env) (σ : St) : runK Try.prog call dem N f30c13 f30a13 J e σ = runK Try.prog call dem N f30c18 f30a18 (seqC (fun K e σ => runK Try.prog call dem N f30c19 f30a19 K e σ) f30a13 J) e σ := runK_seq' (by kernel_rfl) (by kernel_rfl) (by kernel_rfl)
theorem f30r18_f30e5 {R : Type} (call : Bool → CallF R) (dem : Bool) (N : Nat) (y0 : Nat) (y1 : Int) (y2 : Int) (y3 : Int) (y4 : Int) (J : KF R) (σ : St) :
    runK Try.prog call dem N f30c18 f30a18 J (f30e5 y0 y1 y2 y3 y4) σ =
J Ex.normal (f30e10 y0 y1 y2 y3 y4 y4 y4) σ := hide (by kernel_rfl)
theorem f30z13_f30e10 (y0 : Nat) (y1 : Int) (y2 : Int) (y3 : Int) (y4 : Int) (y5 : Int) (y6 : Int) : Ann.clr f30a13 (f30e10 y0 y1 y2 y3 y4 y5 y6) = f30e11 y0 y1 y2 y3 y4 y5 := hide (by kernel_rfl)
theorem f30n19 {R : Type} (call : Bool → CallF R) (dem : Bool) (N : Nat) (J : KF R) (e : Env) (σ : St) : runK Try.prog call dem N f30c19 f30a19 J e σ = runK Try.prog call dem N f30c20 f30a20 (seqC (fun K e σ => runK Try.prog call dem N f30c21 f30a21 K e σ) f30a19 J) e σ := runK_seq' (by kernel_rfl) (by kernel_rfl) (by kernel_rfl)
theorem f30n20 {R : Type} (call : Bool → CallF R) (dem : Bool) (N : Nat) (J : KF R) (e : Env) (σ : St) : runK Try.prog call dem N f30c20 f30a20 J e σ = runK Try.prog call dem N f30c22 f30a22 (seqC (fun K e σ => runK Try.prog call dem N f30c23 f30a23 K e σ) f30a20 J) e σ := runK_seq' (by kernel_rfl) (by kernel_rfl) (by kernel_rfl)
theorem f30r22_f30e11 {R : Type} (call : Bool → CallF R) (dem : Bool) (N : Nat) (y0 : Nat) (y1 : Int) (y2 : Int) (y3 : Int) (y4 : Int) (y5 : Int) (J : KF R) (σ : St) :
    runK Try.prog call dem N f30c22 f30a22 J (f30e11 y0 y1 y2 y3 y4 y5) σ =
J Ex.normal (f30e12 y0 y1 y2 y3 y4 y5 (IntKind.wrap IntKind.i64 (y4 + (1 : Int))) y4 (IntKind.wrap IntKind.i64 (y4 + (1 : Int)))) σ := hide (by kernel_rfl)
theorem f30z20_f30e12 (y0 : Nat) (y1 : Int) (y2 : Int) (y3 : Int) (y4 : Int) (y5 : Int) (y6 : Int) (y7 : Int) (y8 : Int) : Ann.clr f30a20 (f30e12 y0 y1 y2 y3 y4 y5 y6 y7 y8) = f30e13 y0 y1 y2 y3 y4 y5 y6 := hide (by kernel_rfl)
theorem f30n23 {R : Type} (call : Bool → CallF R) (dem : Bool) (N : Nat) (J : KF R) (e : Env) (σ : St) : runK Try.prog call dem N f30c23 f30a23 J e σ = runK Try.prog call dem N f30c24 f30a24 (seqC (fun K e σ => runK Try.prog call dem N f30c25 f30a25 K e σ) f30a23 J) e σ := runK_seq' (by kernel_rfl) (by kernel_rfl) (by kernel_rfl)
theorem f30r24_f30e13 {R : Type} (call : Bool → CallF R) (dem : Bool) (N : Nat) (y0 : Nat) (y1 : Int) (y2 : Int) (y3 : Int) (y4 : Int) (y5 : Int) (y6 : Int) (J : KF R) (σ : St) :
    runK Try.prog call dem N f30c24 f30a24 J (f30e13 y0 y1 y2 y3 y4 y5 y6) σ =
if decide (y6 < y2) = true then
  Option.bind (St.ld σ y0 (2 : Nat)) fun v0 =>
    Option.bind (AV.toSl (4 : Nat) v0) fun v1 =>
      call dem (50 : Nat) [AV.slice (Sl.o v1) (Sl.len v1) (Sl.cap v1) (4 : Nat), AV.int IntKind.i64 y6, AV.int IntKind.i64 y4] σ fun v2 v3 =>
        Option.bind (AV.toBool v2) fun v4 => J Ex.normal (f30e14 y0 y1 y2 y3 y4 y5 y6 y6 y2 (decide (y6 < y2)) true y0 y6 y4 v4 v4) v3
else J Ex.normal (f30e15 y0 y1 y2 y3 y4 y5 y6 y6 y2 (decide (y6 < y2)) false false) σ := hide (by kernel_rfl)
theorem f30z23_f30e14 (y0 : Nat) (y1 : Int) (y2 : Int) (y3 : Int) (y4 : Int) (y5 : Int) (y6 : Int) (y7 : Int) (y8 : Int) (y9 : Bool) (y10 : Bool) (y11 : Nat) (y12 : Int) (y13 : Int) (y14 : Bool) (y15 : Bool) : Ann.clr f30a23 (f30e14 y0 y1 y2 y3 y4 y5 y6 y7 y8 y9 y10 y11 y12 y13 y14 y15) = f30e16 y0 y1 y2 y3 y5 y6 y15 := hide (by kernel_rfl)
theorem f30x25_f30e16 {R : Type} (call : Bool → CallF R) (dem : Bool) (N : Nat) (y0 : Nat) (y1 : Int) (y2 : Int) (y3 : Int) (y4 : Int) (y5 : Int) (y6 : Bool) (J : KF R) (σ : St) : runK Try.prog call dem N f30c25 f30a25 J (f30e16 y0 y1 y2 y3 y4 y5 y6) σ = if y6 = true then runK Try.prog call dem N f30c26 f30a26 (condC f30a25 J) (f30e16 y0 y1 y2 y3 y4 y5 y6) σ else runK Try.prog call dem N f30c27 f30a27 (condC f30a25 J) (f30e16 y0 y1 y2 y3 y4 y5 y6) σ := runK_cond' (o := Operand.tmp (33 : Nat)) (by kernel_rfl) (by kernel_rfl) (by kernel_rfl) (by kernel_rfl)
theorem f30r26_f30e16 {R : Type} (call : Bool → CallF R) (dem : Bool) (N : Nat) (y0 : Nat) (y1 : Int) (y2 : Int) (y3 : Int) (y4 : Int) (y5 : Int) (y6 : Bool) (J : KF R) (σ : St) :
    runK Try.prog call dem N f30c26 f30a26 J (f30e16 y0 y1 y2 y3 y4 y5 y6) σ =
J Ex.normal (f30e17 y0 y1 y2 y3 y5 y5 y6 y5) σ := hide (by kernel_rfl)
theorem f30z25_f30e17 (y0 : Nat) (y1 : Int) (y2 : Int) (y3 : Int) (y4 : Int) (y5 : Int) (y6 : Bool) (y7 : Int) : Ann.clr f30a25 (f30e17 y0 y1 y2 y3 y4 y5 y6 y7) = f30e18 y0 y1 y2 y3 y4 := hide (by kernel_rfl)
theorem f30n27 {R : Type} (call : Bool → CallF R) (dem : Bool) (N : Nat) (J : KF R) (e : Env) (σ : St) : runK Try.prog call dem N f30c27 f30a27 J e σ = J .normal e σ := runK_skip' (by kernel_rfl)
theorem f30z25_f30e16 (y0 : Nat) (y1 : Int) (y2 : Int) (y3 : Int) (y4 : Int) (y5 : Int) (y6 : Bool) : Ann.clr f30a25 (f30e16 y0 y1 y2 y3 y4 y5 y6) = f30e18 y0 y1 y2 y3 y4 := hide (by kernel_rfl)
theorem f30z23_f30e15 (y0 : Nat) (y1 : Int) (y2 : Int) (y3 : Int) (y4 : Int) (y5 : Int) (y6 : Int) (y7 : Int) (y8 : Int) (y9 : Bool) (y10 : Bool) (y11 : Bool) : Ann.clr f30a23 (f30e15 y0 y1 y2 y3 y4 y5 y6 y7 y8 y9 y10 y11) = f30e16 y0 y1 y2 y3 y5 y6 y11 := hide (by kernel_rfl)
theorem f30z19_f30e18 (y0 : Nat) (y1 : Int) (y2 : Int) (y3 : Int) (y4 : Int) : Ann.clr f30a19 (f30e18 y0 y1 y2 y3 y4) = f30e18 y0 y1 y2 y3 y4 := hide (by kernel_rfl)
theorem f30n21 {R : Type} (call : Bool → CallF R) (dem : Bool) (N : Nat) (J : KF R) (e : Env) (σ : St) : runK Try.prog call dem N f30c21 f30a21 J e σ = runK Try.prog call dem N f30c28 f30a28 (seqC (fun K e σ => runK Try.prog call dem N f30c29 f30a29 K e σ) f30a21 J) e σ := runK_seq' (by kernel_rfl) (by kernel_rfl) (by kernel_rfl)
theorem f30n28 {R : Type} (call : Bool → CallF R) (dem : Bool) (N : Nat) (J : KF R) (e : Env) (σ : St) : runK Try.prog call dem N f30c28 f30a28 J e σ = runK Try.prog call dem N f30c30 f30a30 (seqC (fun K e σ => runK Try.prog call dem N f30c31 f30a31 K e σ) f30a28 J) e σ := runK_seq' (by kernel_rfl) (by kernel_rfl) (by kernel_rfl)
theorem f30r30_f30e18 {R : Type} (call : Bool → CallF R) (dem : Bool) (N : Nat) (y0 : Nat) (y1 : Int) (y2 : Int) (y3 : Int) (y4 : Int) (J : KF R) (σ : St) :
    runK Try.prog call dem N f30c30 f30a30 J (f30e18 y0 y1 y2 y3 y4) σ =
Option.bind (St.ld σ y0 (2 : Nat)) fun v0 =>
  Option.bind (AV.toSl (4 : Nat) v0) fun v1 =>
    call dem (50 : Nat) [AV.slice (Sl.o v1) (Sl.len v1) (Sl.cap v1) (4 : Nat), AV.int IntKind.i64 y4, AV.int IntKind.i64 y3] σ fun v2 v3 =>
      Option.bind (AV.toBool v2) fun v4 => J Ex.normal (f30e19 y0 y1 y2 y3 y4 y0 y4 y3 v4 !v4) v3 := hide (by kernel_rfl)
theorem f30z28_f30e19 (y0 : Nat) (y1 : Int) (y2 : Int) (y3 : Int) (y4 : Int) (y5 : Nat) (y6 : Int) (y7 : Int) (y8 : Bool) (y9 : Bool) : Ann.clr f30a28 (f30e19 y0 y1 y2 y3 y4 y5 y6 y7 y8 y9) = f30e20 y0 y1 y2 y3 y4 y9 := hide (by kernel_rfl)
theorem f30x31_f30e20 {R : Type} (call : Bool → CallF R) (dem : Bool) (N : Nat) (y0 : Nat) (y1 : Int) (y2 : Int) (y3 : Int) (y4 : Int) (y5 : Bool) (J : KF R) (σ : St) : runK Try.prog call dem N f30c31 f30a31 J (f30e20 y0 y1 y2 y3 y4 y5) σ = if y5 = true then runK Try.prog call dem N f30c32 f30a32 (condC f30a31 J) (f30e20 y0 y1 y2 y3 y4 y5) σ else runK Try.prog call dem N f30c33 f30a33 (condC f30a31 J) (f30e20 y0 y1 y2 y3 y4 y5) σ := runK_cond' (o := Operand.tmp (39 : Nat)) (by kernel_rfl) (by kernel_rfl) (by kernel_rfl) (by kernel_rfl)
theorem f30y32_f30e20 {R : Type} (call : Bool → CallF R) (dem : Bool) (N : Nat) (y0 : Nat) (y1 : Int) (y2 : Int) (y3 : Int) (y4 : Int) (y5 : Bool) (J : KF R) (σ : St) : runK Try.prog call dem N f30c32 f30a32 J (f30e20 y0 y1 y2 y3 y4 y5) σ = J (.exit 0) (f30e9 y1 y3) σ := runK_exit' (by kernel_rfl) (by kernel_rfl)
theorem f30n33 {R : Type} (call : Bool → CallF R) (dem : Bool) (N : Nat) (J : KF R) (e : Env) (σ : St) : runK Try.prog call dem N f30c33 f30a33 J e σ = J .normal e σ := runK_skip' (by kernel_rfl)
theorem f30z31_f30e20 (y0 : Nat) (y1 : Int) (y2 : Int) (y3 : Int) (y4 : Int) (y5 : Bool) : Ann.clr f30a31 (f30e20 y0 y1 y2 y3 y4 y5) = f30e18 y0 y1 y2 y3 y4 := hide (by kernel_rfl)
theorem f30z21_f30e18 (y0 : Nat) (y1 : Int) (y2 : Int) (y3 : Int) (y4 : Int) : Ann.clr f30a21 (f30e18 y0 y1 y2 y3 y4) = f30e18 y0 y1 y2 y3 y4 := hide (by kernel_rfl)
theorem f30n29 {R : Type} (call : Bool → CallF R) (dem : Bool) (N : Nat) (J : KF R) (e : Env) (σ : St) : runK Try.prog call dem N f30c29 f30a29 J e σ = runK Try.prog call dem N f30c34 f30a34 (seqC (fun K e σ => runK Try.prog call dem N f30c35 f30a35 K e σ) f30a29 J) e σ := runK_seq' (by kernel_rfl) (by kernel_rfl) (by kernel_rfl)
theorem f30r34_f30e18 {R : Type} (call : Bool → CallF R) (dem : Bool) (N : Nat) (y0 : Nat) (y1 : Int) (y2 : Int) (y3 : Int) (y4 : Int) (J : KF R) (σ : St) :
    runK Try.prog call dem N f30c34 f30a34 J (f30e18 y0 y1 y2 y3 y4) σ =
Option.bind (St.ld σ y0 (2 : Nat)) fun v0 =>
  Option.bind (AV.toSl (4 : Nat) v0) fun v1 =>
    call dem (51 : Nat) [AV.slice (Sl.o v1) (Sl.len v1) (Sl.cap v1) (4 : Nat), AV.int IntKind.i64 y3, AV.int IntKind.i64 y4] σ fun v2 v3 =>
      Option.bind (AV.toTuple v2) fun v4 => if List.length v4 = (0 : Nat) then J Ex.normal (f30e21 y0 y1 y2 y3 y4 y0 y3 y4) v3 else none := hide (by kernel_rfl)
theorem f30z29_f30e21 (y0 : Nat) (y1 : Int) (y2 : Int) (y3 : Int) (y4 : Int) (y5 : Nat) (y6 : Int) (y7 : Int) : Ann.clr f30a29 (f30e21 y0 y1 y2 y3 y4 y5 y6 y7) = f30e22 y0 y1 y2 y4 := hide (by kernel_rfl)
theorem f30r35_f30e22 {R : Type} (call : Bool → CallF R) (dem : Bool) (N : Nat) (y0 : Nat) (y1 : Int) (y2 : Int) (y3 : Int) (J : KF R) (σ : St) :
    runK Try.prog call dem N f30c35 f30a35 J (f30e22 y0 y1 y2 y3) σ =
J Ex.normal (f30e23 y0 y1 y2 y3 y3 y3) σ := hide (by kernel_rfl)
theorem f30z8_f30e23 (y0 : Nat) (y1 : Int) (y2 : Int) (y3 : Int) (y4 : Int) (y5 : Int) : Ann.clr f30a8 (f30e23 y0 y1 y2 y3 y4 y5) = f30e3 y0 y1 y2 y3 := hide (by kernel_rfl)
theorem f30z5_f30e9 (y0 : Int) (y1 : Int) : Ann.clr f30a5 (f30e9 y0 y1) = f30e9 y0 y1 := hide (by kernel_rfl)
theorem f30z4_f30e9 (y0 : Int) (y1 : Int) : Ann.clr f30a4 (f30e9 y0 y1) = f30e9 y0 y1 := hide (by kernel_rfl)
theorem f30n6 {R : Type} (call : Bool → CallF R) (dem : Bool) (N : Nat) (J : KF R) (e : Env) (σ : St) : runK Try.prog call dem N f30c6 f30a6 J e σ = runK Try.prog call dem N f30c36 f30a36 (seqC (fun K e σ => runK Try.prog call dem N f30c37 f30a37 K e σ) f30a6 J) e σ := runK_seq' (by kernel_rfl) (by kernel_rfl) (by kernel_rfl)
theorem f30r36_f30e9 {R : Type} (call : Bool → CallF R) (dem : Bool) (N : Nat) (y0 : Int) (y1 : Int) (J : KF R) (σ : St) :
    runK Try.prog call dem N f30c36 f30a36 J (f30e9 y0 y1) σ =
J Ex.normal (f30e24 y0 (decide (y1 > y0)) y1 y1 y0 (decide (y1 > y0))) σ := hide (by kernel_rfl)
theorem f30z6_f30e24 (y0 : Int) (y1 : Bool) (y2 : Int) (y3 : Int) (y4 : Int) (y5 : Bool) : Ann.clr f30a6 (f30e24 y0 y1 y2 y3 y4 y5) = f30e25 y1 := hide (by kernel_rfl)
theorem f30y37_f30e25 {R : Type} (call : Bool → CallF R) (dem : Bool) (N : Nat) (y0 : Bool) (J : KF R) (σ : St) : runK Try.prog call dem N f30c37 f30a37 J (f30e25 y0) σ = J .ret (f30e25 y0) σ := runK_ret' (by kernel_rfl) (by kernel_rfl)
theorem f30b_f30e25_r {R : Type} (y0 : Bool) (σ : St) (K : AV → St → Option R) : bodyC Try.prog f30rs K (Ex.ret) (f30e25 y0) σ =
K (AV.bool y0) σ := hide (by kernel_rfl)
attribute [go_sem] f30_eq f30n0 f30r1_f30e0 f30z0_f30e1 f30n2 f30r3_f30e0 f30z2_f30e2 f30n4 f30n5 f30L7_eq f30z7_f30e3 f30l7_f30e3 f30n8 f30n9 f30r10_f30e3 f30z9_f30e4 f30n11 f30n12 f30r14_f30e5 f30z12_f30e6 f30x15_f30e8 f30y16_f30e8 f30n17 f30z15_f30e8 f30z12_f30e7 f30z11_f30e5 f30n13 f30r18_f30e5 f30z13_f30e10 f30n19 f30n20 f30r22_f30e11 f30z20_f30e12 f30n23 f30r24_f30e13 f30z23_f30e14 f30x25_f30e16 f30r26_f30e16 f30z25_f30e17 f30n27 f30z25_f30e16 f30z23_f30e15 f30z19_f30e18 f30n21 f30n28 f30r30_f30e18 f30z28_f30e19 f30x31_f30e20 f30y32_f30e20 f30n33 f30z31_f30e20 f30z21_f30e18 f30n29 f30r34_f30e18 f30z29_f30e21 f30r35_f30e22 f30z8_f30e23 f30z5_f30e9 f30z4_f30e9 f30n6 f30r36_f30e9 f30z6_f30e24 f30y37_f30e25 f30b_f30e25_r

noncomputable def f49rs : List ResultVar := [ResultVar.tmp (2 : Nat)]
noncomputable def f49c0 : Code := subCode [] (bodyOf Try.prog 49)
def f49a0 : Ann := subAnn [] ann49
noncomputable def f49c1 : Code := subCode [0] (bodyOf Try.prog 49)
def f49a1 : Ann := subAnn [0] ann49
noncomputable def f49c2 : Code := subCode [1] (bodyOf Try.prog 49)
def f49a2 : Ann := subAnn [1] ann49
noncomputable def f49c3 : Code := subCode [1, 0] (bodyOf Try.prog 49)
def f49a3 : Ann := subAnn [1, 0] ann49
noncomputable def f49c4 : Code := subCode [1, 1] (bodyOf Try.prog 49)
def f49a4 : Ann := subAnn [1, 1] ann49
def f49e0 (y0 : Option (Nat × Nat)) (y1 : Nat) (y2 : Option Nat) : Env := AV.slice y0 y1 y2 (4 : Nat) :: Env.sp 4 []
def f49e1 (y0 : Option (Nat × Nat)) (y1 : Nat) (y2 : Option Nat) (y3 : Int) : Env := AV.slice y0 y1 y2 (4 : Nat) :: Env.sp 1 (AV.int IntKind.i64 y3 :: Env.sp 2 [])
def f49e2 (y0 : Option (Nat × Nat)) (y1 : Nat) (y2 : Option Nat) (y3 : Int) (y4 : Option (Nat × Nat)) (y5 : Nat) (y6 : Option Nat) (y7 : Int) : Env := AV.slice y0 y1 y2 (4 : Nat) :: Env.sp 1 (AV.int IntKind.i64 y3 :: AV.slice y4 y5 y6 (4 : Nat) :: AV.int IntKind.i64 y7 :: [])
def f49e3 (y0 : Int) : Env := Env.sp 2 (AV.int IntKind.i64 y0 :: Env.sp 2 [])

/- function 49 -/
theorem f49_eq {R : Type} (call : Bool → CallF R) (dem : Bool) (N : Nat) (y0 : Option (Nat × Nat)) (y1 : Nat) (y2 : Option Nat) (σ : St) (K : AV → St → Option R) :
    bodyK Try.prog call dem N ann 49 [AV.slice y0 y1 y2 (4 : Nat)] σ K = runK Try.prog call dem N f49c0 f49a0 (bodyC Try.prog f49rs K) (f49e0 y0 y1 y2) σ := bodyK_of (fn := ((Try.prog.funcs[49]?).get rfl)) (by kernel_rfl) (by kernel_rfl) (by kernel_rfl) (by kernel_rfl) (by kernel_rfl) (by kernel_rfl)
theorem f49n0 {R : Type} (call : Bool → CallF R) (dem : Bool) (N : Nat) (J : KF R) (e : Env) (σ : St) : runK Try.prog call dem N f49c0 f49a0 J e σ = runK Try.prog call dem N f49c1 f49a1 (seqC (fun K e σ => runK Try.prog call dem N f49c2 f49a2 K e σ) f49a0 J) e σ := runK_seq' (by kernel_rfl) (by kernel_rfl) (by kernel_rfl)
theorem f49r1_f49e0 {R : Type} (call : Bool → CallF R) (dem : Bool) (N : Nat) (y0 : Option (Nat × Nat)) (y1 : Nat) (y2 : Option Nat) (J : KF R) (σ : St) :
    runK Try.prog call dem N f49c1 f49a1 J (f49e0 y0 y1 y2) σ =
J Ex.normal (f49e1 y0 y1 y2 (0 : Int)) σ := hide (by kernel_rfl)
theorem f49z0_f49e1 (y0 : Option (Nat × Nat)) (y1 : Nat) (y2 : Option Nat) (y3 : Int) : Ann.clr f49a0 (f49e1 y0 y1 y2 y3) = f49e0 y0 y1 y2 := hide (by kernel_rfl)
theorem f49n2 {R : Type} (call : Bool → CallF R) (dem : Bool) (N : Nat) (J : KF R) (e : Env) (σ : St) : runK Try.prog call dem N f49c2 f49a2 J e σ = runK Try.prog call dem N f49c3 f49a3 (seqC (fun K e σ => runK Try.prog call dem N f49c4 f49a4 K e σ) f49a2 J) e σ := runK_seq' (by kernel_rfl) (by kernel_rfl) (by kernel_rfl)
theorem f49r3_f49e0 {R : Type} (call : Bool → CallF R) (dem : Bool) (N : Nat) (y0 : Option (Nat × Nat)) (y1 : Nat) (y2 : Option Nat) (J : KF R) (σ : St) :
    runK Try.prog call dem N f49c3 f49a3 J (f49e0 y0 y1 y2) σ =
J Ex.normal (f49e2 y0 y1 y2 (↑y1 : Int) y0 y1 y2 (↑y1 : Int)) σ := hide (by kernel_rfl)
theorem f49z2_f49e2 (y0 : Option (Nat × Nat)) (y1 : Nat) (y2 : Option Nat) (y3 : Int) (y4 : Option (Nat × Nat)) (y5 : Nat) (y6 : Option Nat) (y7 : Int) : Ann.clr f49a2 (f49e2 y0 y1 y2 y3 y4 y5 y6 y7) = f49e3 y3 := hide (by kernel_rfl)
theorem f49y4_f49e3 {R : Type} (call : Bool → CallF R) (dem : Bool) (N : Nat) (y0 : Int) (J : KF R) (σ : St) : runK Try.prog call dem N f49c4 f49a4 J (f49e3 y0) σ = J .ret (f49e3 y0) σ := runK_ret' (by kernel_rfl) (by kernel_rfl)
theorem f49b_f49e3_r {R : Type} (y0 : Int) (σ : St) (K : AV → St → Option R) : bodyC Try.prog f49rs K (Ex.ret) (f49e3 y0) σ =
K (AV.int IntKind.i64 y0) σ := hide (by kernel_rfl)
attribute [go_sem] f49_eq f49n0 f49r1_f49e0 f49z0_f49e1 f49n2 f49r3_f49e0 f49z2_f49e2 f49y4_f49e3 f49b_f49e3_r

noncomputable def f50rs : List ResultVar := [ResultVar.tmp (6 : Nat)]
noncomputable def f50c0 : Code := subCode [] (bodyOf Try.prog 50)
def f50a0 : Ann := subAnn [] ann50
noncomputable def f50c1 : Code := subCode [0] (bodyOf Try.prog 50)
def f50a1 : Ann := subAnn [0] ann50
noncomputable def f50c2 : Code := subCode [1] (bodyOf Try.prog 50)
def f50a2 : Ann := subAnn [1] ann50
noncomputable def f50c3 : Code := subCode [1, 0] (bodyOf Try.prog 50)
def f50a3 : Ann := subAnn [1, 0] ann50
noncomputable def f50c4 : Code := subCode [1, 1] (bodyOf Try.prog 50)
def f50a4 : Ann := subAnn [1, 1] ann50
noncomputable def f50c5 : Code := subCode [1, 0, 0] (bodyOf Try.prog 50)
def f50a5 : Ann := subAnn [1, 0, 0] ann50
noncomputable def f50c6 : Code := subCode [1, 0, 1] (bodyOf Try.prog 50)
def f50a6 : Ann := subAnn [1, 0, 1] ann50
noncomputable def f50c7 : Code := subCode [1, 0, 1, 0] (bodyOf Try.prog 50)
def f50a7 : Ann := subAnn [1, 0, 1, 0] ann50
noncomputable def f50c8 : Code := subCode [1, 0, 1, 1] (bodyOf Try.prog 50)
def f50a8 : Ann := subAnn [1, 0, 1, 1] ann50
noncomputable def f50c9 : Code := subCode [1, 0, 1, 0, 0] (bodyOf Try.prog 50)
def f50a9 : Ann := subAnn [1, 0, 1, 0, 0] ann50
noncomputable def f50c10 : Code := subCode [1, 0, 1, 0, 1] (bodyOf Try.prog 50)
def f50a10 : Ann := subAnn [1, 0, 1, 0, 1] ann50
noncomputable def f50c11 : Code := subCode [1, 1, 0] (bodyOf Try.prog 50)
def f50a11 : Ann := subAnn [1, 1, 0] ann50
noncomputable def f50c12 : Code := subCode [1, 1, 1] (bodyOf Try.prog 50)
def f50a12 : Ann := subAnn [1, 1, 1] ann50
def f50e0 (y0 : Option (Nat × Nat)) (y1 : Nat) (y2 : Option Nat) (y3 : Int) (y4 : Int) : Env := AV.slice y0 y1 y2 (4 : Nat) :: AV.int IntKind.i64 y3 :: AV.int IntKind.i64 y4 :: Env.sp 37 []
def f50e1 (y0 : Option (Nat × Nat)) (y1 : Nat) (y2 : Option Nat) (y3 : Int) (y4 : Int) (y5 : Bool) : Env := AV.slice y0 y1 y2 (4 : Nat) :: AV.int IntKind.i64 y3 :: AV.int IntKind.i64 y4 :: Env.sp 3 (AV.bool y5 :: Env.sp 33 [])
def f50e2 (y0 : Option (Nat × Nat)) (y1 : Nat) (y2 : Option Nat) (y3 : Int) (y4 : Int) (y5 : Option (Nat × Nat)) (y6 : Nat) (y7 : Option Nat) (y8 : Int) (y9 : Option (Nat × Nat)) (y10 : Option (Nat × Nat)) (y11 : Int) (y12 : Option (Nat × Nat)) (y13 : Nat) (y14 : Option Nat) (y15 : Int) (y16 : Option (Nat × Nat)) (y17 : Option (Nat × Nat)) (y18 : Int) (y19 : Bool) : Env := AV.slice y0 y1 y2 (4 : Nat) :: AV.int IntKind.i64 y3 :: AV.int IntKind.i64 y4 :: Env.sp 4 (AV.slice y5 y6 y7 (4 : Nat) :: AV.int IntKind.i64 y8 :: AV.ptr y9 :: AV.ptr y10 :: AV.int IntKind.i64 y11 :: AV.slice y12 y13 y14 (4 : Nat) :: AV.int IntKind.i64 y15 :: AV.ptr y16 :: AV.ptr y17 :: AV.int IntKind.i64 y18 :: AV.bool y19 :: Env.sp 22 [])
def f50e3 (y0 : Option (Nat × Nat)) (y1 : Nat) (y2 : Option Nat) (y3 : Int) (y4 : Int) (y5 : Bool) : Env := AV.slice y0 y1 y2 (4 : Nat) :: AV.int IntKind.i64 y3 :: AV.int IntKind.i64 y4 :: Env.sp 14 (AV.bool y5 :: Env.sp 22 [])
def f50e4 (y0 : Option (Nat × Nat)) (y1 : Nat) (y2 : Option Nat) (y3 : Int) (y4 : Int) (y5 : Bool) (y6 : Bool) (y7 : Option (Nat × Nat)) (y8 : Nat) (y9 : Option Nat) (y10 : Int) (y11 : Option (Nat × Nat)) (y12 : Option (Nat × Nat)) (y13 : Int) (y14 : Option (Nat × Nat)) (y15 : Nat) (y16 : Option Nat) (y17 : Int) (y18 : Option (Nat × Nat)) (y19 : Option (Nat × Nat)) (y20 : Int) (y21 : Bool) : Env := AV.slice y0 y1 y2 (4 : Nat) :: AV.int IntKind.i64 y3 :: AV.int IntKind.i64 y4 :: Env.sp 3 (AV.bool y5 :: Env.sp 10 (AV.bool y6 :: AV.slice y7 y8 y9 (4 : Nat) :: AV.int IntKind.i64 y10 :: AV.ptr y11 :: AV.ptr y12 :: AV.int IntKind.i64 y13 :: AV.slice y14 y15 y16 (4 : Nat) :: AV.int IntKind.i64 y17 :: AV.ptr y18 :: AV.ptr y19 :: AV.int IntKind.i64 y20 :: AV.bool y21 :: Env.sp 11 []))
def f50e5 (y0 : Bool) : Env := Env.sp 6 (AV.bool y0 :: Env.sp 33 [])
def f50e6 (y0 : Option (Nat × Nat)) (y1 : Nat) (y2 : Option Nat) (y3 : Int) (y4 : Int) (y5 : Bool) (y6 : Option (Nat × Nat)) (y7 : Nat) (y8 : Option Nat) (y9 : Int) (y10 : Option (Nat × Nat)) (y11 : Option (Nat × Nat)) (y12 : Int) (y13 : Option (Nat × Nat)) (y14 : Nat) (y15 : Option Nat) (y16 : Int) (y17 : Option (Nat × Nat)) (y18 : Option (Nat × Nat)) (y19 : Int) (y20 : Bool) : Env := AV.slice y0 y1 y2 (4 : Nat) :: AV.int IntKind.i64 y3 :: AV.int IntKind.i64 y4 :: Env.sp 3 (AV.bool y5 :: Env.sp 22 (AV.slice y6 y7 y8 (4 : Nat) :: AV.int IntKind.i64 y9 :: AV.ptr y10 :: AV.ptr y11 :: AV.int IntKind.i64 y12 :: AV.slice y13 y14 y15 (4 : Nat) :: AV.int IntKind.i64 y16 :: AV.ptr y17 :: AV.ptr y18 :: AV.int IntKind.i64 y19 :: AV.bool y20 :: []))

/- function 50 -/
theorem f50_eq {R : Type} (call : Bool → CallF R) (dem : Bool) (N : Nat) (y0 : Option (Nat × Nat)) (y1 : Nat) (y2 : Option Nat) (y3 : Int) (y4 : Int) (σ : St) (K : AV → St → Option R) :
    bodyK Try.prog call dem N ann 50 [AV.slice y0 y1 y2 (4 : Nat), AV.int IntKind.i64 y3, AV.int IntKind.i64 y4] σ K = runK Try.prog call dem N f50c0 f50a0 (bodyC Try.prog f50rs K) (f50e0 y0 y1 y2 y3 y4) σ := bodyK_of (fn := ((Try.prog.funcs[50]?).get rfl)) (by kernel_rfl) (by kernel_rfl) (by kernel_rfl) (by kernel_rfl) (by kernel_rfl) (by kernel_rfl)
theorem f50n0 {R : Type} (call : Bool → CallF R) (dem : Bool) (N : Nat) (J : KF R) (e : Env) (σ : St) : runK Try.prog call dem N f50c0 f50a0 J e σ = runK Try.prog call dem N f50c1 f50a1 (seqC (fun K e σ => runK Try.prog call dem N f50c2 f50a2 K e σ) f50a0 J) e σ := runK_seq' (by kernel_rfl) (by kernel_rfl) (by kernel_rfl)
theorem f50r1_f50e0 {R : Type} (call : Bool → CallF R) (dem : Bool) (N : Nat) (y0 : Option (Nat × Nat)) (y1 : Nat) (y2 : Option Nat) (y3 : Int) (y4 : Int) (J : KF R) (σ : St) :
    runK Try.prog call dem N f50c1 f50a1 J (f50e0 y0 y1 y2 y3 y4) σ =
J Ex.normal (f50e1 y0 y1 y2 y3 y4 false) σ := hide (by kernel_rfl)
theorem f50z0_f50e1 (y0 : Option (Nat × Nat)) (y1 : Nat) (y2 : Option Nat) (y3 : Int) (y4 : Int) (y5 : Bool) : Ann.clr f50a0 (f50e1 y0 y1 y2 y3 y4 y5) = f50e0 y0 y1 y2 y3 y4 := hide (by kernel_rfl)
theorem f50n2 {R : Type} (call : Bool → CallF R) (dem : Bool) (N : Nat) (J : KF R) (e : Env) (σ : St) : runK Try.prog call dem N f50c2 f50a2 J e σ = runK Try.prog call dem N f50c3 f50a3 (seqC (fun K e σ => runK Try.prog call dem N f50c4 f50a4 K e σ) f50a2 J) e σ := runK_seq' (by kernel_rfl) (by kernel_rfl) (by kernel_rfl)
theorem f50n3 {R : Type} (call : Bool → CallF R) (dem : Bool) (N : Nat) (J : KF R) (e : Env) (σ : St) : runK Try.prog call dem N f50c3 f50a3 J e σ = runK Try.prog call dem N f50c5 f50a5 (seqC (fun K e σ => runK Try.prog call dem N f50c6 f50a6 K e σ) f50a3 J) e σ := runK_seq' (by kernel_rfl) (by kernel_rfl) (by kernel_rfl)
theorem f50r5_f50e0 {R : Type} (call : Bool → CallF R) (dem : Bool) (N : Nat) (y0 : Option (Nat × Nat)) (y1 : Nat) (y2 : Option Nat) (y3 : Int) (y4 : Int) (J : KF R) (σ : St) :
    runK Try.prog call dem N f50c5 f50a5 J (f50e0 y0 y1 y2 y3 y4) σ =
if (0 : Int) ≤ y3 ∧ y3 < (↑y1 : Int) then
  Option.bind y0 fun v0 =>
    Option.bind (St.ld σ (Prod.fst v0) (Prod.snd v0 + Int.toNat y3 * (4 : Nat) + (1 : Nat))) fun v1 =>
      Option.bind (AV.toInt IntKind.i64 v1) fun v2 =>
        if (0 : Int) ≤ y4 ∧ y4 < (↑y1 : Int) then
          Option.bind y0 fun v3 =>
            Option.bind (St.ld σ (Prod.fst v3) (Prod.snd v3 + Int.toNat y4 * (4 : Nat) + (1 : Nat))) fun v4 =>
              Option.bind (AV.toInt IntKind.i64 v4) fun v5 =>
                J Ex.normal
                  (f50e2 y0 y1 y2 y3 y4 y0 y1 y2 y3 (some (Prod.fst v0, Prod.snd v0 + Int.toNat y3 * (4 : Nat)))
                    (some (Prod.fst v0, Prod.snd v0 + Int.toNat y3 * (4 : Nat) + (1 : Nat))) v2 y0 y1 y2 y4
                    (some (Prod.fst v3, Prod.snd v3 + Int.toNat y4 * (4 : Nat)))
                    (some (Prod.fst v3, Prod.snd v3 + Int.toNat y4 * (4 : Nat) + (1 : Nat))) v5 (v2 != v5))
                  σ
        else none
else none := hide (by kernel_rfl)
theorem f50z3_f50e2 (y0 : Option (Nat × Nat)) (y1 : Nat) (y2 : Option Nat) (y3 : Int) (y4 : Int) (y5 : Option (Nat × Nat)) (y6 : Nat) (y7 : Option Nat) (y8 : Int) (y9 : Option (Nat × Nat)) (y10 : Option (Nat × Nat)) (y11 : Int) (y12 : Option (Nat × Nat)) (y13 : Nat) (y14 : Option Nat) (y15 : Int) (y16 : Option (Nat × Nat)) (y17 : Option (Nat × Nat)) (y18 : Int) (y19 : Bool) : Ann.clr f50a3 (f50e2 y0 y1 y2 y3 y4 y5 y6 y7 y8 y9 y10 y11 y12 y13 y14 y15 y16 y17 y18 y19) = f50e3 y0 y1 y2 y3 y4 y19 := hide (by kernel_rfl)
theorem f50x6_f50e3 {R : Type} (call : Bool → CallF R) (dem : Bool) (N : Nat) (y0 : Option (Nat × Nat)) (y1 : Nat) (y2 : Option Nat) (y3 : Int) (y4 : Int) (y5 : Bool) (J : KF R) (σ : St) : runK Try.prog call dem N f50c6 f50a6 J (f50e3 y0 y1 y2 y3 y4 y5) σ = if y5 = true then runK Try.prog call dem N f50c7 f50a7 (condC f50a6 J) (f50e3 y0 y1 y2 y3 y4 y5) σ else runK Try.prog call dem N f50c8 f50a8 (condC f50a6 J) (f50e3 y0 y1 y2 y3 y4 y5) σ := runK_cond' (o := Operand.tmp (17 : Nat)) (by kernel_rfl) (by kernel_rfl) (by kernel_rfl) (by kernel_rfl)
theorem f50n7 {R : Type} (call : Bool → CallF R) (dem : Bool) (N : Nat) (J : KF R) (e : Env) (σ : St) : runK Try.prog call dem N f50c7 f50a7 J e σ = runK Try.prog call dem N f50c9 f50a9 (seqC (fun K e σ => runK Try.prog call dem N f50c10 f50a10 K e σ) f50a7 J) e σ := runK_seq' (by kernel_rfl) (by kernel_rfl) (by kernel_rfl)
theorem f50r9_f50e3 {R : Type} (call : Bool → CallF R) (dem : Bool) (N : Nat) (y0 : Option (Nat × Nat)) (y1 : Nat) (y2 : Option Nat) (y3 : Int) (y4 : Int) (y5 : Bool) (J : KF R) (σ : St) :
    runK Try.prog call dem N f50c9 f50a9 J (f50e3 y0 y1 y2 y3 y4 y5) σ =
if (0 : Int) ≤ y3 ∧ y3 < (↑y1 : Int) then
  Option.bind y0 fun v0 =>
    Option.bind (St.ld σ (Prod.fst v0) (Prod.snd v0 + Int.toNat y3 * (4 : Nat) + (1 : Nat))) fun v1 =>
      Option.bind (AV.toInt IntKind.i64 v1) fun v2 =>
        if (0 : Int) ≤ y4 ∧ y4 < (↑y1 : Int) then
          Option.bind y0 fun v3 =>
            Option.bind (St.ld σ (Prod.fst v3) (Prod.snd v3 + Int.toNat y4 * (4 : Nat) + (1 : Nat))) fun v4 =>
              Option.bind (AV.toInt IntKind.i64 v4) fun v5 =>
                J Ex.normal
                  (f50e4 y0 y1 y2 y3 y4 (decide (v2 < v5)) y5 y0 y1 y2 y3 (some (Prod.fst v0, Prod.snd v0 + Int.toNat y3 * (4 : Nat)))
                    (some (Prod.fst v0, Prod.snd v0 + Int.toNat y3 * (4 : Nat) + (1 : Nat))) v2 y0 y1 y2 y4
                    (some (Prod.fst v3, Prod.snd v3 + Int.toNat y4 * (4 : Nat)))
                    (some (Prod.fst v3, Prod.snd v3 + Int.toNat y4 * (4 : Nat) + (1 : Nat))) v5 (decide (v2 < v5)))
                  σ
        else none
else none := hide (by kernel_rfl)
theorem f50z7_f50e4 (y0 : Option (Nat × Nat)) (y1 : Nat) (y2 : Option Nat) (y3 : Int) (y4 : Int) (y5 : Bool) (y6 : Bool) (y7 : Option (Nat × Nat)) (y8 : Nat) (y9 : Option Nat) (y10 : Int) (y11 : Option (Nat × Nat)) (y12 : Option (Nat × Nat)) (y13 : Int) (y14 : Option (Nat × Nat)) (y15 : Nat) (y16 : Option Nat) (y17 : Int) (y18 : Option (Nat × Nat)) (y19 : Option (Nat × Nat)) (y20 : Int) (y21 : Bool) : Ann.clr f50a7 (f50e4 y0 y1 y2 y3 y4 y5 y6 y7 y8 y9 y10 y11 y12 y13 y14 y15 y16 y17 y18 y19 y20 y21) = f50e5 y5 := hide (by kernel_rfl)
theorem f50y10_f50e5 {R : Type} (call : Bool → CallF R) (dem : Bool) (N : Nat) (y0 : Bool) (J : KF R) (σ : St) : runK Try.prog call dem N f50c10 f50a10 J (f50e5 y0) σ = J .ret (f50e5 y0) σ := runK_ret' (by kernel_rfl) (by kernel_rfl)
theorem f50n8 {R : Type} (call : Bool → CallF R) (dem : Bool) (N : Nat) (J : KF R) (e : Env) (σ : St) : runK Try.prog call dem N f50c8 f50a8 J e σ = J .normal e σ := runK_skip' (by kernel_rfl)
theorem f50z6_f50e3 (y0 : Option (Nat × Nat)) (y1 : Nat) (y2 : Option Nat) (y3 : Int) (y4 : Int) (y5 : Bool) : Ann.clr f50a6 (f50e3 y0 y1 y2 y3 y4 y5) = f50e0 y0 y1 y2 y3 y4 := hide (by kernel_rfl)
theorem f50z2_f50e0 (y0 : Option (Nat × Nat)) (y1 : Nat) (y2 : Option Nat) (y3 : Int) (y4 : Int) : Ann.clr f50a2 (f50e0 y0 y1 y2 y3 y4) = f50e0 y0 y1 y2 y3 y4 := hide (by kernel_rfl)
theorem f50n4 {R : Type} (call : Bool → CallF R) (dem : Bool) (N : Nat) (J : KF R) (e : Env) (σ : St) : runK Try.prog call dem N f50c4 f50a4 J e σ = runK Try.prog call dem N f50c11 f50a11 (seqC (fun K e σ => runK Try.prog call dem N f50c12 f50a12 K e σ) f50a4 J) e σ := runK_seq' (by kernel_rfl) (by kernel_rfl) (by kernel_rfl)
theorem f50r11_f50e0 {R : Type} (call : Bool → CallF R) (dem : Bool) (N : Nat) (y0 : Option (Nat × Nat)) (y1 : Nat) (y2 : Option Nat) (y3 : Int) (y4 : Int) (J : KF R) (σ : St) :
    runK Try.prog call dem N f50c11 f50a11 J (f50e0 y0 y1 y2 y3 y4) σ =
if (0 : Int) ≤ y3 ∧ y3 < (↑y1 : Int) then
  Option.bind y0 fun v0 =>
    Option.bind (St.ld σ (Prod.fst v0) (Prod.snd v0 + Int.toNat y3 * (4 : Nat))) fun v1 =>
      Option.bind (AV.toInt IntKind.i64 v1) fun v2 =>
        if (0 : Int) ≤ y4 ∧ y4 < (↑y1 : Int) then
          Option.bind y0 fun v3 =>
            Option.bind (St.ld σ (Prod.fst v3) (Prod.snd v3 + Int.toNat y4 * (4 : Nat))) fun v4 =>
              Option.bind (AV.toInt IntKind.i64 v4) fun v5 =>
                J Ex.normal
                  (f50e6 y0 y1 y2 y3 y4 (decide (v2 < v5)) y0 y1 y2 y3 (some (Prod.fst v0, Prod.snd v0 + Int.toNat y3 * (4 : Nat)))
                    (some (Prod.fst v0, Prod.snd v0 + Int.toNat y3 * (4 : Nat))) v2 y0 y1 y2 y4
                    (some (Prod.fst v3, Prod.snd v3 + Int.toNat y4 * (4 : Nat))) (some (Prod.fst v3, Prod.snd v3 + Int.toNat y4 * (4 : Nat))) v5
                    (decide (v2 < v5)))
                  σ
        else none
else none := hide (by kernel_rfl)
theorem f50z4_f50e6 (y0 : Option (Nat × Nat)) (y1 : Nat) (y2 : Option Nat) (y3 : Int) (y4 : Int) (y5 : Bool) (y6 : Option (Nat × Nat)) (y7 : Nat) (y8 : Option Nat) (y9 : Int) (y10 : Option (Nat × Nat)) (y11 : Option (Nat × Nat)) (y12 : Int) (y13 : Option (Nat × Nat)) (y14 : Nat) (y15 : Option Nat) (y16 : Int) (y17 : Option (Nat × Nat)) (y18 : Option (Nat × Nat)) (y19 : Int) (y20 : Bool) : Ann.clr f50a4 (f50e6 y0 y1 y2 y3 y4 y5 y6 y7 y8 y9 y10 y11 y12 y13 y14 y15 y16 y17 y18 y19 y20) = f50e5 y5 := hide (by kernel_rfl)
theorem f50y12_f50e5 {R : Type} (call : Bool → CallF R) (dem : Bool) (N : Nat) (y0 : Bool) (J : KF R) (σ : St) : runK Try.prog call dem N f50c12 f50a12 J (f50e5 y0) σ = J .ret (f50e5 y0) σ := runK_ret' (by kernel_rfl) (by kernel_rfl)
theorem f50b_f50e5_r {R : Type} (y0 : Bool) (σ : St) (K : AV → St → Option R) : bodyC Try.prog f50rs K (Ex.ret) (f50e5 y0) σ =
K (AV.bool y0) σ := hide (by kernel_rfl)
attribute [go_sem] f50_eq f50n0 f50r1_f50e0 f50z0_f50e1 f50n2 f50n3 f50r5_f50e0 f50z3_f50e2 f50x6_f50e3 f50n7 f50r9_f50e3 f50z7_f50e4 f50y10_f50e5 f50n8 f50z6_f50e3 f50z2_f50e0 f50n4 f50r11_f50e0 f50z4_f50e6 f50y12_f50e5 f50b_f50e5_r

noncomputable def f51rs : List ResultVar := []
noncomputable def f51c0 : Code := subCode [] (bodyOf Try.prog 51)
def f51a0 : Ann := subAnn [] ann51
def f51e0 (y0 : Option (Nat × Nat)) (y1 : Nat) (y2 : Option Nat) (y3 : Int) (y4 : Int) : Env := AV.slice y0 y1 y2 (4 : Nat) :: AV.int IntKind.i64 y3 :: AV.int IntKind.i64 y4 :: Env.sp 17 []
def f51e1 (y0 : Option (Nat × Nat)) (y1 : Nat) (y2 : Option Nat) (y3 : Int) (y4 : Int) (y5 : Option (Nat × Nat)) (y6 : Nat) (y7 : Option Nat) (y8 : Int) (y9 : Option (Nat × Nat)) (y10 : Nat) (y11 : Option Nat) (y12 : Int) (y13 : Option (Nat × Nat)) (y14 : Nat) (y15 : Option Nat) (y16 : Int) (y17 : Option (Nat × Nat)) (y18 : Int) (y19 : Int) (y20 : Int) (y21 : Int) (y22 : Option (Nat × Nat)) (y23 : Nat) (y24 : Option Nat) (y25 : Int) (y26 : Option (Nat × Nat)) (y27 : Int) (y28 : Int) (y29 : Int) (y30 : Int) (y31 : Option (Nat × Nat)) (y32 : Option (Nat × Nat)) : Env := AV.slice y0 y1 y2 (4 : Nat) :: AV.int IntKind.i64 y3 :: AV.int IntKind.i64 y4 :: Env.sp 3 (AV.slice y5 y6 y7 (4 : Nat) :: AV.int IntKind.i64 y8 :: AV.slice y9 y10 y11 (4 : Nat) :: AV.int IntKind.i64 y12 :: AV.slice y13 y14 y15 (4 : Nat) :: AV.int IntKind.i64 y16 :: AV.ptr y17 :: AV.agg [AV.int IntKind.i64 y18, AV.int IntKind.i64 y19, AV.int IntKind.i64 y20, AV.int IntKind.i64 y21] :: AV.slice y22 y23 y24 (4 : Nat) :: AV.int IntKind.i64 y25 :: AV.ptr y26 :: AV.agg [AV.int IntKind.i64 y27, AV.int IntKind.i64 y28, AV.int IntKind.i64 y29, AV.int IntKind.i64 y30] :: AV.ptr y31 :: AV.ptr y32 :: [])

/- function 51 -/
theorem f51_eq {R : Type} (call : Bool → CallF R) (dem : Bool) (N : Nat) (y0 : Option (Nat × Nat)) (y1 : Nat) (y2 : Option Nat) (y3 : Int) (y4 : Int) (σ : St) (K : AV → St → Option R) :
    bodyK Try.prog call dem N ann 51 [AV.slice y0 y1 y2 (4 : Nat), AV.int IntKind.i64 y3, AV.int IntKind.i64 y4] σ K = runK Try.prog call dem N f51c0 f51a0 (bodyC Try.prog f51rs K) (f51e0 y0 y1 y2 y3 y4) σ := bodyK_of (fn := ((Try.prog.funcs[51]?).get rfl)) (by kernel_rfl) (by kernel_rfl) (by kernel_rfl) (by kernel_rfl) (by kernel_rfl) (by kernel_rfl)
theorem f51r0_f51e0 {R : Type} (call : Bool → CallF R) (dem : Bool) (N : Nat) (y0 : Option (Nat × Nat)) (y1 : Nat) (y2 : Option Nat) (y3 : Int) (y4 : Int) (J : KF R) (σ : St) :
    runK Try.prog call dem N f51c0 f51a0 J (f51e0 y0 y1 y2 y3 y4) σ =
if (0 : Int) ≤ y4 ∧ y4 < (↑y1 : Int) then
  Option.bind y0 fun v0 =>
    Option.bind (St.ld σ (Prod.fst v0) (Prod.snd v0 + Int.toNat y4 * (4 : Nat))) fun v1 =>
      Option.bind (AV.toInt IntKind.i64 v1) fun v2 =>
        Option.bind (St.ld σ (Prod.fst v0) (Prod.snd v0 + Int.toNat y4 * (4 : Nat) + (1 : Nat))) fun v3 =>
          Option.bind (AV.toInt IntKind.i64 v3) fun v4 =>
            Option.bind (St.ld σ (Prod.fst v0) (Prod.snd v0 + Int.toNat y4 * (4 : Nat) + (2 : Nat))) fun v5 =>
              Option.bind (AV.toInt IntKind.i64 v5) fun v6 =>
                Option.bind (St.ld σ (Prod.fst v0) (Prod.snd v0 + Int.toNat y4 * (4 : Nat) + (3 : Nat))) fun v7 =>
                  Option.bind (AV.toInt IntKind.i64 v7) fun v8 =>
                    if (0 : Int) ≤ y3 ∧ y3 < (↑y1 : Int) then
                      Option.bind y0 fun v9 =>
                        Option.bind (St.ld σ (Prod.fst v9) (Prod.snd v9 + Int.toNat y3 * (4 : Nat))) fun v10 =>
                          Option.bind (AV.toInt IntKind.i64 v10) fun v11 =>
                            Option.bind (St.ld σ (Prod.fst v9) (Prod.snd v9 + Int.toNat y3 * (4 : Nat) + (1 : Nat))) fun v12 =>
                              Option.bind (AV.toInt IntKind.i64 v12) fun v13 =>
                                Option.bind (St.ld σ (Prod.fst v9) (Prod.snd v9 + Int.toNat y3 * (4 : Nat) + (2 : Nat))) fun v14 =>
                                  Option.bind (AV.toInt IntKind.i64 v14) fun v15 =>
                                    Option.bind (St.ld σ (Prod.fst v9) (Prod.snd v9 + Int.toNat y3 * (4 : Nat) + (3 : Nat))) fun v16 =>
                                      Option.bind (AV.toInt IntKind.i64 v16) fun v17 =>
                                        if (0 : Int) ≤ y3 ∧ y3 < (↑y1 : Int) then
                                          Option.bind y0 fun v18 =>
                                            Option.bind
                                              (St.st σ (Prod.fst v18) (Prod.snd v18 + Int.toNat y3 * (4 : Nat))
                                                [AV.int IntKind.i64 v2, AV.int IntKind.i64 v4, AV.int IntKind.i64 v6, AV.int IntKind.i64 v8])
                                              fun v19 =>
                                              if (0 : Int) ≤ y4 ∧ y4 < (↑y1 : Int) then
                                                Option.bind y0 fun v20 =>
                                                  Option.bind
                                                    (St.st v19 (Prod.fst v20) (Prod.snd v20 + Int.toNat y4 * (4 : Nat))
                                                      [AV.int IntKind.i64 v11, AV.int IntKind.i64 v13, AV.int IntKind.i64 v15,
                                                        AV.int IntKind.i64 v17])
                                                    fun v21 =>
                                                    J Ex.normal
                                                      (f51e1 y0 y1 y2 y3 y4 y0 y1 y2 y3 y0 y1 y2 y4 y0 y1 y2 y4
                                                        (some (Prod.fst v0, Prod.snd v0 + Int.toNat y4 * (4 : Nat))) v2 v4 v6 v8 y0 y1 y2 y3
                                                        (some (Prod.fst v9, Prod.snd v9 + Int.toNat y3 * (4 : Nat))) v11 v13 v15 v17
                                                        (some (Prod.fst v18, Prod.snd v18 + Int.toNat y3 * (4 : Nat)))
                                                        (some (Prod.fst v20, Prod.snd v20 + Int.toNat y4 * (4 : Nat))))
                                                      v21
                                              else none
                                        else none
                    else none
else none := hide (by kernel_rfl)
theorem f51b_f51e1_n {R : Type} (y0 : Option (Nat × Nat)) (y1 : Nat) (y2 : Option Nat) (y3 : Int) (y4 : Int) (y5 : Option (Nat × Nat)) (y6 : Nat) (y7 : Option Nat) (y8 : Int) (y9 : Option (Nat × Nat)) (y10 : Nat) (y11 : Option Nat) (y12 : Int) (y13 : Option (Nat × Nat)) (y14 : Nat) (y15 : Option Nat) (y16 : Int) (y17 : Option (Nat × Nat)) (y18 : Int) (y19 : Int) (y20 : Int) (y21 : Int) (y22 : Option (Nat × Nat)) (y23 : Nat) (y24 : Option Nat) (y25 : Int) (y26 : Option (Nat × Nat)) (y27 : Int) (y28 : Int) (y29 : Int) (y30 : Int) (y31 : Option (Nat × Nat)) (y32 : Option (Nat × Nat)) (σ : St) (K : AV → St → Option R) : bodyC Try.prog f51rs K (Ex.normal) (f51e1 y0 y1 y2 y3 y4 y5 y6 y7 y8 y9 y10 y11 y12 y13 y14 y15 y16 y17 y18 y19 y20 y21 y22 y23 y24 y25 y26 y27 y28 y29 y30 y31 y32) σ =
K (AV.tuple []) σ := hide (by kernel_rfl)
attribute [go_sem] f51_eq f51r0_f51e0 f51b_f51e1_n

noncomputable def f52rs : List ResultVar := [ResultVar.tmp (2 : Nat)]
noncomputable def f52c0 : Code := subCode [] (bodyOf Try.prog 52)
def f52a0 : Ann := subAnn [] ann52
noncomputable def f52c1 : Code := subCode [0] (bodyOf Try.prog 52)
def f52a1 : Ann := subAnn [0] ann52
noncomputable def f52c2 : Code := subCode [1] (bodyOf Try.prog 52)
def f52a2 : Ann := subAnn [1] ann52
noncomputable def f52c3 : Code := subCode [1, 0] (bodyOf Try.prog 52)
def f52a3 : Ann := subAnn [1, 0] ann52
noncomputable def f52c4 : Code := subCode [1, 1] (bodyOf Try.prog 52)
def f52a4 : Ann := subAnn [1, 1] ann52
noncomputable def f52c5 : Code := subCode [1, 1, 0] (bodyOf Try.prog 52)
def f52a5 : Ann := subAnn [1, 1, 0] ann52
noncomputable def f52c6 : Code := subCode [1, 1, 1] (bodyOf Try.prog 52)
def f52a6 : Ann := subAnn [1, 1, 1] ann52
noncomputable def f52c7 : Code := subCode [1, 1, 1, 0] (bodyOf Try.prog 52)
def f52a7 : Ann := subAnn [1, 1, 1, 0] ann52
noncomputable def f52c8 : Code := subCode [1, 1, 1, 1] (bodyOf Try.prog 52)
def f52a8 : Ann := subAnn [1, 1, 1, 1] ann52
noncomputable def f52c9 : Code := subCode [1, 1, 1, 1, 0] (bodyOf Try.prog 52)
def f52a9 : Ann := subAnn [1, 1, 1, 1, 0] ann52
noncomputable def f52c10 : Code := subCode [1, 1, 1, 1, 1] (bodyOf Try.prog 52)
def f52a10 : Ann := subAnn [1, 1, 1, 1, 1] ann52
def f52e0 (y0 : Option (Nat × Nat)) : Env := AV.ptr y0 :: Env.sp 22 []
def f52e1 (y0 : Option (Nat × Nat)) : Env := AV.ptr y0 :: Env.sp 1 (AV.nilIface :: Env.sp 20 [])
def f52e2 (y0 : Option (Nat × Nat)) (y1 : Option (Nat × Nat)) (y2 : Nat) (y3 : Option Nat) (y4 : Option (Nat × Nat)) (y5 : Option (Nat × Nat)) (y6 : Option (Nat × Nat)) (y7 : Nat) (y8 : Option Nat) : Env := AV.ptr y0 :: Env.sp 2 (AV.slice y1 y2 y3 (4 : Nat) :: Env.sp 1 (AV.ptr y4 :: AV.ptr y5 :: AV.slice y6 y7 y8 (4 : Nat) :: Env.sp 15 []))
def f52e3 (y0 : Option (Nat × Nat)) (y1 : Option (Nat × Nat)) (y2 : Nat) (y3 : Option Nat) : Env := AV.ptr y0 :: Env.sp 2 (AV.slice y1 y2 y3 (4 : Nat) :: Env.sp 19 [])
def f52e4 (y0 : Option (Nat × Nat)) (y1 : Option (Nat × Nat)) (y2 : Nat) (y3 : Option Nat) (y4 : Nat) (y5 : Option (Nat × Nat)) (y6 : Nat) (y7 : Option Nat) (y8 : Option (Nat × Nat)) (y9 : Nat) (y10 : Option Nat) (y11 : Int) (y12 : Int) (y13 : Option (Nat × Nat)) (y14 : Int) (y15 : Int) (y16 : Int) (y17 : Int) : Env := AV.ptr y0 :: Env.sp 2 (AV.slice y1 y2 y3 (4 : Nat) :: AV.ptr (some (y4, (0 : Nat))) :: Env.sp 3 (AV.slice y5 y6 y7 (4 : Nat) :: AV.slice y8 y9 y10 (4 : Nat) :: AV.int IntKind.i64 y11 :: AV.int IntKind.i64 y12 :: AV.ptr y13 :: AV.agg [AV.int IntKind.i64 y14, AV.int IntKind.i64 y15, AV.int IntKind.i64 y16, AV.int IntKind.i64 y17] :: Env.sp 9 []))
def f52e5 (y0 : Option (Nat × Nat)) (y1 : Option (Nat × Nat)) (y2 : Nat) (y3 : Option Nat) (y4 : Nat) : Env := AV.ptr y0 :: Env.sp 2 (AV.slice y1 y2 y3 (4 : Nat) :: AV.ptr (some (y4, (0 : Nat))) :: Env.sp 18 [])
def f52e6 (y0 : Option (Nat × Nat)) (y1 : Option (Nat × Nat)) (y2 : Nat) (y3 : Option Nat) (y4 : Nat) (y5 : Option (Nat × Nat)) (y6 : Option (Nat × Nat)) (y7 : Nat) (y8 : Option Nat) (y9 : Option (Nat × Nat)) (y10 : Nat) (y11 : Option Nat) (y12 : Int) (y13 : Int) (y14 : Option (Nat × Nat)) (y15 : Nat) (y16 : Option Nat) (y17 : Option (Nat × Nat)) : Env := AV.ptr y0 :: Env.sp 2 (AV.slice y1 y2 y3 (4 : Nat) :: AV.ptr (some (y4, (0 : Nat))) :: Env.sp 9 (AV.ptr y5 :: AV.slice y6 y7 y8 (4 : Nat) :: AV.slice y9 y10 y11 (4 : Nat) :: AV.int IntKind.i64 y12 :: AV.int IntKind.i64 y13 :: AV.slice y14 y15 y16 (4 : Nat) :: AV.ptr y17 :: Env.sp 2 []))
def f52e7 (y0 : Nat) : Env := Env.sp 4 (AV.ptr (some (y0, (0 : Nat))) :: Env.sp 18 [])
def f52e8 (y0 : Int) (y1 : Int) (y2 : Int) (y3 : Int) (y4 : Nat) (y5 : Int) (y6 : Int) (y7 : Int) (y8 : Int) (y9 : Int) (y10 : Int) (y11 : Int) (y12 : Int) : Env := Env.sp 2 (AV.iface (52 : Nat) (AV.agg [AV.int IntKind.i64 y0, AV.int IntKind.i64 y1, AV.int IntKind.i64 y2, AV.int IntKind.i64 y3]) :: Env.sp 1 (AV.ptr (some (y4, (0 : Nat))) :: Env.sp 16 (AV.agg [AV.int IntKind.i64 y5, AV.int IntKind.i64 y6, AV.int IntKind.i64 y7, AV.int IntKind.i64 y8] :: AV.iface (52 : Nat) (AV.agg [AV.int IntKind.i64 y9, AV.int IntKind.i64 y10, AV.int IntKind.i64 y11, AV.int IntKind.i64 y12]) :: [])))
def f52e9 (y0 : Int) (y1 : Int) (y2 : Int) (y3 : Int) : Env := Env.sp 2 (AV.iface (52 : Nat) (AV.agg [AV.int IntKind.i64 y0, AV.int IntKind.i64 y1, AV.int IntKind.i64 y2, AV.int IntKind.i64 y3]) :: Env.sp 20 [])

/- function 52 -/
theorem f52_eq {R : Type} (call : Bool → CallF R) (dem : Bool) (N : Nat) (y0 : Option (Nat × Nat)) (σ : St) (K : AV → St → Option R) :
    bodyK Try.prog call dem N ann 52 [AV.ptr y0] σ K = runK Try.prog call dem N f52c0 f52a0 (bodyC Try.prog f52rs K) (f52e0 y0) σ := bodyK_of (fn := ((Try.prog.funcs[52]?).get rfl)) (by kernel_rfl) (by kernel_rfl) (by kernel_rfl) (by kernel_rfl) (by kernel_rfl) (by kernel_rfl)
theorem f52n0 {R : Type} (call : Bool → CallF R) (dem : Bool) (N : Nat) (J : KF R) (e : Env) (σ : St) : runK Try.prog call dem N f52c0 f52a0 J e σ = runK Try.prog call dem N f52c1 f52a1 (seqC (fun K e σ => runK Try.prog call dem N f52c2 f52a2 K e σ) f52a0 J) e σ := runK_seq' (by kernel_rfl) (by kernel_rfl) (by kernel_rfl)
theorem f52r1_f52e0 {R : Type} (call : Bool → CallF R) (dem : Bool) (N : Nat) (y0 : Option (Nat × Nat)) (J : KF R) (σ : St) :
    runK Try.prog call dem N f52c1 f52a1 J (f52e0 y0) σ =
J Ex.normal (f52e1 y0) σ := hide (by kernel_rfl)
theorem f52z0_f52e1 (y0 : Option (Nat × Nat)) : Ann.clr f52a0 (f52e1 y0) = f52e0 y0 := hide (by kernel_rfl)
theorem f52n2 {R : Type} (call : Bool → CallF R) (dem : Bool) (N : Nat) (J : KF R) (e : Env) (σ : St) : runK Try.prog call dem N f52c2 f52a2 J e σ = runK Try.prog call dem N f52c3 f52a3 (seqC (fun K e σ => runK Try.prog call dem N f52c4 f52a4 K e σ) f52a2 J) e σ := runK_seq' (by kernel_rfl) (by kernel_rfl) (by kernel_rfl)
theorem f52r3_f52e0 {R : Type} (call : Bool → CallF R) (dem : Bool) (N : Nat) (y0 : Option (Nat × Nat)) (J : KF R) (σ : St) :
    runK Try.prog call dem N f52c3 f52a3 J (f52e0 y0) σ =
Option.bind y0 fun v0 =>
  Option.bind (St.ld σ (Prod.fst v0) (Prod.snd v0)) fun v1 =>
    Option.bind (AV.toSl (4 : Nat) v1) fun v2 =>
      J Ex.normal (f52e2 y0 (Sl.o v2) (Sl.len v2) (Sl.cap v2) y0 (some v0) (Sl.o v2) (Sl.len v2) (Sl.cap v2)) σ := hide (by kernel_rfl)
theorem f52z2_f52e2 (y0 : Option (Nat × Nat)) (y1 : Option (Nat × Nat)) (y2 : Nat) (y3 : Option Nat) (y4 : Option (Nat × Nat)) (y5 : Option (Nat × Nat)) (y6 : Option (Nat × Nat)) (y7 : Nat) (y8 : Option Nat) : Ann.clr f52a2 (f52e2 y0 y1 y2 y3 y4 y5 y6 y7 y8) = f52e3 y0 y1 y2 y3 := hide (by kernel_rfl)
theorem f52n4 {R : Type} (call : Bool → CallF R) (dem : Bool) (N : Nat) (J : KF R) (e : Env) (σ : St) : runK Try.prog call dem N f52c4 f52a4 J e σ = runK Try.prog call dem N f52c5 f52a5 (seqC (fun K e σ => runK Try.prog call dem N f52c6 f52a6 K e σ) f52a4 J) e σ := runK_seq' (by kernel_rfl) (by kernel_rfl) (by kernel_rfl)
theorem f52r5_f52e3 {R : Type} (call : Bool → CallF R) (dem : Bool) (N : Nat) (y0 : Option (Nat × Nat)) (y1 : Option (Nat × Nat)) (y2 : Nat) (y3 : Option Nat) (J : KF R) (σ : St) :
    runK Try.prog call dem N f52c5 f52a5 J (f52e3 y0 y1 y2 y3) σ =
if (0 : Int) ≤ IntKind.wrap IntKind.i64 ((↑y2 : Int) - (1 : Int)) ∧ IntKind.wrap IntKind.i64 ((↑y2 : Int) - (1 : Int)) < (↑y2 : Int) then
  Option.bind y1 fun v0 =>
    Option.bind (St.ld σ (Prod.fst v0) (Prod.snd v0 + Int.toNat (IntKind.wrap IntKind.i64 ((↑y2 : Int) - (1 : Int))) * (4 : Nat))) fun v1 =>
      Option.bind (AV.toInt IntKind.i64 v1) fun v2 =>
        Option.bind (St.ld σ (Prod.fst v0) (Prod.snd v0 + Int.toNat (IntKind.wrap IntKind.i64 ((↑y2 : Int) - (1 : Int))) * (4 : Nat) + (1 : Nat)))
          fun v3 =>
          Option.bind (AV.toInt IntKind.i64 v3) fun v4 =>
            Option.bind (St.ld σ (Prod.fst v0) (Prod.snd v0 + Int.toNat (IntKind.wrap IntKind.i64 ((↑y2 : Int) - (1 : Int))) * (4 : Nat) + (2 : Nat)))
              fun v5 =>
              Option.bind (AV.toInt IntKind.i64 v5) fun v6 =>
                Option.bind
                  (St.ld σ (Prod.fst v0) (Prod.snd v0 + Int.toNat (IntKind.wrap IntKind.i64 ((↑y2 : Int) - (1 : Int))) * (4 : Nat) + (3 : Nat)))
                  fun v7 =>
                  Option.bind (AV.toInt IntKind.i64 v7) fun v8 =>
                    Option.bind
                      (St.st
                        (St.new σ
                          (Blk.cells
                            [AV.int IntKind.i64 (0 : Int), AV.int IntKind.i64 (0 : Int), AV.int IntKind.i64 (0 : Int), AV.int IntKind.i64 (0 : Int)]
                            true))
                        (St.next σ) (0 : Nat) [AV.int IntKind.i64 v2, AV.int IntKind.i64 v4, AV.int IntKind.i64 v6, AV.int IntKind.i64 v8])
                      fun v9 =>
                      J Ex.normal
                        (f52e4 y0 y1 y2 y3 (St.next σ) y1 y2 y3 y1 y2 y3 (↑y2 : Int) (IntKind.wrap IntKind.i64 ((↑y2 : Int) - (1 : Int)))
                          (some (Prod.fst v0, Prod.snd v0 + Int.toNat (IntKind.wrap IntKind.i64 ((↑y2 : Int) - (1 : Int))) * (4 : Nat))) v2 v4 v6 v8)
                        v9
else none := hide (by kernel_rfl)
theorem f52z4_f52e4 (y0 : Option (Nat × Nat)) (y1 : Option (Nat × Nat)) (y2 : Nat) (y3 : Option Nat) (y4 : Nat) (y5 : Option (Nat × Nat)) (y6 : Nat) (y7 : Option Nat) (y8 : Option (Nat × Nat)) (y9 : Nat) (y10 : Option Nat) (y11 : Int) (y12 : Int) (y13 : Option (Nat × Nat)) (y14 : Int) (y15 : Int) (y16 : Int) (y17 : Int) : Ann.clr f52a4 (f52e4 y0 y1 y2 y3 y4 y5 y6 y7 y8 y9 y10 y11 y12 y13 y14 y15 y16 y17) = f52e5 y0 y1 y2 y3 y4 := hide (by kernel_rfl)
theorem f52n6 {R : Type} (call : Bool → CallF R) (dem : Bool) (N : Nat) (J : KF R) (e : Env) (σ : St) : runK Try.prog call dem N f52c6 f52a6 J e σ = runK Try.prog call dem N f52c7 f52a7 (seqC (fun K e σ => runK Try.prog call dem N f52c8 f52a8 K e σ) f52a6 J) e σ := runK_seq' (by kernel_rfl) (by kernel_rfl) (by kernel_rfl)
theorem f52r7_f52e5 {R : Type} (call : Bool → CallF R) (dem : Bool) (N : Nat) (y0 : Option (Nat × Nat)) (y1 : Option (Nat × Nat)) (y2 : Nat) (y3 : Option Nat) (y4 : Nat) (J : KF R) (σ : St) :
    runK Try.prog call dem N f52c7 f52a7 J (f52e5 y0 y1 y2 y3 y4) σ =
Option.bind (Sl.sub (4 : Nat) (Sl.mk y1 y2 y3) none (some (IntKind.wrap IntKind.i64 ((↑y2 : Int) - (1 : Int)))) none) fun v0 =>
  Option.bind y0 fun v1 =>
    Option.bind (St.st σ (Prod.fst v1) (Prod.snd v1) [AV.slice (Sl.o v0) (Sl.len v0) (Sl.cap v0) (4 : Nat)]) fun v2 =>
      J Ex.normal
        (f52e6 y0 y1 y2 y3 y4 y0 y1 y2 y3 y1 y2 y3 (↑y2 : Int) (IntKind.wrap IntKind.i64 ((↑y2 : Int) - (1 : Int))) (Sl.o v0) (Sl.len v0) (Sl.cap v0)
          (some v1))
        v2 := hide (by kernel_rfl)
theorem f52z6_f52e6 (y0 : Option (Nat × Nat)) (y1 : Option (Nat × Nat)) (y2 : Nat) (y3 : Option Nat) (y4 : Nat) (y5 : Option (Nat × Nat)) (y6 : Option (Nat × Nat)) (y7 : Nat) (y8 : Option Nat) (y9 : Option (Nat × Nat)) (y10 : Nat) (y11 : Option Nat) (y12 : Int) (y13 : Int) (y14 : Option (Nat × Nat)) (y15 : Nat) (y16 : Option Nat) (y17 : Option (Nat × Nat)) : Ann.clr f52a6 (f52e6 y0 y1 y2 y3 y4 y5 y6 y7 y8 y9 y10 y11 y12 y13 y14 y15 y16 y17) = f52e7 y4 := hide (by kernel_rfl)
theorem f52n8 {R : Type} (call : Bool → CallF R) (dem : Bool) (N : Nat) (J : KF R) (e : Env) (σ : St) : runK Try.prog call dem N f52c8 f52a8 J e σ = runK Try.prog call dem N f52c9 f52a9 (seqC (fun K e σ => runK Try.prog call dem N f52c10 f52a10 K e σ) f52a8 J) e σ := runK_seq' (by kernel_rfl) (by kernel_rfl) (by kernel_rfl)
theorem f52r9_f52e7 {R : Type} (call : Bool → CallF R) (dem : Bool) (N : Nat) (y0 : Nat) (J : KF R) (σ : St) :
    runK Try.prog call dem N f52c9 f52a9 J (f52e7 y0) σ =
Option.bind (St.ld σ y0 (0 : Nat)) fun v0 =>
  Option.bind (AV.toInt IntKind.i64 v0) fun v1 =>
    Option.bind (St.ld σ y0 (1 : Nat)) fun v2 =>
      Option.bind (AV.toInt IntKind.i64 v2) fun v3 =>
        Option.bind (St.ld σ y0 (2 : Nat)) fun v4 =>
          Option.bind (AV.toInt IntKind.i64 v4) fun v5 =>
            Option.bind (St.ld σ y0 (3 : Nat)) fun v6 =>
              Option.bind (AV.toInt IntKind.i64 v6) fun v7 => J Ex.normal (f52e8 v1 v3 v5 v7 y0 v1 v3 v5 v7 v1 v3 v5 v7) σ := hide (by kernel_rfl)
theorem f52z8_f52e8 (y0 : Int) (y1 : Int) (y2 : Int) (y3 : Int) (y4 : Nat) (y5 : Int) (y6 : Int) (y7 : Int) (y8 : Int) (y9 : Int) (y10 : Int) (y11 : Int) (y12 : Int) : Ann.clr f52a8 (f52e8 y0 y1 y2 y3 y4 y5 y6 y7 y8 y9 y10 y11 y12) = f52e9 y0 y1 y2 y3 := hide (by kernel_rfl)
theorem f52y10_f52e9 {R : Type} (call : Bool → CallF R) (dem : Bool) (N : Nat) (y0 : Int) (y1 : Int) (y2 : Int) (y3 : Int) (J : KF R) (σ : St) : runK Try.prog call dem N f52c10 f52a10 J (f52e9 y0 y1 y2 y3) σ = J .ret (f52e9 y0 y1 y2 y3) σ := runK_ret' (by kernel_rfl) (by kernel_rfl)
theorem f52b_f52e9_r {R : Type} (y0 : Int) (y1 : Int) (y2 : Int) (y3 : Int) (σ : St) (K : AV → St → Option R) : bodyC Try.prog f52rs K (Ex.ret) (f52e9 y0 y1 y2 y3) σ =
K (AV.iface (52 : Nat) (AV.agg [AV.int IntKind.i64 y0, AV.int IntKind.i64 y1, AV.int IntKind.i64 y2, AV.int IntKind.i64 y3])) σ := hide (by kernel_rfl)
attribute [go_sem] f52_eq f52n0 f52r1_f52e0 f52z0_f52e1 f52n2 f52r3_f52e0 f52z2_f52e2 f52n4 f52r5_f52e3 f52z4_f52e4 f52n6 f52r7_f52e5 f52z6_f52e6 f52n8 f52r9_f52e7 f52z8_f52e8 f52y10_f52e9 f52b_f52e9_r

noncomputable def f53rs : List ResultVar := []
noncomputable def f53c0 : Code := subCode [] (bodyOf Try.prog 53)
def f53a0 : Ann := subAnn [] ann53
def f53e0 (y0 : Option (Nat × Nat)) (y1 : Int) (y2 : Int) (y3 : Int) (y4 : Int) : Env := AV.ptr y0 :: AV.iface (52 : Nat) (AV.agg [AV.int IntKind.i64 y1, AV.int IntKind.i64 y2, AV.int IntKind.i64 y3, AV.int IntKind.i64 y4]) :: Env.sp 11 []
def f53e1 (y0 : Option (Nat × Nat)) (y1 : Int) (y2 : Int) (y3 : Int) (y4 : Int) (y5 : Option (Nat × Nat)) (y6 : Option (Nat × Nat)) (y7 : Option (Nat × Nat)) (y8 : Option (Nat × Nat)) (y9 : Nat) (y10 : Option Nat) (y11 : Int) (y12 : Int) (y13 : Int) (y14 : Int) (y15 : Int) (y16 : Int) (y17 : Int) (y18 : Int) (y19 : Option (Nat × Nat)) (y20 : Nat) (y21 : Option Nat) (y22 : Option (Nat × Nat)) (y23 : Nat) (y24 : Option Nat) (y25 : Option (Nat × Nat)) : Env := AV.ptr y0 :: AV.iface (52 : Nat) (AV.agg [AV.int IntKind.i64 y1, AV.int IntKind.i64 y2, AV.int IntKind.i64 y3, AV.int IntKind.i64 y4]) :: Env.sp 2 (AV.ptr y5 :: AV.ptr y6 :: AV.ptr y7 :: AV.slice y8 y9 y10 (4 : Nat) :: AV.iface (52 : Nat) (AV.agg [AV.int IntKind.i64 y11, AV.int IntKind.i64 y12, AV.int IntKind.i64 y13, AV.int IntKind.i64 y14]) :: AV.agg [AV.int IntKind.i64 y15, AV.int IntKind.i64 y16, AV.int IntKind.i64 y17, AV.int IntKind.i64 y18] :: AV.slice y19 y20 y21 (4 : Nat) :: AV.slice y22 y23 y24 (4 : Nat) :: AV.ptr y25 :: [])

/- function 53 -/
theorem f53_eq {R : Type} (call : Bool → CallF R) (dem : Bool) (N : Nat) (y0 : Option (Nat × Nat)) (y1 : Int) (y2 : Int) (y3 : Int) (y4 : Int) (σ : St) (K : AV → St → Option R) :
    bodyK Try.prog call dem N ann 53 [AV.ptr y0, AV.iface (52 : Nat) (AV.agg [AV.int IntKind.i64 y1, AV.int IntKind.i64 y2, AV.int IntKind.i64 y3, AV.int IntKind.i64 y4])] σ K = runK Try.prog call dem N f53c0 f53a0 (bodyC Try.prog f53rs K) (f53e0 y0 y1 y2 y3 y4) σ := bodyK_of (fn := ((Try.prog.funcs[53]?).get rfl)) (by kernel_rfl) (by kernel_rfl) (by kernel_rfl) (by kernel_rfl) (by kernel_rfl) (by kernel_rfl)
theorem f53r0_f53e0 {R : Type} (call : Bool → CallF R) (dem : Bool) (N : Nat) (y0 : Option (Nat × Nat)) (y1 : Int) (y2 : Int) (y3 : Int) (y4 : Int) (J : KF R) (σ : St) :
    runK Try.prog call dem N f53c0 f53a0 J (f53e0 y0 y1 y2 y3 y4) σ =
Option.bind y0 fun v0 =>
  Option.bind (St.ld σ (Prod.fst v0) (Prod.snd v0)) fun v1 =>
    Option.bind (AV.toSl (4 : Nat) v1) fun v2 =>
      if
          St.same (St.new σ (Blk.cells [AV.int IntKind.i64 y1, AV.int IntKind.i64 y2, AV.int IntKind.i64 y3, AV.int IntKind.i64 y4] true))
              (Prod.fst v0) (Prod.snd v0) [AV.slice (Sl.o v2) (Sl.len v2) (Sl.cap v2) (4 : Nat)] =
            true then
        Option.bind
          (St.elems (St.new σ (Blk.cells [AV.int IntKind.i64 y1, AV.int IntKind.i64 y2, AV.int IntKind.i64 y3, AV.int IntKind.i64 y4] true)) (4 : Nat)
            (Sl.mk (some (St.next σ, (0 : Nat))) (1 : Nat) (some (1 : Nat))) (1 : Nat))
          fun v3 =>
          Option.bind
            (St.app (St.new σ (Blk.cells [AV.int IntKind.i64 y1, AV.int IntKind.i64 y2, AV.int IntKind.i64 y3, AV.int IntKind.i64 y4] true)) (4 : Nat)
              (32 : Nat) (Sl.mk (Sl.o v2) (Sl.len v2) (Sl.cap v2)) (1 : Nat) v3)
            fun v4 =>
            Option.bind y0 fun v5 =>
              Option.bind
                (St.st (Prod.snd v4) (Prod.fst v5) (Prod.snd v5)
                  [AV.slice (Sl.o (Prod.fst v4)) (Sl.len (Prod.fst v4)) (Sl.cap (Prod.fst v4)) (4 : Nat)])
                fun v6 =>
                J Ex.normal
                  (f53e1 y0 y1 y2 y3 y4 y0 y0 (some v0) (Sl.o v2) (Sl.len v2) (Sl.cap v2) y1 y2 y3 y4 y1 y2 y3 y4 (some (St.next σ, (0 : Nat)))
                    (1 : Nat) (some (1 : Nat)) (Sl.o (Prod.fst v4)) (Sl.len (Prod.fst v4)) (Sl.cap (Prod.fst v4)) (some v5))
                  v6
      else none := hide (by kernel_rfl)
theorem f53b_f53e1_n {R : Type} (y0 : Option (Nat × Nat)) (y1 : Int) (y2 : Int) (y3 : Int) (y4 : Int) (y5 : Option (Nat × Nat)) (y6 : Option (Nat × Nat)) (y7 : Option (Nat × Nat)) (y8 : Option (Nat × Nat)) (y9 : Nat) (y10 : Option Nat) (y11 : Int) (y12 : Int) (y13 : Int) (y14 : Int) (y15 : Int) (y16 : Int) (y17 : Int) (y18 : Int) (y19 : Option (Nat × Nat)) (y20 : Nat) (y21 : Option Nat) (y22 : Option (Nat × Nat)) (y23 : Nat) (y24 : Option Nat) (y25 : Option (Nat × Nat)) (σ : St) (K : AV → St → Option R) : bodyC Try.prog f53rs K (Ex.normal) (f53e1 y0 y1 y2 y3 y4 y5 y6 y7 y8 y9 y10 y11 y12 y13 y14 y15 y16 y17 y18 y19 y20 y21 y22 y23 y24 y25) σ =
K (AV.tuple []) σ := hide (by kernel_rfl)
attribute [go_sem] f53_eq f53r0_f53e0 f53b_f53e1_n

end Go.Proofs.Ytciibgjmdgpgnaa
