/- What the machine does with each piece of code, in plain text. PRINTED by a program of this workplace; Lean checks it. -/
import Derived.Test.YtmgacgonoodkfaaSlAnn
import Derived.Test.YtmgacgonoodkfaaProg
import Derived.KernelRfl
import Derived.Attr
namespace Go.Proofs.Ytmgacgonoodkfaa
open Go.AM
set_option maxRecDepth 100000
set_option linter.unusedVariables false
noncomputable def f26rs : List ResultVar := [ResultVar.tmp (2 : Nat), ResultVar.tmp (3 : Nat)]
noncomputable def f26c0 : Code := subCode [] (bodyOf Try.prog 26)
def f26a0 : Ann := subAnn [] ann26
noncomputable def f26c1 : Code := subCode [0] (bodyOf Try.prog 26)
def f26a1 : Ann := subAnn [0] ann26
noncomputable def f26c2 : Code := subCode [1] (bodyOf Try.prog 26)
def f26a2 : Ann := subAnn [1] ann26
noncomputable def f26c3 : Code := subCode [1, 0] (bodyOf Try.prog 26)
def f26a3 : Ann := subAnn [1, 0] ann26
noncomputable def f26c4 : Code := subCode [1, 1] (bodyOf Try.prog 26)
def f26a4 : Ann := subAnn [1, 1] ann26
noncomputable def f26c5 : Code := subCode [1, 0, 0] (bodyOf Try.prog 26)
def f26a5 : Ann := subAnn [1, 0, 0] ann26
noncomputable def f26c6 : Code := subCode [1, 0, 1] (bodyOf Try.prog 26)
def f26a6 : Ann := subAnn [1, 0, 1] ann26
noncomputable def f26c7 : Code := subCode [1, 0, 1, 0] (bodyOf Try.prog 26)
def f26a7 : Ann := subAnn [1, 0, 1, 0] ann26
noncomputable def f26c8 : Code := subCode [1, 0, 1, 1] (bodyOf Try.prog 26)
def f26a8 : Ann := subAnn [1, 0, 1, 1] ann26
noncomputable def f26c9 : Code := subCode [1, 0, 1, 0, 0] (bodyOf Try.prog 26)
def f26a9 : Ann := subAnn [1, 0, 1, 0, 0] ann26
noncomputable def f26c10 : Code := subCode [1, 0, 1, 0, 1] (bodyOf Try.prog 26)
def f26a10 : Ann := subAnn [1, 0, 1, 0, 1] ann26
noncomputable def f26c11 : Code := subCode [1, 1, 0] (bodyOf Try.prog 26)
def f26a11 : Ann := subAnn [1, 1, 0] ann26
noncomputable def f26c12 : Code := subCode [1, 1, 1] (bodyOf Try.prog 26)
def f26a12 : Ann := subAnn [1, 1, 1] ann26
noncomputable def f26c13 : Code := subCode [1, 1, 1, 0] (bodyOf Try.prog 26)
def f26a13 : Ann := subAnn [1, 1, 1, 0] ann26
noncomputable def f26c14 : Code := subCode [1, 1, 1, 1] (bodyOf Try.prog 26)
def f26a14 : Ann := subAnn [1, 1, 1, 1] ann26
def f26e0 (y0 : Option (Nat × Nat)) : Env := AV.ptr y0 :: Env.sp 16 []
def f26e1 (y0 : Option (Nat × Nat)) (y1 : ByteArray) (y2 : Bool) : Env := AV.ptr y0 :: Env.sp 1 (AV.str y1 :: AV.bool y2 :: Env.sp 13 [])
def f26e2 (y0 : Option (Nat × Nat)) (y1 : Option (Nat × Nat)) (y2 : Bool) : Env := AV.ptr y0 :: Env.sp 4 (AV.ptr y1 :: AV.bool y2 :: Env.sp 10 [])
def f26e3 (y0 : Option (Nat × Nat)) (y1 : Bool) : Env := AV.ptr y0 :: Env.sp 5 (AV.bool y1 :: Env.sp 10 [])
def f26e4 (y0 : Option (Nat × Nat)) (y1 : ByteArray) (y2 : Bool) (y3 : Bool) : Env := AV.ptr y0 :: Env.sp 1 (AV.str y1 :: AV.bool y2 :: Env.sp 2 (AV.bool y3 :: Env.sp 10 []))
def f26e5 (y0 : ByteArray) (y1 : Bool) : Env := Env.sp 2 (AV.str y0 :: AV.bool y1 :: Env.sp 13 [])
def f26e6 (y0 : Option (Nat × Nat)) (y1 : Nat) (y2 : Option (Nat × Nat)) (y3 : Option (Nat × Nat)) (y4 : Option (Nat × Nat)) (y5 : Option (Nat × Nat)) (y6 : Int) (y7 : Bool) (y8 : ByteArray) (y9 : ByteArray) : Env := AV.ptr y0 :: Env.sp 3 (AV.ptr (some (y1, (0 : Nat))) :: Env.sp 2 (AV.ptr y2 :: AV.ptr y3 :: AV.ptr y4 :: AV.ptr y5 :: AV.int IntKind.i64 y6 :: AV.agg [AV.bool y7, AV.str y8, AV.str y9] :: Env.sp 4 []))
def f26e7 (y0 : Nat) : Env := Env.sp 4 (AV.ptr (some (y0, (0 : Nat))) :: Env.sp 12 [])
def f26e8 (y0 : ByteArray) (y1 : Bool) (y2 : Nat) (y3 : Nat) (y4 : ByteArray) (y5 : Nat) (y6 : Bool) : Env := Env.sp 2 (AV.str y0 :: AV.bool y1 :: AV.ptr (some (y2, (0 : Nat))) :: Env.sp 8 (AV.ptr (some (y3, (1 : Nat))) :: AV.str y4 :: AV.ptr (some (y5, (0 : Nat))) :: AV.bool y6 :: []))

/- function 26 -/
theorem f26_eq {R : Type} (call : CallF R) (N : Nat) (y0 : Option (Nat × Nat)) (σ : St) (K : AV → St → Option R) :
    bodyK Try.prog call N ann 26 [AV.ptr y0] σ K = runK Try.prog call N f26c0 f26a0 (bodyC Try.prog f26rs K) (f26e0 y0) σ := bodyK_of (fn := ((Try.prog.funcs[26]?).get rfl)) (by kernel_rfl) (by kernel_rfl) (by kernel_rfl) (by kernel_rfl) (by kernel_rfl) (by kernel_rfl)
theorem f26n0 {R : Type} (call : CallF R) (N : Nat) (J : KF R) (e : Env) (σ : St) : runK Try.prog call N f26c0 f26a0 J e σ = runK Try.prog call N f26c1 f26a1 (seqC (fun K e σ => runK Try.prog call N f26c2 f26a2 K e σ) f26a0 J) e σ := runK_seq' (by kernel_rfl) (by kernel_rfl) (by kernel_rfl)
theorem f26r1_f26e0 {R : Type} (call : CallF R) (N : Nat) (y0 : Option (Nat × Nat)) (J : KF R) (σ : St) :
    runK Try.prog call N f26c1 f26a1 J (f26e0 y0) σ =
J Ex.normal (f26e1 y0 (ByteArray.mk #[]) false) σ := hide (by kernel_rfl)
theorem f26z0_f26e1 (y0 : Option (Nat × Nat)) (y1 : ByteArray) (y2 : Bool) : Ann.clr f26a0 (f26e1 y0 y1 y2) = f26e0 y0 := hide (by kernel_rfl)
theorem f26n2 {R : Type} (call : CallF R) (N : Nat) (J : KF R) (e : Env) (σ : St) : runK Try.prog call N f26c2 f26a2 J e σ = runK Try.prog call N f26c3 f26a3 (seqC (fun K e σ => runK Try.prog call N f26c4 f26a4 K e σ) f26a2 J) e σ := runK_seq' (by kernel_rfl) (by kernel_rfl) (by kernel_rfl)
theorem f26n3 {R : Type} (call : CallF R) (N : Nat) (J : KF R) (e : Env) (σ : St) : runK Try.prog call N f26c3 f26a3 J e σ = runK Try.prog call N f26c5 f26a5 (seqC (fun K e σ => runK Try.prog call N f26c6 f26a6 K e σ) f26a3 J) e σ := runK_seq' (by kernel_rfl) (by kernel_rfl) (by kernel_rfl)
theorem f26r5_f26e0 {R : Type} (call : CallF R) (N : Nat) (y0 : Option (Nat × Nat)) (J : KF R) (σ : St) :
    runK Try.prog call N f26c5 f26a5 J (f26e0 y0) σ =
J Ex.normal (f26e2 y0 y0 (Option.isNone y0)) σ := hide (by kernel_rfl)
theorem f26z3_f26e2 (y0 : Option (Nat × Nat)) (y1 : Option (Nat × Nat)) (y2 : Bool) : Ann.clr f26a3 (f26e2 y0 y1 y2) = f26e3 y0 y2 := hide (by kernel_rfl)
theorem f26x6_f26e3 {R : Type} (call : CallF R) (N : Nat) (y0 : Option (Nat × Nat)) (y1 : Bool) (J : KF R) (σ : St) : runK Try.prog call N f26c6 f26a6 J (f26e3 y0 y1) σ = if y1 = true then runK Try.prog call N f26c7 f26a7 (condC f26a6 J) (f26e3 y0 y1) σ else runK Try.prog call N f26c8 f26a8 (condC f26a6 J) (f26e3 y0 y1) σ := runK_cond' (o := Operand.tmp (6 : Nat)) (by kernel_rfl) (by kernel_rfl) (by kernel_rfl) (by kernel_rfl)
theorem f26n7 {R : Type} (call : CallF R) (N : Nat) (J : KF R) (e : Env) (σ : St) : runK Try.prog call N f26c7 f26a7 J e σ = runK Try.prog call N f26c9 f26a9 (seqC (fun K e σ => runK Try.prog call N f26c10 f26a10 K e σ) f26a7 J) e σ := runK_seq' (by kernel_rfl) (by kernel_rfl) (by kernel_rfl)
theorem f26r9_f26e3 {R : Type} (call : CallF R) (N : Nat) (y0 : Option (Nat × Nat)) (y1 : Bool) (J : KF R) (σ : St) :
    runK Try.prog call N f26c9 f26a9 J (f26e3 y0 y1) σ =
J Ex.normal (f26e4 y0 (ByteArray.mk #[]) false y1) σ := hide (by kernel_rfl)
theorem f26z7_f26e4 (y0 : Option (Nat × Nat)) (y1 : ByteArray) (y2 : Bool) (y3 : Bool) : Ann.clr f26a7 (f26e4 y0 y1 y2 y3) = f26e5 y1 y2 := hide (by kernel_rfl)
theorem f26y10_f26e5 {R : Type} (call : CallF R) (N : Nat) (y0 : ByteArray) (y1 : Bool) (J : KF R) (σ : St) : runK Try.prog call N f26c10 f26a10 J (f26e5 y0 y1) σ = J .ret (f26e5 y0 y1) σ := runK_ret' (by kernel_rfl) (by kernel_rfl)
theorem f26n8 {R : Type} (call : CallF R) (N : Nat) (J : KF R) (e : Env) (σ : St) : runK Try.prog call N f26c8 f26a8 J e σ = J .normal e σ := runK_skip' (by kernel_rfl)
theorem f26z6_f26e3 (y0 : Option (Nat × Nat)) (y1 : Bool) : Ann.clr f26a6 (f26e3 y0 y1) = f26e0 y0 := hide (by kernel_rfl)
theorem f26z2_f26e0 (y0 : Option (Nat × Nat)) : Ann.clr f26a2 (f26e0 y0) = f26e0 y0 := hide (by kernel_rfl)
theorem f26n4 {R : Type} (call : CallF R) (N : Nat) (J : KF R) (e : Env) (σ : St) : runK Try.prog call N f26c4 f26a4 J e σ = runK Try.prog call N f26c11 f26a11 (seqC (fun K e σ => runK Try.prog call N f26c12 f26a12 K e σ) f26a4 J) e σ := runK_seq' (by kernel_rfl) (by kernel_rfl) (by kernel_rfl)
theorem f26r11_f26e0 {R : Type} (call : CallF R) (N : Nat) (y0 : Option (Nat × Nat)) (J : KF R) (σ : St) :
    runK Try.prog call N f26c11 f26a11 J (f26e0 y0) σ =
Option.bind y0 fun v0 =>
  Option.bind (St.ld σ (Prod.fst v0) (Prod.snd v0 + (2 : Nat))) fun v1 =>
    Option.bind (AV.toInt IntKind.i64 v1) fun v2 =>
      call (48 : Nat) [AV.ptr y0, AV.int IntKind.i64 (1 : Int), AV.int IntKind.i64 v2] σ fun v3 v4 =>
        Option.bind (AV.toAgg v3) fun v5 =>
          if List.length v5 = (3 : Nat) then
            Option.bind (List.head? v5) fun v6 =>
              Option.bind (AV.toBool v6) fun v7 =>
                Option.bind (List.head? (List.tail v5)) fun v8 =>
                  Option.bind (AV.toStr v8) fun v9 =>
                    Option.bind (List.head? (List.tail (List.tail v5))) fun v10 =>
                      Option.bind (AV.toStr v10) fun v11 =>
                        Option.bind
                          (St.st (St.new v4 (Blk.cells [AV.bool false, AV.str (ByteArray.mk #[]), AV.str (ByteArray.mk #[])] true)) (St.next v4)
                            (0 : Nat) [AV.bool v7, AV.str v9, AV.str v11])
                          fun v12 =>
                          J Ex.normal (f26e6 y0 (St.next v4) y0 y0 (some v0) (some (Prod.fst v0, Prod.snd v0 + (2 : Nat))) v2 v7 v9 v11) v12
          else none := hide (by kernel_rfl)
theorem f26z4_f26e6 (y0 : Option (Nat × Nat)) (y1 : Nat) (y2 : Option (Nat × Nat)) (y3 : Option (Nat × Nat)) (y4 : Option (Nat × Nat)) (y5 : Option (Nat × Nat)) (y6 : Int) (y7 : Bool) (y8 : ByteArray) (y9 : ByteArray) : Ann.clr f26a4 (f26e6 y0 y1 y2 y3 y4 y5 y6 y7 y8 y9) = f26e7 y1 := hide (by kernel_rfl)
theorem f26n12 {R : Type} (call : CallF R) (N : Nat) (J : KF R) (e : Env) (σ : St) : runK Try.prog call N f26c12 f26a12 J e σ = runK Try.prog call N f26c13 f26a13 (seqC (fun K e σ => runK Try.prog call N f26c14 f26a14 K e σ) f26a12 J) e σ := runK_seq' (by kernel_rfl) (by kernel_rfl) (by kernel_rfl)
theorem f26r13_f26e7 {R : Type} (call : CallF R) (N : Nat) (y0 : Nat) (J : KF R) (σ : St) :
    runK Try.prog call N f26c13 f26a13 J (f26e7 y0) σ =
Option.bind (St.ld σ y0 (1 : Nat)) fun v0 =>
  Option.bind (AV.toStr v0) fun v1 =>
    Option.bind (St.ld σ y0 (0 : Nat)) fun v2 => Option.bind (AV.toBool v2) fun v3 => J Ex.normal (f26e8 v1 v3 y0 y0 v1 y0 v3) σ := hide (by kernel_rfl)
theorem f26z12_f26e8 (y0 : ByteArray) (y1 : Bool) (y2 : Nat) (y3 : Nat) (y4 : ByteArray) (y5 : Nat) (y6 : Bool) : Ann.clr f26a12 (f26e8 y0 y1 y2 y3 y4 y5 y6) = f26e5 y0 y1 := hide (by kernel_rfl)
theorem f26y14_f26e5 {R : Type} (call : CallF R) (N : Nat) (y0 : ByteArray) (y1 : Bool) (J : KF R) (σ : St) : runK Try.prog call N f26c14 f26a14 J (f26e5 y0 y1) σ = J .ret (f26e5 y0 y1) σ := runK_ret' (by kernel_rfl) (by kernel_rfl)
theorem f26b_f26e5_r {R : Type} (y0 : ByteArray) (y1 : Bool) (σ : St) (K : AV → St → Option R) : bodyC Try.prog f26rs K (Ex.ret) (f26e5 y0 y1) σ =
K (AV.tuple [AV.str y0, AV.bool y1]) σ := hide (by kernel_rfl)
attribute [go_sem] f26_eq f26n0 f26r1_f26e0 f26z0_f26e1 f26n2 f26n3 f26r5_f26e0 f26z3_f26e2 f26x6_f26e3 f26n7 f26r9_f26e3 f26z7_f26e4 f26y10_f26e5 f26n8 f26z6_f26e3 f26z2_f26e0 f26n4 f26r11_f26e0 f26z4_f26e6 f26n12 f26r13_f26e7 f26z12_f26e8 f26y14_f26e5 f26b_f26e5_r

noncomputable def f29rs : List ResultVar := [ResultVar.tmp (6 : Nat), ResultVar.tmp (7 : Nat), ResultVar.tmp (8 : Nat)]
noncomputable def f29c0 : Code := subCode [] (bodyOf Try.prog 29)
def f29a0 : Ann := subAnn [] ann29
noncomputable def f29c1 : Code := subCode [0] (bodyOf Try.prog 29)
def f29a1 : Ann := subAnn [0] ann29
noncomputable def f29c2 : Code := subCode [1] (bodyOf Try.prog 29)
def f29a2 : Ann := subAnn [1] ann29
noncomputable def f29c3 : Code := subCode [1, 0] (bodyOf Try.prog 29)
def f29a3 : Ann := subAnn [1, 0] ann29
noncomputable def f29c4 : Code := subCode [1, 1] (bodyOf Try.prog 29)
def f29a4 : Ann := subAnn [1, 1] ann29
noncomputable def f29c5 : Code := subCode [1, 1, 0] (bodyOf Try.prog 29)
def f29a5 : Ann := subAnn [1, 1, 0] ann29
noncomputable def f29c6 : Code := subCode [1, 1, 1] (bodyOf Try.prog 29)
def f29a6 : Ann := subAnn [1, 1, 1] ann29
def f29e0 (y0 : Option (Nat × Nat)) (y1 : Int) (y2 : Int) : Env := AV.ptr y0 :: AV.int IntKind.i64 y1 :: AV.int IntKind.i64 y2 :: Env.sp 17 []
def f29e1 (y0 : Option (Nat × Nat)) (y1 : Int) (y2 : Int) (y3 : ByteArray) (y4 : ByteArray) (y5 : Bool) : Env := AV.ptr y0 :: AV.int IntKind.i64 y1 :: AV.int IntKind.i64 y2 :: Env.sp 3 (AV.str y3 :: AV.str y4 :: AV.bool y5 :: Env.sp 11 [])
def f29e2 (y0 : Option (Nat × Nat)) (y1 : Int) (y2 : Int) (y3 : Nat) (y4 : Option (Nat × Nat)) (y5 : Int) (y6 : Int) (y7 : Bool) (y8 : ByteArray) (y9 : ByteArray) : Env := AV.ptr y0 :: AV.int IntKind.i64 y1 :: AV.int IntKind.i64 y2 :: Env.sp 6 (AV.ptr (some (y3, (0 : Nat))) :: AV.ptr y4 :: AV.int IntKind.i64 y5 :: AV.int IntKind.i64 y6 :: AV.agg [AV.bool y7, AV.str y8, AV.str y9] :: Env.sp 6 [])
def f29e3 (y0 : Nat) : Env := Env.sp 9 (AV.ptr (some (y0, (0 : Nat))) :: Env.sp 10 [])
def f29e4 (y0 : ByteArray) (y1 : ByteArray) (y2 : Bool) (y3 : Nat) (y4 : Nat) (y5 : ByteArray) (y6 : Nat) (y7 : ByteArray) (y8 : Nat) (y9 : Bool) : Env := Env.sp 6 (AV.str y0 :: AV.str y1 :: AV.bool y2 :: AV.ptr (some (y3, (0 : Nat))) :: Env.sp 4 (AV.ptr (some (y4, (1 : Nat))) :: AV.str y5 :: AV.ptr (some (y6, (2 : Nat))) :: AV.str y7 :: AV.ptr (some (y8, (0 : Nat))) :: AV.bool y9 :: []))
def f29e5 (y0 : ByteArray) (y1 : ByteArray) (y2 : Bool) : Env := Env.sp 6 (AV.str y0 :: AV.str y1 :: AV.bool y2 :: Env.sp 11 [])

/- function 29 -/
theorem f29_eq {R : Type} (call : CallF R) (N : Nat) (y0 : Option (Nat × Nat)) (y1 : Int) (y2 : Int) (σ : St) (K : AV → St → Option R) :
    bodyK Try.prog call N ann 29 [AV.ptr y0, AV.int IntKind.i64 y1, AV.int IntKind.i64 y2] σ K = runK Try.prog call N f29c0 f29a0 (bodyC Try.prog f29rs K) (f29e0 y0 y1 y2) σ := bodyK_of (fn := ((Try.prog.funcs[29]?).get rfl)) (by kernel_rfl) (by kernel_rfl) (by kernel_rfl) (by kernel_rfl) (by kernel_rfl) (by kernel_rfl)
theorem f29n0 {R : Type} (call : CallF R) (N : Nat) (J : KF R) (e : Env) (σ : St) : runK Try.prog call N f29c0 f29a0 J e σ = runK Try.prog call N f29c1 f29a1 (seqC (fun K e σ => runK Try.prog call N f29c2 f29a2 K e σ) f29a0 J) e σ := runK_seq' (by kernel_rfl) (by kernel_rfl) (by kernel_rfl)
theorem f29r1_f29e0 {R : Type} (call : CallF R) (N : Nat) (y0 : Option (Nat × Nat)) (y1 : Int) (y2 : Int) (J : KF R) (σ : St) :
    runK Try.prog call N f29c1 f29a1 J (f29e0 y0 y1 y2) σ =
J Ex.normal (f29e1 y0 y1 y2 (ByteArray.mk #[]) (ByteArray.mk #[]) false) σ := hide (by kernel_rfl)
theorem f29z0_f29e1 (y0 : Option (Nat × Nat)) (y1 : Int) (y2 : Int) (y3 : ByteArray) (y4 : ByteArray) (y5 : Bool) : Ann.clr f29a0 (f29e1 y0 y1 y2 y3 y4 y5) = f29e0 y0 y1 y2 := hide (by kernel_rfl)
theorem f29n2 {R : Type} (call : CallF R) (N : Nat) (J : KF R) (e : Env) (σ : St) : runK Try.prog call N f29c2 f29a2 J e σ = runK Try.prog call N f29c3 f29a3 (seqC (fun K e σ => runK Try.prog call N f29c4 f29a4 K e σ) f29a2 J) e σ := runK_seq' (by kernel_rfl) (by kernel_rfl) (by kernel_rfl)
theorem f29r3_f29e0 {R : Type} (call : CallF R) (N : Nat) (y0 : Option (Nat × Nat)) (y1 : Int) (y2 : Int) (J : KF R) (σ : St) :
    runK Try.prog call N f29c3 f29a3 J (f29e0 y0 y1 y2) σ =
call (48 : Nat) [AV.ptr y0, AV.int IntKind.i64 y1, AV.int IntKind.i64 y2] σ fun v0 v1 =>
  Option.bind (AV.toAgg v0) fun v2 =>
    if List.length v2 = (3 : Nat) then
      Option.bind (List.head? v2) fun v3 =>
        Option.bind (AV.toBool v3) fun v4 =>
          Option.bind (List.head? (List.tail v2)) fun v5 =>
            Option.bind (AV.toStr v5) fun v6 =>
              Option.bind (List.head? (List.tail (List.tail v2))) fun v7 =>
                Option.bind (AV.toStr v7) fun v8 =>
                  Option.bind
                    (St.st (St.new v1 (Blk.cells [AV.bool false, AV.str (ByteArray.mk #[]), AV.str (ByteArray.mk #[])] true)) (St.next v1) (0 : Nat)
                      [AV.bool v4, AV.str v6, AV.str v8])
                    fun v9 => J Ex.normal (f29e2 y0 y1 y2 (St.next v1) y0 y1 y2 v4 v6 v8) v9
    else none := hide (by kernel_rfl)
theorem f29z2_f29e2 (y0 : Option (Nat × Nat)) (y1 : Int) (y2 : Int) (y3 : Nat) (y4 : Option (Nat × Nat)) (y5 : Int) (y6 : Int) (y7 : Bool) (y8 : ByteArray) (y9 : ByteArray) : Ann.clr f29a2 (f29e2 y0 y1 y2 y3 y4 y5 y6 y7 y8 y9) = f29e3 y3 := hide (by kernel_rfl)
theorem f29n4 {R : Type} (call : CallF R) (N : Nat) (J : KF R) (e : Env) (σ : St) : runK Try.prog call N f29c4 f29a4 J e σ = runK Try.prog call N f29c5 f29a5 (seqC (fun K e σ => runK Try.prog call N f29c6 f29a6 K e σ) f29a4 J) e σ := runK_seq' (by kernel_rfl) (by kernel_rfl) (by kernel_rfl)
theorem f29r5_f29e3 {R : Type} (call : CallF R) (N : Nat) (y0 : Nat) (J : KF R) (σ : St) :
    runK Try.prog call N f29c5 f29a5 J (f29e3 y0) σ =
Option.bind (St.ld σ y0 (1 : Nat)) fun v0 =>
  Option.bind (AV.toStr v0) fun v1 =>
    Option.bind (St.ld σ y0 (2 : Nat)) fun v2 =>
      Option.bind (AV.toStr v2) fun v3 =>
        Option.bind (St.ld σ y0 (0 : Nat)) fun v4 => Option.bind (AV.toBool v4) fun v5 => J Ex.normal (f29e4 v1 v3 v5 y0 y0 v1 y0 v3 y0 v5) σ := hide (by kernel_rfl)
theorem f29z4_f29e4 (y0 : ByteArray) (y1 : ByteArray) (y2 : Bool) (y3 : Nat) (y4 : Nat) (y5 : ByteArray) (y6 : Nat) (y7 : ByteArray) (y8 : Nat) (y9 : Bool) : Ann.clr f29a4 (f29e4 y0 y1 y2 y3 y4 y5 y6 y7 y8 y9) = f29e5 y0 y1 y2 := hide (by kernel_rfl)
theorem f29y6_f29e5 {R : Type} (call : CallF R) (N : Nat) (y0 : ByteArray) (y1 : ByteArray) (y2 : Bool) (J : KF R) (σ : St) : runK Try.prog call N f29c6 f29a6 J (f29e5 y0 y1 y2) σ = J .ret (f29e5 y0 y1 y2) σ := runK_ret' (by kernel_rfl) (by kernel_rfl)
theorem f29b_f29e5_r {R : Type} (y0 : ByteArray) (y1 : ByteArray) (y2 : Bool) (σ : St) (K : AV → St → Option R) : bodyC Try.prog f29rs K (Ex.ret) (f29e5 y0 y1 y2) σ =
K (AV.tuple [AV.str y0, AV.str y1, AV.bool y2]) σ := hide (by kernel_rfl)
attribute [go_sem] f29_eq f29n0 f29r1_f29e0 f29z0_f29e1 f29n2 f29r3_f29e0 f29z2_f29e2 f29n4 f29r5_f29e3 f29z4_f29e4 f29y6_f29e5 f29b_f29e5_r

noncomputable def f31rs : List ResultVar := [ResultVar.tmp (4 : Nat)]
noncomputable def f31c0 : Code := subCode [] (bodyOf Try.prog 31)
def f31a0 : Ann := subAnn [] ann31
noncomputable def f31c1 : Code := subCode [0] (bodyOf Try.prog 31)
def f31a1 : Ann := subAnn [0] ann31
noncomputable def f31c2 : Code := subCode [1] (bodyOf Try.prog 31)
def f31a2 : Ann := subAnn [1] ann31
noncomputable def f31c3 : Code := subCode [1, 0] (bodyOf Try.prog 31)
def f31a3 : Ann := subAnn [1, 0] ann31
noncomputable def f31c4 : Code := subCode [1, 1] (bodyOf Try.prog 31)
def f31a4 : Ann := subAnn [1, 1] ann31
noncomputable def f31c5 : Code := subCode [1, 1, 0] (bodyOf Try.prog 31)
def f31a5 : Ann := subAnn [1, 1, 0] ann31
noncomputable def f31c6 : Code := subCode [1, 1, 1] (bodyOf Try.prog 31)
def f31a6 : Ann := subAnn [1, 1, 1] ann31
noncomputable def f31c7 : Code := subCode [1, 1, 0, 0] (bodyOf Try.prog 31)
def f31a7 : Ann := subAnn [1, 1, 0, 0] ann31
noncomputable def f31c8 : Code := subCode [1, 1, 0, 1] (bodyOf Try.prog 31)
def f31a8 : Ann := subAnn [1, 1, 0, 1] ann31
noncomputable def f31c9 : Code := subCode [1, 1, 0, 1, 0] (bodyOf Try.prog 31)
def f31a9 : Ann := subAnn [1, 1, 0, 1, 0] ann31
noncomputable def f31c10 : Code := subCode [1, 1, 0, 1, 0, 0] (bodyOf Try.prog 31)
def f31a10 : Ann := subAnn [1, 1, 0, 1, 0, 0] ann31
noncomputable def f31c11 : Code := subCode [1, 1, 0, 1, 0, 0, 0] (bodyOf Try.prog 31)
def f31a11 : Ann := subAnn [1, 1, 0, 1, 0, 0, 0] ann31
noncomputable def f31c12 : Code := subCode [1, 1, 0, 1, 0, 0, 1] (bodyOf Try.prog 31)
def f31a12 : Ann := subAnn [1, 1, 0, 1, 0, 0, 1] ann31
noncomputable def f31c13 : Code := subCode [1, 1, 0, 1, 0, 0, 0, 0] (bodyOf Try.prog 31)
def f31a13 : Ann := subAnn [1, 1, 0, 1, 0, 0, 0, 0] ann31
noncomputable def f31c14 : Code := subCode [1, 1, 0, 1, 0, 0, 0, 1] (bodyOf Try.prog 31)
def f31a14 : Ann := subAnn [1, 1, 0, 1, 0, 0, 0, 1] ann31
noncomputable def f31c15 : Code := subCode [1, 1, 0, 1, 0, 0, 0, 1, 0] (bodyOf Try.prog 31)
def f31a15 : Ann := subAnn [1, 1, 0, 1, 0, 0, 0, 1, 0] ann31
noncomputable def f31c16 : Code := subCode [1, 1, 0, 1, 0, 0, 0, 1, 1] (bodyOf Try.prog 31)
def f31a16 : Ann := subAnn [1, 1, 0, 1, 0, 0, 0, 1, 1] ann31
noncomputable def f31c17 : Code := subCode [1, 1, 0, 1, 0, 0, 1, 0] (bodyOf Try.prog 31)
def f31a17 : Ann := subAnn [1, 1, 0, 1, 0, 0, 1, 0] ann31
noncomputable def f31c18 : Code := subCode [1, 1, 0, 1, 0, 0, 1, 1] (bodyOf Try.prog 31)
def f31a18 : Ann := subAnn [1, 1, 0, 1, 0, 0, 1, 1] ann31
noncomputable def f31c19 : Code := subCode [1, 1, 0, 1, 0, 0, 1, 0, 0] (bodyOf Try.prog 31)
def f31a19 : Ann := subAnn [1, 1, 0, 1, 0, 0, 1, 0, 0] ann31
noncomputable def f31c20 : Code := subCode [1, 1, 0, 1, 0, 0, 1, 0, 0, 0] (bodyOf Try.prog 31)
def f31a20 : Ann := subAnn [1, 1, 0, 1, 0, 0, 1, 0, 0, 0] ann31
noncomputable def f31c21 : Code := subCode [1, 1, 0, 1, 0, 0, 1, 0, 0, 1] (bodyOf Try.prog 31)
def f31a21 : Ann := subAnn [1, 1, 0, 1, 0, 0, 1, 0, 0, 1] ann31
noncomputable def f31c22 : Code := subCode [1, 1, 0, 1, 0, 0, 1, 0, 0, 1, 0] (bodyOf Try.prog 31)
def f31a22 : Ann := subAnn [1, 1, 0, 1, 0, 0, 1, 0, 0, 1, 0] ann31
noncomputable def f31c23 : Code := subCode [1, 1, 0, 1, 0, 0, 1, 0, 0, 1, 1] (bodyOf Try.prog 31)
def f31a23 : Ann := subAnn [1, 1, 0, 1, 0, 0, 1, 0, 0, 1, 1] ann31
noncomputable def f31c24 : Code := subCode [1, 1, 1, 0] (bodyOf Try.prog 31)
def f31a24 : Ann := subAnn [1, 1, 1, 0] ann31
noncomputable def f31c25 : Code := subCode [1, 1, 1, 1] (bodyOf Try.prog 31)
def f31a25 : Ann := subAnn [1, 1, 1, 1] ann31
noncomputable def f31L9 {R : Type} (call : CallF R) (N : Nat) : KF R → Env → St → Option R := fun K e σ => runK Try.prog call N f31c10 f31a10 K e σ
def f31e0 (y0 : Option (Nat × Nat)) (y1 : Int) : Env := AV.ptr y0 :: AV.int IntKind.i64 y1 :: Env.sp 26 []
def f31e1 (y0 : Option (Nat × Nat)) (y1 : Int) (y2 : Int) : Env := AV.ptr y0 :: AV.int IntKind.i64 y1 :: Env.sp 2 (AV.int IntKind.i64 y2 :: Env.sp 23 [])
def f31e2 (y0 : Option (Nat × Nat)) (y1 : Int) (y2 : Int) : Env := AV.ptr y0 :: AV.int IntKind.i64 y1 :: Env.sp 3 (AV.int IntKind.i64 y2 :: Env.sp 22 [])
def f31e3 (y0 : Option (Nat × Nat)) (y1 : Int) (y2 : Int) (y3 : Int) : Env := AV.ptr y0 :: AV.int IntKind.i64 y1 :: Env.sp 3 (AV.int IntKind.i64 y2 :: AV.int IntKind.i64 y3 :: Env.sp 21 [])
def f31e4 (y0 : Option (Nat × Nat)) (y1 : Int) (y2 : Int) (y3 : Int) (y4 : Option (Nat × Nat)) (y5 : Bool) (y6 : Bool) (y7 : Int) (y8 : Option (Nat × Nat)) (y9 : Option (Nat × Nat)) (y10 : Option (Nat × Nat)) (y11 : Int) (y12 : Int) (y13 : Bool) (y14 : Bool) : Env := AV.ptr y0 :: AV.int IntKind.i64 y1 :: Env.sp 3 (AV.int IntKind.i64 y2 :: AV.int IntKind.i64 y3 :: AV.ptr y4 :: AV.bool y5 :: AV.bool y6 :: AV.int IntKind.i64 y7 :: AV.ptr y8 :: AV.ptr y9 :: AV.ptr y10 :: AV.int IntKind.i64 y11 :: AV.int IntKind.i64 y12 :: AV.bool y13 :: AV.bool y14 :: Env.sp 10 [])
def f31e5 (y0 : Option (Nat × Nat)) (y1 : Int) (y2 : Int) (y3 : Int) (y4 : Option (Nat × Nat)) (y5 : Bool) (y6 : Bool) (y7 : Bool) : Env := AV.ptr y0 :: AV.int IntKind.i64 y1 :: Env.sp 3 (AV.int IntKind.i64 y2 :: AV.int IntKind.i64 y3 :: AV.ptr y4 :: AV.bool y5 :: AV.bool y6 :: AV.tuple [] :: AV.tuple [] :: AV.tuple [] :: AV.tuple [] :: AV.tuple [] :: AV.tuple [] :: AV.tuple [] :: AV.bool y7 :: Env.sp 10 [])
def f31e6 (y0 : Option (Nat × Nat)) (y1 : Int) (y2 : Int) (y3 : Int) (y4 : Bool) : Env := AV.ptr y0 :: AV.int IntKind.i64 y1 :: Env.sp 3 (AV.int IntKind.i64 y2 :: AV.int IntKind.i64 y3 :: Env.sp 10 (AV.bool y4 :: Env.sp 10 []))
def f31e7 (y0 : Int) : Env := Env.sp 5 (AV.int IntKind.i64 y0 :: Env.sp 22 [])
def f31e8 (y0 : Option (Nat × Nat)) (y1 : Int) (y2 : Int) (y3 : Int) (y4 : Option (Nat × Nat)) (y5 : Int) (y6 : Int) (y7 : Bool) (y8 : ByteArray) (y9 : ByteArray) (y10 : Bool) : Env := AV.ptr y0 :: AV.int IntKind.i64 y1 :: Env.sp 3 (AV.int IntKind.i64 y2 :: AV.int IntKind.i64 y3 :: Env.sp 13 (AV.ptr y4 :: AV.int IntKind.i64 y5 :: AV.int IntKind.i64 y6 :: AV.agg [AV.bool y7, AV.str y8, AV.str y9] :: AV.bool y10 :: Env.sp 3 []))
def f31e9 (y0 : Option (Nat × Nat)) (y1 : Int) (y2 : Int) (y3 : Int) (y4 : Bool) : Env := AV.ptr y0 :: AV.int IntKind.i64 y1 :: Env.sp 3 (AV.int IntKind.i64 y2 :: AV.int IntKind.i64 y3 :: Env.sp 17 (AV.bool y4 :: Env.sp 3 []))
def f31e10 (y0 : Option (Nat × Nat)) (y1 : Int) (y2 : Int) (y3 : Int) (y4 : Bool) (y5 : Int) (y6 : Int) : Env := AV.ptr y0 :: AV.int IntKind.i64 y1 :: Env.sp 3 (AV.int IntKind.i64 y2 :: AV.int IntKind.i64 y3 :: Env.sp 17 (AV.bool y4 :: AV.int IntKind.i64 y5 :: AV.int IntKind.i64 y6 :: Env.sp 1 []))
def f31e11 (y0 : Option (Nat × Nat)) (y1 : Int) (y2 : Int) (y3 : Int) (y4 : Int) (y5 : Int) : Env := AV.ptr y0 :: AV.int IntKind.i64 y1 :: Env.sp 3 (AV.int IntKind.i64 y2 :: AV.int IntKind.i64 y3 :: Env.sp 11 (AV.int IntKind.i64 y4 :: AV.int IntKind.i64 y5 :: Env.sp 8 []))
def f31e12 (y0 : Int) (y1 : Int) (y2 : Int) : Env := Env.sp 4 (AV.int IntKind.i64 y0 :: AV.int IntKind.i64 y1 :: Env.sp 21 (AV.int IntKind.i64 y2 :: []))
def f31e13 (y0 : Int) : Env := Env.sp 4 (AV.int IntKind.i64 y0 :: Env.sp 23 [])

/- function 31 -/
theorem f31_eq {R : Type} (call : CallF R) (N : Nat) (y0 : Option (Nat × Nat)) (y1 : Int) (σ : St) (K : AV → St → Option R) :
    bodyK Try.prog call N ann 31 [AV.ptr y0, AV.int IntKind.i64 y1] σ K = runK Try.prog call N f31c0 f31a0 (bodyC Try.prog f31rs K) (f31e0 y0 y1) σ := bodyK_of (fn := ((Try.prog.funcs[31]?).get rfl)) (by kernel_rfl) (by kernel_rfl) (by kernel_rfl) (by kernel_rfl) (by kernel_rfl) (by kernel_rfl)
theorem f31n0 {R : Type} (call : CallF R) (N : Nat) (J : KF R) (e : Env) (σ : St) : runK Try.prog call N f31c0 f31a0 J e σ = runK Try.prog call N f31c1 f31a1 (seqC (fun K e σ => runK Try.prog call N f31c2 f31a2 K e σ) f31a0 J) e σ := runK_seq' (by kernel_rfl) (by kernel_rfl) (by kernel_rfl)
theorem f31r1_f31e0 {R : Type} (call : CallF R) (N : Nat) (y0 : Option (Nat × Nat)) (y1 : Int) (J : KF R) (σ : St) :
    runK Try.prog call N f31c1 f31a1 J (f31e0 y0 y1) σ =
J Ex.normal (f31e1 y0 y1 (0 : Int)) σ := hide (by kernel_rfl)
theorem f31z0_f31e1 (y0 : Option (Nat × Nat)) (y1 : Int) (y2 : Int) : Ann.clr f31a0 (f31e1 y0 y1 y2) = f31e0 y0 y1 := hide (by kernel_rfl)
theorem f31n2 {R : Type} (call : CallF R) (N : Nat) (J : KF R) (e : Env) (σ : St) : runK Try.prog call N f31c2 f31a2 J e σ = runK Try.prog call N f31c3 f31a3 (seqC (fun K e σ => runK Try.prog call N f31c4 f31a4 K e σ) f31a2 J) e σ := runK_seq' (by kernel_rfl) (by kernel_rfl) (by kernel_rfl)
theorem f31r3_f31e0 {R : Type} (call : CallF R) (N : Nat) (y0 : Option (Nat × Nat)) (y1 : Int) (J : KF R) (σ : St) :
    runK Try.prog call N f31c3 f31a3 J (f31e0 y0 y1) σ =
J Ex.normal (f31e2 y0 y1 (0 : Int)) σ := hide (by kernel_rfl)
theorem f31z2_f31e2 (y0 : Option (Nat × Nat)) (y1 : Int) (y2 : Int) : Ann.clr f31a2 (f31e2 y0 y1 y2) = f31e2 y0 y1 y2 := hide (by kernel_rfl)
theorem f31n4 {R : Type} (call : CallF R) (N : Nat) (J : KF R) (e : Env) (σ : St) : runK Try.prog call N f31c4 f31a4 J e σ = runK Try.prog call N f31c5 f31a5 (seqC (fun K e σ => runK Try.prog call N f31c6 f31a6 K e σ) f31a4 J) e σ := runK_seq' (by kernel_rfl) (by kernel_rfl) (by kernel_rfl)
theorem f31n5 {R : Type} (call : CallF R) (N : Nat) (J : KF R) (e : Env) (σ : St) : runK Try.prog call N f31c5 f31a5 J e σ = runK Try.prog call N f31c7 f31a7 (seqC (fun K e σ => runK Try.prog call N f31c8 f31a8 K e σ) f31a5 J) e σ := runK_seq' (by kernel_rfl) (by kernel_rfl) (by kernel_rfl)
theorem f31r7_f31e2 {R : Type} (call : CallF R) (N : Nat) (y0 : Option (Nat × Nat)) (y1 : Int) (y2 : Int) (J : KF R) (σ : St) :
    runK Try.prog call N f31c7 f31a7 J (f31e2 y0 y1 y2) σ =
J Ex.normal (f31e3 y0 y1 y2 (0 : Int)) σ := hide (by kernel_rfl)
theorem f31z5_f31e3 (y0 : Option (Nat × Nat)) (y1 : Int) (y2 : Int) (y3 : Int) : Ann.clr f31a5 (f31e3 y0 y1 y2 y3) = f31e3 y0 y1 y2 y3 := hide (by kernel_rfl)
theorem f31n8 {R : Type} (call : CallF R) (N : Nat) (J : KF R) (e : Env) (σ : St) : runK Try.prog call N f31c8 f31a8 J e σ = runK Try.prog call N f31c9 f31a9 (blockC 0 f31a8 J) e σ := runK_block' (by kernel_rfl) (by kernel_rfl)
theorem f31L9_eq {R : Type} (call : CallF R) (N : Nat) (J : KF R) (e : Env) (σ : St) : f31L9 call N J e σ = runK Try.prog call N f31c10 f31a10 J e σ := hide rfl
theorem f31z9_f31e3 (y0 : Option (Nat × Nat)) (y1 : Int) (y2 : Int) (y3 : Int) : Ann.clr f31a9 (f31e3 y0 y1 y2 y3) = f31e3 y0 y1 y2 y3 := hide (by kernel_rfl)
theorem f31l9_f31e3 {R : Type} (call : CallF R) (N : Nat) (y0 : Option (Nat × Nat)) (y1 : Int) (y2 : Int) (y3 : Int) (J : KF R) (σ : St) : runK Try.prog call N f31c9 f31a9 J (f31e3 y0 y1 y2 y3) σ = loopK (f31L9 call N) f31a9 N J (f31e3 y0 y1 y2 y3) σ := runK_loop' (by kernel_rfl) (by kernel_rfl) (by kernel_rfl)
theorem f31n10 {R : Type} (call : CallF R) (N : Nat) (J : KF R) (e : Env) (σ : St) : runK Try.prog call N f31c10 f31a10 J e σ = runK Try.prog call N f31c11 f31a11 (seqC (fun K e σ => runK Try.prog call N f31c12 f31a12 K e σ) f31a10 J) e σ := runK_seq' (by kernel_rfl) (by kernel_rfl) (by kernel_rfl)
theorem f31n11 {R : Type} (call : CallF R) (N : Nat) (J : KF R) (e : Env) (σ : St) : runK Try.prog call N f31c11 f31a11 J e σ = runK Try.prog call N f31c13 f31a13 (seqC (fun K e σ => runK Try.prog call N f31c14 f31a14 K e σ) f31a11 J) e σ := runK_seq' (by kernel_rfl) (by kernel_rfl) (by kernel_rfl)
theorem f31r13_f31e3 {R : Type} (call : CallF R) (N : Nat) (y0 : Option (Nat × Nat)) (y1 : Int) (y2 : Int) (y3 : Int) (J : KF R) (σ : St) :
    runK Try.prog call N f31c13 f31a13 J (f31e3 y0 y1 y2 y3) σ =
if (!Option.isNone y0) = true then
  Option.bind y0 fun v0 =>
    Option.bind (St.ld σ (Prod.fst v0) (Prod.snd v0 + (1 : Nat))) fun v1 =>
      Option.bind (AV.toInt IntKind.i64 v1) fun v2 =>
        J Ex.normal
          (f31e4 y0 y1 y2 y3 y0 (!Option.isNone y0) true y3 y0 (some v0) (some (Prod.fst v0, Prod.snd v0 + (1 : Nat))) v2
            (IntKind.wrap IntKind.i64 ((3 : Int) * v2)) (decide (y3 ≤ IntKind.wrap IntKind.i64 ((3 : Int) * v2)))
            (decide (y3 ≤ IntKind.wrap IntKind.i64 ((3 : Int) * v2))))
          σ
else J Ex.normal (f31e5 y0 y1 y2 y3 y0 (!Option.isNone y0) false false) σ := hide (by kernel_rfl)
theorem f31z11_f31e4 (y0 : Option (Nat × Nat)) (y1 : Int) (y2 : Int) (y3 : Int) (y4 : Option (Nat × Nat)) (y5 : Bool) (y6 : Bool) (y7 : Int) (y8 : Option (Nat × Nat)) (y9 : Option (Nat × Nat)) (y10 : Option (Nat × Nat)) (y11 : Int) (y12 : Int) (y13 : Bool) (y14 : Bool) : Ann.clr f31a11 (f31e4 y0 y1 y2 y3 y4 y5 y6 y7 y8 y9 y10 y11 y12 y13 y14) = f31e6 y0 y1 y2 y3 y14 := hide (by kernel_rfl)
theorem f31x14_f31e6 {R : Type} (call : CallF R) (N : Nat) (y0 : Option (Nat × Nat)) (y1 : Int) (y2 : Int) (y3 : Int) (y4 : Bool) (J : KF R) (σ : St) : runK Try.prog call N f31c14 f31a14 J (f31e6 y0 y1 y2 y3 y4) σ = if y4 = true then runK Try.prog call N f31c15 f31a15 (condC f31a14 J) (f31e6 y0 y1 y2 y3 y4) σ else runK Try.prog call N f31c16 f31a16 (condC f31a14 J) (f31e6 y0 y1 y2 y3 y4) σ := runK_cond' (o := Operand.tmp (17 : Nat)) (by kernel_rfl) (by kernel_rfl) (by kernel_rfl) (by kernel_rfl)
theorem f31n15 {R : Type} (call : CallF R) (N : Nat) (J : KF R) (e : Env) (σ : St) : runK Try.prog call N f31c15 f31a15 J e σ = J .normal e σ := runK_skip' (by kernel_rfl)
theorem f31z14_f31e6 (y0 : Option (Nat × Nat)) (y1 : Int) (y2 : Int) (y3 : Int) (y4 : Bool) : Ann.clr f31a14 (f31e6 y0 y1 y2 y3 y4) = f31e3 y0 y1 y2 y3 := hide (by kernel_rfl)
theorem f31y16_f31e6 {R : Type} (call : CallF R) (N : Nat) (y0 : Option (Nat × Nat)) (y1 : Int) (y2 : Int) (y3 : Int) (y4 : Bool) (J : KF R) (σ : St) : runK Try.prog call N f31c16 f31a16 J (f31e6 y0 y1 y2 y3 y4) σ = J (.exit 0) (f31e7 y2) σ := runK_exit' (by kernel_rfl) (by kernel_rfl)
theorem f31z11_f31e5 (y0 : Option (Nat × Nat)) (y1 : Int) (y2 : Int) (y3 : Int) (y4 : Option (Nat × Nat)) (y5 : Bool) (y6 : Bool) (y7 : Bool) : Ann.clr f31a11 (f31e5 y0 y1 y2 y3 y4 y5 y6 y7) = f31e6 y0 y1 y2 y3 y7 := hide (by kernel_rfl)
theorem f31z10_f31e3 (y0 : Option (Nat × Nat)) (y1 : Int) (y2 : Int) (y3 : Int) : Ann.clr f31a10 (f31e3 y0 y1 y2 y3) = f31e3 y0 y1 y2 y3 := hide (by kernel_rfl)
theorem f31n12 {R : Type} (call : CallF R) (N : Nat) (J : KF R) (e : Env) (σ : St) : runK Try.prog call N f31c12 f31a12 J e σ = runK Try.prog call N f31c17 f31a17 (seqC (fun K e σ => runK Try.prog call N f31c18 f31a18 K e σ) f31a12 J) e σ := runK_seq' (by kernel_rfl) (by kernel_rfl) (by kernel_rfl)
theorem f31n17 {R : Type} (call : CallF R) (N : Nat) (J : KF R) (e : Env) (σ : St) : runK Try.prog call N f31c17 f31a17 J e σ = runK Try.prog call N f31c19 f31a19 (blockC 1 f31a17 J) e σ := runK_block' (by kernel_rfl) (by kernel_rfl)
theorem f31n19 {R : Type} (call : CallF R) (N : Nat) (J : KF R) (e : Env) (σ : St) : runK Try.prog call N f31c19 f31a19 J e σ = runK Try.prog call N f31c20 f31a20 (seqC (fun K e σ => runK Try.prog call N f31c21 f31a21 K e σ) f31a19 J) e σ := runK_seq' (by kernel_rfl) (by kernel_rfl) (by kernel_rfl)
theorem f31r20_f31e3 {R : Type} (call : CallF R) (N : Nat) (y0 : Option (Nat × Nat)) (y1 : Int) (y2 : Int) (y3 : Int) (J : KF R) (σ : St) :
    runK Try.prog call N f31c20 f31a20 J (f31e3 y0 y1 y2 y3) σ =
call (48 : Nat) [AV.ptr y0, AV.int IntKind.i64 y1, AV.int IntKind.i64 y3] σ fun v0 v1 =>
  Option.bind (AV.toAgg v0) fun v2 =>
    if List.length v2 = (3 : Nat) then
      Option.bind (List.head? v2) fun v3 =>
        Option.bind (AV.toBool v3) fun v4 =>
          Option.bind (List.head? (List.tail v2)) fun v5 =>
            Option.bind (AV.toStr v5) fun v6 =>
              Option.bind (List.head? (List.tail (List.tail v2))) fun v7 =>
                Option.bind (AV.toStr v7) fun v8 => J Ex.normal (f31e8 y0 y1 y2 y3 y0 y1 y3 v4 v6 v8 v4) v1
    else none := hide (by kernel_rfl)
theorem f31z19_f31e8 (y0 : Option (Nat × Nat)) (y1 : Int) (y2 : Int) (y3 : Int) (y4 : Option (Nat × Nat)) (y5 : Int) (y6 : Int) (y7 : Bool) (y8 : ByteArray) (y9 : ByteArray) (y10 : Bool) : Ann.clr f31a19 (f31e8 y0 y1 y2 y3 y4 y5 y6 y7 y8 y9 y10) = f31e9 y0 y1 y2 y3 y10 := hide (by kernel_rfl)
theorem f31x21_f31e9 {R : Type} (call : CallF R) (N : Nat) (y0 : Option (Nat × Nat)) (y1 : Int) (y2 : Int) (y3 : Int) (y4 : Bool) (J : KF R) (σ : St) : runK Try.prog call N f31c21 f31a21 J (f31e9 y0 y1 y2 y3 y4) σ = if y4 = true then runK Try.prog call N f31c22 f31a22 (condC f31a21 J) (f31e9 y0 y1 y2 y3 y4) σ else runK Try.prog call N f31c23 f31a23 (condC f31a21 J) (f31e9 y0 y1 y2 y3 y4) σ := runK_cond' (o := Operand.tmp (24 : Nat)) (by kernel_rfl) (by kernel_rfl) (by kernel_rfl) (by kernel_rfl)
theorem f31r22_f31e9 {R : Type} (call : CallF R) (N : Nat) (y0 : Option (Nat × Nat)) (y1 : Int) (y2 : Int) (y3 : Int) (y4 : Bool) (J : KF R) (σ : St) :
    runK Try.prog call N f31c22 f31a22 J (f31e9 y0 y1 y2 y3 y4) σ =
J Ex.normal (f31e10 y0 y1 (IntKind.wrap IntKind.i64 (y2 + (1 : Int))) y3 y4 y2 (IntKind.wrap IntKind.i64 (y2 + (1 : Int)))) σ := hide (by kernel_rfl)
theorem f31z21_f31e10 (y0 : Option (Nat × Nat)) (y1 : Int) (y2 : Int) (y3 : Int) (y4 : Bool) (y5 : Int) (y6 : Int) : Ann.clr f31a21 (f31e10 y0 y1 y2 y3 y4 y5 y6) = f31e3 y0 y1 y2 y3 := hide (by kernel_rfl)
theorem f31n23 {R : Type} (call : CallF R) (N : Nat) (J : KF R) (e : Env) (σ : St) : runK Try.prog call N f31c23 f31a23 J e σ = J .normal e σ := runK_skip' (by kernel_rfl)
theorem f31z21_f31e9 (y0 : Option (Nat × Nat)) (y1 : Int) (y2 : Int) (y3 : Int) (y4 : Bool) : Ann.clr f31a21 (f31e9 y0 y1 y2 y3 y4) = f31e3 y0 y1 y2 y3 := hide (by kernel_rfl)
theorem f31z17_f31e3 (y0 : Option (Nat × Nat)) (y1 : Int) (y2 : Int) (y3 : Int) : Ann.clr f31a17 (f31e3 y0 y1 y2 y3) = f31e3 y0 y1 y2 y3 := hide (by kernel_rfl)
theorem f31z12_f31e3 (y0 : Option (Nat × Nat)) (y1 : Int) (y2 : Int) (y3 : Int) : Ann.clr f31a12 (f31e3 y0 y1 y2 y3) = f31e3 y0 y1 y2 y3 := hide (by kernel_rfl)
theorem f31r18_f31e3 {R : Type} (call : CallF R) (N : Nat) (y0 : Option (Nat × Nat)) (y1 : Int) (y2 : Int) (y3 : Int) (J : KF R) (σ : St) :
    runK Try.prog call N f31c18 f31a18 J (f31e3 y0 y1 y2 y3) σ =
J Ex.normal (f31e11 y0 y1 y2 (IntKind.wrap IntKind.i64 (y3 + (1 : Int))) y3 (IntKind.wrap IntKind.i64 (y3 + (1 : Int)))) σ := hide (by kernel_rfl)
theorem f31z9_f31e11 (y0 : Option (Nat × Nat)) (y1 : Int) (y2 : Int) (y3 : Int) (y4 : Int) (y5 : Int) : Ann.clr f31a9 (f31e11 y0 y1 y2 y3 y4 y5) = f31e3 y0 y1 y2 y3 := hide (by kernel_rfl)
theorem f31z8_f31e7 (y0 : Int) : Ann.clr f31a8 (f31e7 y0) = f31e7 y0 := hide (by kernel_rfl)
theorem f31z4_f31e7 (y0 : Int) : Ann.clr f31a4 (f31e7 y0) = f31e7 y0 := hide (by kernel_rfl)
theorem f31n6 {R : Type} (call : CallF R) (N : Nat) (J : KF R) (e : Env) (σ : St) : runK Try.prog call N f31c6 f31a6 J e σ = runK Try.prog call N f31c24 f31a24 (seqC (fun K e σ => runK Try.prog call N f31c25 f31a25 K e σ) f31a6 J) e σ := runK_seq' (by kernel_rfl) (by kernel_rfl) (by kernel_rfl)
theorem f31r24_f31e7 {R : Type} (call : CallF R) (N : Nat) (y0 : Int) (J : KF R) (σ : St) :
    runK Try.prog call N f31c24 f31a24 J (f31e7 y0) σ =
J Ex.normal (f31e12 y0 y0 y0) σ := hide (by kernel_rfl)
theorem f31z6_f31e12 (y0 : Int) (y1 : Int) (y2 : Int) : Ann.clr f31a6 (f31e12 y0 y1 y2) = f31e13 y0 := hide (by kernel_rfl)
theorem f31y25_f31e13 {R : Type} (call : CallF R) (N : Nat) (y0 : Int) (J : KF R) (σ : St) : runK Try.prog call N f31c25 f31a25 J (f31e13 y0) σ = J .ret (f31e13 y0) σ := runK_ret' (by kernel_rfl) (by kernel_rfl)
theorem f31b_f31e13_r {R : Type} (y0 : Int) (σ : St) (K : AV → St → Option R) : bodyC Try.prog f31rs K (Ex.ret) (f31e13 y0) σ =
K (AV.int IntKind.i64 y0) σ := hide (by kernel_rfl)
attribute [go_sem] f31_eq f31n0 f31r1_f31e0 f31z0_f31e1 f31n2 f31r3_f31e0 f31z2_f31e2 f31n4 f31n5 f31r7_f31e2 f31z5_f31e3 f31n8 f31L9_eq f31z9_f31e3 f31l9_f31e3 f31n10 f31n11 f31r13_f31e3 f31z11_f31e4 f31x14_f31e6 f31n15 f31z14_f31e6 f31y16_f31e6 f31z11_f31e5 f31z10_f31e3 f31n12 f31n17 f31n19 f31r20_f31e3 f31z19_f31e8 f31x21_f31e9 f31r22_f31e9 f31z21_f31e10 f31n23 f31z21_f31e9 f31z17_f31e3 f31z12_f31e3 f31r18_f31e3 f31z9_f31e11 f31z8_f31e7 f31z4_f31e7 f31n6 f31r24_f31e7 f31z6_f31e12 f31y25_f31e13 f31b_f31e13_r

noncomputable def f47rs : List ResultVar := [ResultVar.cell (6 : Nat) (43 : Nat), ResultVar.tmp (7 : Nat)]
noncomputable def f47c0 : Code := subCode [] (bodyOf Try.prog 47)
def f47a0 : Ann := subAnn [] ann47
noncomputable def f47c1 : Code := subCode [0] (bodyOf Try.prog 47)
def f47a1 : Ann := subAnn [0] ann47
noncomputable def f47c2 : Code := subCode [1] (bodyOf Try.prog 47)
def f47a2 : Ann := subAnn [1] ann47
noncomputable def f47c3 : Code := subCode [1, 0] (bodyOf Try.prog 47)
def f47a3 : Ann := subAnn [1, 0] ann47
noncomputable def f47c4 : Code := subCode [1, 1] (bodyOf Try.prog 47)
def f47a4 : Ann := subAnn [1, 1] ann47
noncomputable def f47c5 : Code := subCode [1, 1, 0] (bodyOf Try.prog 47)
def f47a5 : Ann := subAnn [1, 1, 0] ann47
noncomputable def f47c6 : Code := subCode [1, 1, 1] (bodyOf Try.prog 47)
def f47a6 : Ann := subAnn [1, 1, 1] ann47
noncomputable def f47c7 : Code := subCode [1, 1, 0, 0] (bodyOf Try.prog 47)
def f47a7 : Ann := subAnn [1, 1, 0, 0] ann47
noncomputable def f47c8 : Code := subCode [1, 1, 0, 1] (bodyOf Try.prog 47)
def f47a8 : Ann := subAnn [1, 1, 0, 1] ann47
noncomputable def f47c9 : Code := subCode [1, 1, 0, 1, 0] (bodyOf Try.prog 47)
def f47a9 : Ann := subAnn [1, 1, 0, 1, 0] ann47
noncomputable def f47c10 : Code := subCode [1, 1, 0, 1, 0, 0] (bodyOf Try.prog 47)
def f47a10 : Ann := subAnn [1, 1, 0, 1, 0, 0] ann47
noncomputable def f47c11 : Code := subCode [1, 1, 0, 1, 0, 0, 0] (bodyOf Try.prog 47)
def f47a11 : Ann := subAnn [1, 1, 0, 1, 0, 0, 0] ann47
noncomputable def f47c12 : Code := subCode [1, 1, 0, 1, 0, 0, 1] (bodyOf Try.prog 47)
def f47a12 : Ann := subAnn [1, 1, 0, 1, 0, 0, 1] ann47
noncomputable def f47c13 : Code := subCode [1, 1, 0, 1, 0, 0, 1, 0] (bodyOf Try.prog 47)
def f47a13 : Ann := subAnn [1, 1, 0, 1, 0, 0, 1, 0] ann47
noncomputable def f47c14 : Code := subCode [1, 1, 0, 1, 0, 0, 1, 1] (bodyOf Try.prog 47)
def f47a14 : Ann := subAnn [1, 1, 0, 1, 0, 0, 1, 1] ann47
noncomputable def f47c15 : Code := subCode [1, 1, 0, 1, 0, 0, 1, 0, 0] (bodyOf Try.prog 47)
def f47a15 : Ann := subAnn [1, 1, 0, 1, 0, 0, 1, 0, 0] ann47
noncomputable def f47c16 : Code := subCode [1, 1, 0, 1, 0, 0, 1, 0, 1] (bodyOf Try.prog 47)
def f47a16 : Ann := subAnn [1, 1, 0, 1, 0, 0, 1, 0, 1] ann47
noncomputable def f47c17 : Code := subCode [1, 1, 0, 1, 0, 0, 1, 1, 0] (bodyOf Try.prog 47)
def f47a17 : Ann := subAnn [1, 1, 0, 1, 0, 0, 1, 1, 0] ann47
noncomputable def f47c18 : Code := subCode [1, 1, 0, 1, 0, 0, 1, 1, 1] (bodyOf Try.prog 47)
def f47a18 : Ann := subAnn [1, 1, 0, 1, 0, 0, 1, 1, 1] ann47
noncomputable def f47c19 : Code := subCode [1, 1, 0, 1, 0, 0, 1, 1, 0, 0] (bodyOf Try.prog 47)
def f47a19 : Ann := subAnn [1, 1, 0, 1, 0, 0, 1, 1, 0, 0] ann47
noncomputable def f47c20 : Code := subCode [1, 1, 0, 1, 0, 0, 1, 1, 0, 0, 0] (bodyOf Try.prog 47)
def f47a20 : Ann := subAnn [1, 1, 0, 1, 0, 0, 1, 1, 0, 0, 0] ann47
noncomputable def f47c21 : Code := subCode [1, 1, 0, 1, 0, 0, 1, 1, 0, 0, 1] (bodyOf Try.prog 47)
def f47a21 : Ann := subAnn [1, 1, 0, 1, 0, 0, 1, 1, 0, 0, 1] ann47
noncomputable def f47c22 : Code := subCode [1, 1, 0, 1, 0, 0, 1, 1, 0, 0, 1, 0] (bodyOf Try.prog 47)
def f47a22 : Ann := subAnn [1, 1, 0, 1, 0, 0, 1, 1, 0, 0, 1, 0] ann47
noncomputable def f47c23 : Code := subCode [1, 1, 0, 1, 0, 0, 1, 1, 0, 0, 1, 1] (bodyOf Try.prog 47)
def f47a23 : Ann := subAnn [1, 1, 0, 1, 0, 0, 1, 1, 0, 0, 1, 1] ann47
noncomputable def f47c24 : Code := subCode [1, 1, 0, 1, 0, 0, 1, 1, 0, 0, 1, 1, 0] (bodyOf Try.prog 47)
def f47a24 : Ann := subAnn [1, 1, 0, 1, 0, 0, 1, 1, 0, 0, 1, 1, 0] ann47
noncomputable def f47c25 : Code := subCode [1, 1, 0, 1, 0, 0, 1, 1, 0, 0, 1, 1, 1] (bodyOf Try.prog 47)
def f47a25 : Ann := subAnn [1, 1, 0, 1, 0, 0, 1, 1, 0, 0, 1, 1, 1] ann47
noncomputable def f47c26 : Code := subCode [1, 1, 1, 0] (bodyOf Try.prog 47)
def f47a26 : Ann := subAnn [1, 1, 1, 0] ann47
noncomputable def f47c27 : Code := subCode [1, 1, 1, 1] (bodyOf Try.prog 47)
def f47a27 : Ann := subAnn [1, 1, 1, 1] ann47
noncomputable def f47c28 : Code := subCode [1, 1, 1, 0, 0] (bodyOf Try.prog 47)
def f47a28 : Ann := subAnn [1, 1, 1, 0, 0] ann47
noncomputable def f47c29 : Code := subCode [1, 1, 1, 0, 1] (bodyOf Try.prog 47)
def f47a29 : Ann := subAnn [1, 1, 1, 0, 1] ann47
noncomputable def f47c30 : Code := subCode [1, 1, 1, 0, 1, 0] (bodyOf Try.prog 47)
def f47a30 : Ann := subAnn [1, 1, 1, 0, 1, 0] ann47
noncomputable def f47c31 : Code := subCode [1, 1, 1, 0, 1, 1] (bodyOf Try.prog 47)
def f47a31 : Ann := subAnn [1, 1, 1, 0, 1, 1] ann47
noncomputable def f47c32 : Code := subCode [1, 1, 1, 0, 1, 0, 0] (bodyOf Try.prog 47)
def f47a32 : Ann := subAnn [1, 1, 1, 0, 1, 0, 0] ann47
noncomputable def f47c33 : Code := subCode [1, 1, 1, 0, 1, 0, 1] (bodyOf Try.prog 47)
def f47a33 : Ann := subAnn [1, 1, 1, 0, 1, 0, 1] ann47
noncomputable def f47c34 : Code := subCode [1, 1, 1, 1, 0] (bodyOf Try.prog 47)
def f47a34 : Ann := subAnn [1, 1, 1, 1, 0] ann47
noncomputable def f47c35 : Code := subCode [1, 1, 1, 1, 1] (bodyOf Try.prog 47)
def f47a35 : Ann := subAnn [1, 1, 1, 1, 1] ann47
noncomputable def f47L9 {R : Type} (call : CallF R) (N : Nat) : KF R → Env → St → Option R := fun K e σ => runK Try.prog call N f47c10 f47a10 K e σ
def f47e0 (y0 : Option (Nat × Nat)) (y1 : Int) (y2 : ByteArray) : Env := AV.ptr y0 :: AV.int IntKind.i64 y1 :: AV.str y2 :: Env.sp 56 []
def f47e1 (y0 : Option (Nat × Nat)) (y1 : Int) (y2 : ByteArray) (y3 : Nat) (y4 : Bool) : Env := AV.ptr y0 :: AV.int IntKind.i64 y1 :: AV.str y2 :: Env.sp 3 (AV.ptr (some (y3, (0 : Nat))) :: AV.bool y4 :: Env.sp 51 [])
def f47e2 (y0 : Option (Nat × Nat)) (y1 : Int) (y2 : ByteArray) (y3 : Nat) : Env := AV.ptr y0 :: AV.int IntKind.i64 y1 :: AV.str y2 :: Env.sp 3 (AV.ptr (some (y3, (0 : Nat))) :: Env.sp 52 [])
def f47e3 (y0 : Option (Nat × Nat)) (y1 : Int) (y2 : ByteArray) (y3 : Nat) (y4 : Nat) (y5 : ByteArray) (y6 : Option (Nat × Nat)) (y7 : Option (Nat × Nat)) (y8 : Option (Nat × Nat)) (y9 : Int) (y10 : ByteArray) (y11 : Int) (y12 : Option (Nat × Nat)) (y13 : Nat) (y14 : Option Nat) : Env := AV.ptr y0 :: AV.int IntKind.i64 y1 :: AV.str y2 :: Env.sp 3 (AV.ptr (some (y3, (0 : Nat))) :: Env.sp 1 (AV.ptr (some (y4, (0 : Nat))) :: Env.sp 2 (AV.str y5 :: AV.ptr y6 :: AV.ptr y7 :: AV.ptr y8 :: AV.int IntKind.i64 y9 :: AV.agg [AV.str y10, AV.int IntKind.i64 y11, AV.slice y12 y13 y14 (2 : Nat)] :: Env.sp 42 [])))
def f47e4 (y0 : Option (Nat × Nat)) (y1 : Int) (y2 : ByteArray) (y3 : Nat) (y4 : Nat) : Env := AV.ptr y0 :: AV.int IntKind.i64 y1 :: AV.str y2 :: Env.sp 3 (AV.ptr (some (y3, (0 : Nat))) :: Env.sp 1 (AV.ptr (some (y4, (0 : Nat))) :: Env.sp 50 []))
def f47e5 (y0 : Option (Nat × Nat)) (y1 : Int) (y2 : ByteArray) (y3 : Nat) (y4 : Nat) (y5 : Option (Nat × Nat)) (y6 : Int) (y7 : Option (Nat × Nat)) (y8 : Option (Nat × Nat)) (y9 : Option (Nat × Nat)) (y10 : Option (Nat × Nat)) (y11 : Nat) (y12 : Option Nat) (y13 : Int) (y14 : Int) : Env := AV.ptr y0 :: AV.int IntKind.i64 y1 :: AV.str y2 :: Env.sp 3 (AV.ptr (some (y3, (0 : Nat))) :: Env.sp 1 (AV.ptr (some (y4, (0 : Nat))) :: Env.sp 8 (AV.ptr y5 :: AV.int IntKind.i64 y6 :: AV.ptr y7 :: AV.ptr y8 :: AV.ptr y9 :: AV.slice y10 y11 y12 (3 : Nat) :: AV.int IntKind.i64 y13 :: AV.int IntKind.i64 y14 :: Env.sp 34 [])))
def f47e6 (y0 : Option (Nat × Nat)) (y1 : ByteArray) (y2 : Nat) (y3 : Nat) (y4 : Option (Nat × Nat)) (y5 : Nat) (y6 : Option Nat) (y7 : Int) (y8 : Int) : Env := AV.ptr y0 :: Env.sp 1 (AV.str y1 :: Env.sp 3 (AV.ptr (some (y2, (0 : Nat))) :: Env.sp 1 (AV.ptr (some (y3, (0 : Nat))) :: Env.sp 13 (AV.slice y4 y5 y6 (3 : Nat) :: AV.int IntKind.i64 y7 :: AV.int IntKind.i64 y8 :: Env.sp 34 []))))
def f47e7 (y0 : Option (Nat × Nat)) (y1 : ByteArray) (y2 : Nat) (y3 : Nat) (y4 : Option (Nat × Nat)) (y5 : Nat) (y6 : Option Nat) (y7 : Int) (y8 : Int) (y9 : Bool) : Env := AV.ptr y0 :: Env.sp 1 (AV.str y1 :: Env.sp 3 (AV.ptr (some (y2, (0 : Nat))) :: Env.sp 1 (AV.ptr (some (y3, (0 : Nat))) :: Env.sp 13 (AV.slice y4 y5 y6 (3 : Nat) :: AV.int IntKind.i64 y7 :: AV.int IntKind.i64 y8 :: AV.bool y9 :: Env.sp 33 []))))
def f47e8 (y0 : Option (Nat × Nat)) (y1 : Nat) (y2 : Nat) : Env := AV.ptr y0 :: Env.sp 5 (AV.ptr (some (y1, (0 : Nat))) :: Env.sp 1 (AV.ptr (some (y2, (0 : Nat))) :: Env.sp 50 []))
def f47e9 (y0 : Option (Nat × Nat)) (y1 : ByteArray) (y2 : Nat) (y3 : Nat) (y4 : Int) (y5 : Nat) (y6 : Option (Nat × Nat)) (y7 : Nat) (y8 : Option Nat) (y9 : Int) (y10 : Int) (y11 : Int) (y12 : Option (Nat × Nat)) (y13 : Bool) (y14 : ByteArray) (y15 : ByteArray) : Env := AV.ptr y0 :: Env.sp 1 (AV.str y1 :: Env.sp 3 (AV.ptr (some (y2, (0 : Nat))) :: Env.sp 1 (AV.ptr (some (y3, (0 : Nat))) :: AV.int IntKind.i64 y4 :: AV.ptr (some (y5, (0 : Nat))) :: Env.sp 11 (AV.slice y6 y7 y8 (3 : Nat) :: AV.int IntKind.i64 y9 :: AV.int IntKind.i64 y10 :: Env.sp 1 (AV.int IntKind.i64 y11 :: AV.ptr y12 :: AV.agg [AV.bool y13, AV.str y14, AV.str y15] :: Env.sp 30 [])))))
def f47e10 (y0 : Option (Nat × Nat)) (y1 : ByteArray) (y2 : Nat) (y3 : Nat) (y4 : Int) (y5 : Nat) (y6 : Option (Nat × Nat)) (y7 : Nat) (y8 : Option Nat) (y9 : Int) (y10 : Int) : Env := AV.ptr y0 :: Env.sp 1 (AV.str y1 :: Env.sp 3 (AV.ptr (some (y2, (0 : Nat))) :: Env.sp 1 (AV.ptr (some (y3, (0 : Nat))) :: AV.int IntKind.i64 y4 :: AV.ptr (some (y5, (0 : Nat))) :: Env.sp 11 (AV.slice y6 y7 y8 (3 : Nat) :: AV.int IntKind.i64 y9 :: AV.int IntKind.i64 y10 :: Env.sp 34 []))))
def f47e11 (y0 : Option (Nat × Nat)) (y1 : ByteArray) (y2 : Nat) (y3 : Nat) (y4 : Int) (y5 : Nat) (y6 : Option (Nat × Nat)) (y7 : Nat) (y8 : Option Nat) (y9 : Int) (y10 : Int) (y11 : Nat) (y12 : Bool) (y13 : Bool) (y14 : Nat) (y15 : ByteArray) (y16 : ByteArray) (y17 : Bool) (y18 : Bool) : Env := AV.ptr y0 :: Env.sp 1 (AV.str y1 :: Env.sp 3 (AV.ptr (some (y2, (0 : Nat))) :: Env.sp 1 (AV.ptr (some (y3, (0 : Nat))) :: AV.int IntKind.i64 y4 :: AV.ptr (some (y5, (0 : Nat))) :: Env.sp 11 (AV.slice y6 y7 y8 (3 : Nat) :: AV.int IntKind.i64 y9 :: AV.int IntKind.i64 y10 :: Env.sp 4 (AV.ptr (some (y11, (0 : Nat))) :: AV.bool y12 :: AV.bool y13 :: AV.ptr (some (y14, (1 : Nat))) :: AV.str y15 :: AV.str y16 :: AV.bool y17 :: AV.bool y18 :: Env.sp 22 [])))))
def f47e12 (y0 : Option (Nat × Nat)) (y1 : ByteArray) (y2 : Nat) (y3 : Nat) (y4 : Int) (y5 : Nat) (y6 : Option (Nat × Nat)) (y7 : Nat) (y8 : Option Nat) (y9 : Int) (y10 : Int) (y11 : Nat) (y12 : Bool) (y13 : Bool) (y14 : Bool) : Env := AV.ptr y0 :: Env.sp 1 (AV.str y1 :: Env.sp 3 (AV.ptr (some (y2, (0 : Nat))) :: Env.sp 1 (AV.ptr (some (y3, (0 : Nat))) :: AV.int IntKind.i64 y4 :: AV.ptr (some (y5, (0 : Nat))) :: Env.sp 11 (AV.slice y6 y7 y8 (3 : Nat) :: AV.int IntKind.i64 y9 :: AV.int IntKind.i64 y10 :: Env.sp 4 (AV.ptr (some (y11, (0 : Nat))) :: AV.bool y12 :: AV.bool y13 :: AV.tuple [] :: AV.tuple [] :: AV.tuple [] :: AV.tuple [] :: AV.bool y14 :: Env.sp 22 [])))))
def f47e13 (y0 : Option (Nat × Nat)) (y1 : ByteArray) (y2 : Nat) (y3 : Nat) (y4 : Int) (y5 : Nat) (y6 : Option (Nat × Nat)) (y7 : Nat) (y8 : Option Nat) (y9 : Int) (y10 : Int) (y11 : Bool) : Env := AV.ptr y0 :: Env.sp 1 (AV.str y1 :: Env.sp 3 (AV.ptr (some (y2, (0 : Nat))) :: Env.sp 1 (AV.ptr (some (y3, (0 : Nat))) :: AV.int IntKind.i64 y4 :: AV.ptr (some (y5, (0 : Nat))) :: Env.sp 11 (AV.slice y6 y7 y8 (3 : Nat) :: AV.int IntKind.i64 y9 :: AV.int IntKind.i64 y10 :: Env.sp 11 (AV.bool y11 :: Env.sp 22 [])))))
def f47e14 (y0 : Option (Nat × Nat)) (y1 : ByteArray) (y2 : Nat) (y3 : Nat) (y4 : Int) (y5 : Nat) (y6 : Option (Nat × Nat)) (y7 : Nat) (y8 : Option Nat) (y9 : Int) (y10 : Int) (y11 : Bool) (y12 : Nat) (y13 : Option (Nat × Nat)) (y14 : Nat) (y15 : Option Nat) (y16 : Int) (y17 : Nat) (y18 : ByteArray) (y19 : Int) (y20 : ByteArray) (y21 : Option (Nat × Nat)) (y22 : Nat) (y23 : Option Nat) (y24 : Option (Nat × Nat)) (y25 : Nat) (y26 : Option Nat) (y27 : Nat) : Env := AV.ptr y0 :: Env.sp 1 (AV.str y1 :: Env.sp 3 (AV.ptr (some (y2, (0 : Nat))) :: Env.sp 1 (AV.ptr (some (y3, (0 : Nat))) :: AV.int IntKind.i64 y4 :: AV.ptr (some (y5, (0 : Nat))) :: Env.sp 11 (AV.slice y6 y7 y8 (3 : Nat) :: AV.int IntKind.i64 y9 :: AV.int IntKind.i64 y10 :: Env.sp 11 (AV.bool y11 :: AV.ptr (some (y12, (2 : Nat))) :: AV.slice y13 y14 y15 (2 : Nat) :: AV.int IntKind.i64 y16 :: AV.ptr (some (y17, (2 : Nat))) :: AV.str y18 :: AV.agg [AV.int IntKind.i64 y19, AV.str y20] :: AV.slice y21 y22 y23 (2 : Nat) :: AV.slice y24 y25 y26 (2 : Nat) :: AV.ptr (some (y27, (2 : Nat))) :: Env.sp 13 [])))))
def f47e15 (y0 : Option (Nat × Nat)) (y1 : ByteArray) (y2 : Nat) (y3 : Nat) (y4 : Option (Nat × Nat)) (y5 : Nat) (y6 : Option Nat) (y7 : Int) (y8 : Int) (y9 : Int) : Env := AV.ptr y0 :: Env.sp 1 (AV.str y1 :: Env.sp 3 (AV.ptr (some (y2, (0 : Nat))) :: Env.sp 1 (AV.ptr (some (y3, (0 : Nat))) :: Env.sp 13 (AV.slice y4 y5 y6 (3 : Nat) :: AV.int IntKind.i64 y7 :: AV.int IntKind.i64 y8 :: Env.sp 21 (AV.int IntKind.i64 y9 :: Env.sp 12 [])))))
def f47e16 (y0 : Option (Nat × Nat)) (y1 : Nat) (y2 : Nat) (y3 : Nat) (y4 : Option (Nat × Nat)) (y5 : Nat) (y6 : Option Nat) (y7 : Int) (y8 : Option (Nat × Nat)) (y9 : Option (Nat × Nat)) (y10 : Option (Nat × Nat)) (y11 : Int) (y12 : Int) (y13 : Int) (y14 : Bool) : Env := AV.ptr y0 :: Env.sp 5 (AV.ptr (some (y1, (0 : Nat))) :: Env.sp 1 (AV.ptr (some (y2, (0 : Nat))) :: Env.sp 38 (AV.ptr (some (y3, (2 : Nat))) :: AV.slice y4 y5 y6 (2 : Nat) :: AV.int IntKind.i64 y7 :: AV.ptr y8 :: AV.ptr y9 :: AV.ptr y10 :: AV.int IntKind.i64 y11 :: AV.int IntKind.i64 y12 :: AV.int IntKind.i64 y13 :: AV.bool y14 :: Env.sp 2 [])))
def f47e17 (y0 : Nat) (y1 : Nat) (y2 : Bool) : Env := Env.sp 6 (AV.ptr (some (y0, (0 : Nat))) :: Env.sp 1 (AV.ptr (some (y1, (0 : Nat))) :: Env.sp 47 (AV.bool y2 :: Env.sp 2 [])))
def f47e18 (y0 : Nat) (y1 : Bool) (y2 : Nat) (y3 : Bool) (y4 : ByteArray) (y5 : Int) (y6 : Option (Nat × Nat)) (y7 : Nat) (y8 : Option Nat) : Env := Env.sp 6 (AV.ptr (some (y0, (0 : Nat))) :: AV.bool y1 :: AV.ptr (some (y2, (0 : Nat))) :: Env.sp 47 (AV.bool y3 :: AV.agg [AV.str y4, AV.int IntKind.i64 y5, AV.slice y6 y7 y8 (2 : Nat)] :: Env.sp 1 []))
def f47e19 (y0 : Nat) (y1 : Bool) : Env := Env.sp 6 (AV.ptr (some (y0, (0 : Nat))) :: AV.bool y1 :: Env.sp 51 [])
def f47e20 (y0 : Nat) (y1 : Nat) : Env := Env.sp 6 (AV.ptr (some (y0, (0 : Nat))) :: Env.sp 1 (AV.ptr (some (y1, (0 : Nat))) :: Env.sp 50 []))
def f47e21 (y0 : Nat) (y1 : Bool) (y2 : Nat) (y3 : ByteArray) (y4 : Int) (y5 : Option (Nat × Nat)) (y6 : Nat) (y7 : Option Nat) : Env := Env.sp 6 (AV.ptr (some (y0, (0 : Nat))) :: AV.bool y1 :: AV.ptr (some (y2, (0 : Nat))) :: Env.sp 49 (AV.agg [AV.str y3, AV.int IntKind.i64 y4, AV.slice y5 y6 y7 (2 : Nat)] :: []))

/- function 47 -/
theorem f47_eq {R : Type} (call : CallF R) (N : Nat) (y0 : Option (Nat × Nat)) (y1 : Int) (y2 : ByteArray) (σ : St) (K : AV → St → Option R) :
    bodyK Try.prog call N ann 47 [AV.ptr y0, AV.int IntKind.i64 y1, AV.str y2] σ K = runK Try.prog call N f47c0 f47a0 (bodyC Try.prog f47rs K) (f47e0 y0 y1 y2) σ := bodyK_of (fn := ((Try.prog.funcs[47]?).get rfl)) (by kernel_rfl) (by kernel_rfl) (by kernel_rfl) (by kernel_rfl) (by kernel_rfl) (by kernel_rfl)
theorem f47n0 {R : Type} (call : CallF R) (N : Nat) (J : KF R) (e : Env) (σ : St) : runK Try.prog call N f47c0 f47a0 J e σ = runK Try.prog call N f47c1 f47a1 (seqC (fun K e σ => runK Try.prog call N f47c2 f47a2 K e σ) f47a0 J) e σ := runK_seq' (by kernel_rfl) (by kernel_rfl) (by kernel_rfl)
theorem f47r1_f47e0 {R : Type} (call : CallF R) (N : Nat) (y0 : Option (Nat × Nat)) (y1 : Int) (y2 : ByteArray) (J : KF R) (σ : St) :
    runK Try.prog call N f47c1 f47a1 J (f47e0 y0 y1 y2) σ =
J Ex.normal (f47e1 y0 y1 y2 (St.next σ) false)
  (St.new σ (Blk.cells [AV.str (ByteArray.mk #[]), AV.int IntKind.i64 (0 : Int), AV.slice none (0 : Nat) (some (0 : Nat)) (2 : Nat)] true)) := hide (by kernel_rfl)
theorem f47z0_f47e1 (y0 : Option (Nat × Nat)) (y1 : Int) (y2 : ByteArray) (y3 : Nat) (y4 : Bool) : Ann.clr f47a0 (f47e1 y0 y1 y2 y3 y4) = f47e2 y0 y1 y2 y3 := hide (by kernel_rfl)
theorem f47n2 {R : Type} (call : CallF R) (N : Nat) (J : KF R) (e : Env) (σ : St) : runK Try.prog call N f47c2 f47a2 J e σ = runK Try.prog call N f47c3 f47a3 (seqC (fun K e σ => runK Try.prog call N f47c4 f47a4 K e σ) f47a2 J) e σ := runK_seq' (by kernel_rfl) (by kernel_rfl) (by kernel_rfl)
theorem f47r3_f47e2 {R : Type} (call : CallF R) (N : Nat) (y0 : Option (Nat × Nat)) (y1 : Int) (y2 : ByteArray) (y3 : Nat) (J : KF R) (σ : St) :
    runK Try.prog call N f47c3 f47a3 J (f47e2 y0 y1 y2 y3) σ =
Option.bind y0 fun v0 =>
  Option.bind (St.ld σ (Prod.fst v0) (Prod.snd v0)) fun v1 =>
    Option.bind (AV.toInt IntKind.i64 v1) fun v2 =>
      Option.bind
        (St.st
          (St.new σ (Blk.cells [AV.str (ByteArray.mk #[]), AV.int IntKind.i64 (0 : Int), AV.slice none (0 : Nat) (some (0 : Nat)) (2 : Nat)] true))
          (St.next σ) (0 : Nat) [AV.str y2, AV.int IntKind.i64 v2, AV.slice none (0 : Nat) (some (0 : Nat)) (2 : Nat)])
        fun v3 =>
        J Ex.normal (f47e3 y0 y1 y2 y3 (St.next σ) y2 y0 (some v0) (some (Prod.fst v0, Prod.snd v0)) v2 y2 v2 none (0 : Nat) (some (0 : Nat))) v3 := hide (by kernel_rfl)
theorem f47z2_f47e3 (y0 : Option (Nat × Nat)) (y1 : Int) (y2 : ByteArray) (y3 : Nat) (y4 : Nat) (y5 : ByteArray) (y6 : Option (Nat × Nat)) (y7 : Option (Nat × Nat)) (y8 : Option (Nat × Nat)) (y9 : Int) (y10 : ByteArray) (y11 : Int) (y12 : Option (Nat × Nat)) (y13 : Nat) (y14 : Option Nat) : Ann.clr f47a2 (f47e3 y0 y1 y2 y3 y4 y5 y6 y7 y8 y9 y10 y11 y12 y13 y14) = f47e4 y0 y1 y2 y3 y4 := hide (by kernel_rfl)
theorem f47n4 {R : Type} (call : CallF R) (N : Nat) (J : KF R) (e : Env) (σ : St) : runK Try.prog call N f47c4 f47a4 J e σ = runK Try.prog call N f47c5 f47a5 (seqC (fun K e σ => runK Try.prog call N f47c6 f47a6 K e σ) f47a4 J) e σ := runK_seq' (by kernel_rfl) (by kernel_rfl) (by kernel_rfl)
theorem f47n5 {R : Type} (call : CallF R) (N : Nat) (J : KF R) (e : Env) (σ : St) : runK Try.prog call N f47c5 f47a5 J e σ = runK Try.prog call N f47c7 f47a7 (seqC (fun K e σ => runK Try.prog call N f47c8 f47a8 K e σ) f47a5 J) e σ := runK_seq' (by kernel_rfl) (by kernel_rfl) (by kernel_rfl)
theorem f47r7_f47e4 {R : Type} (call : CallF R) (N : Nat) (y0 : Option (Nat × Nat)) (y1 : Int) (y2 : ByteArray) (y3 : Nat) (y4 : Nat) (J : KF R) (σ : St) :
    runK Try.prog call N f47c7 f47a7 J (f47e4 y0 y1 y2 y3 y4) σ =
Option.bind y0 fun v0 =>
  if (0 : Nat) < (1 : Nat) ∧ (0 : Int) ≤ y1 ∧ y1 < (3 : Int) then
    Option.bind (St.ld σ (Prod.fst v0) (Prod.snd v0 + (3 : Nat) + Int.toNat y1 * (1 : Nat))) fun v1 =>
      Option.bind (AV.toSl (3 : Nat) v1) fun v2 =>
        J Ex.normal
          (f47e5 y0 y1 y2 y3 y4 y0 y1 (some v0) (some (Prod.fst v0, Prod.snd v0 + (3 : Nat)))
            (some (Prod.fst v0, Prod.snd v0 + (3 : Nat) + Int.toNat y1 * (1 : Nat))) (Sl.o v2) (Sl.len v2) (Sl.cap v2) (↑(Sl.len v2) : Int) (0 : Int))
          σ
  else none := hide (by kernel_rfl)
theorem f47z5_f47e5 (y0 : Option (Nat × Nat)) (y1 : Int) (y2 : ByteArray) (y3 : Nat) (y4 : Nat) (y5 : Option (Nat × Nat)) (y6 : Int) (y7 : Option (Nat × Nat)) (y8 : Option (Nat × Nat)) (y9 : Option (Nat × Nat)) (y10 : Option (Nat × Nat)) (y11 : Nat) (y12 : Option Nat) (y13 : Int) (y14 : Int) : Ann.clr f47a5 (f47e5 y0 y1 y2 y3 y4 y5 y6 y7 y8 y9 y10 y11 y12 y13 y14) = f47e6 y0 y2 y3 y4 y10 y11 y12 y13 y14 := hide (by kernel_rfl)
theorem f47n8 {R : Type} (call : CallF R) (N : Nat) (J : KF R) (e : Env) (σ : St) : runK Try.prog call N f47c8 f47a8 J e σ = runK Try.prog call N f47c9 f47a9 (blockC 0 f47a8 J) e σ := runK_block' (by kernel_rfl) (by kernel_rfl)
theorem f47L9_eq {R : Type} (call : CallF R) (N : Nat) (J : KF R) (e : Env) (σ : St) : f47L9 call N J e σ = runK Try.prog call N f47c10 f47a10 J e σ := hide rfl
theorem f47z9_f47e6 (y0 : Option (Nat × Nat)) (y1 : ByteArray) (y2 : Nat) (y3 : Nat) (y4 : Option (Nat × Nat)) (y5 : Nat) (y6 : Option Nat) (y7 : Int) (y8 : Int) : Ann.clr f47a9 (f47e6 y0 y1 y2 y3 y4 y5 y6 y7 y8) = f47e6 y0 y1 y2 y3 y4 y5 y6 y7 y8 := hide (by kernel_rfl)
theorem f47l9_f47e6 {R : Type} (call : CallF R) (N : Nat) (y0 : Option (Nat × Nat)) (y1 : ByteArray) (y2 : Nat) (y3 : Nat) (y4 : Option (Nat × Nat)) (y5 : Nat) (y6 : Option Nat) (y7 : Int) (y8 : Int) (J : KF R) (σ : St) : runK Try.prog call N f47c9 f47a9 J (f47e6 y0 y1 y2 y3 y4 y5 y6 y7 y8) σ = loopK (f47L9 call N) f47a9 N J (f47e6 y0 y1 y2 y3 y4 y5 y6 y7 y8) σ := runK_loop' (by kernel_rfl) (by kernel_rfl) (by kernel_rfl)
theorem f47n10 {R : Type} (call : CallF R) (N : Nat) (J : KF R) (e : Env) (σ : St) : runK Try.prog call N f47c10 f47a10 J e σ = runK Try.prog call N f47c11 f47a11 (seqC (fun K e σ => runK Try.prog call N f47c12 f47a12 K e σ) f47a10 J) e σ := runK_seq' (by kernel_rfl) (by kernel_rfl) (by kernel_rfl)
theorem f47r11_f47e6 {R : Type} (call : CallF R) (N : Nat) (y0 : Option (Nat × Nat)) (y1 : ByteArray) (y2 : Nat) (y3 : Nat) (y4 : Option (Nat × Nat)) (y5 : Nat) (y6 : Option Nat) (y7 : Int) (y8 : Int) (J : KF R) (σ : St) :
    runK Try.prog call N f47c11 f47a11 J (f47e6 y0 y1 y2 y3 y4 y5 y6 y7 y8) σ =
J Ex.normal (f47e7 y0 y1 y2 y3 y4 y5 y6 y7 y8 (decide (y8 < y7))) σ := hide (by kernel_rfl)
theorem f47z10_f47e7 (y0 : Option (Nat × Nat)) (y1 : ByteArray) (y2 : Nat) (y3 : Nat) (y4 : Option (Nat × Nat)) (y5 : Nat) (y6 : Option Nat) (y7 : Int) (y8 : Int) (y9 : Bool) : Ann.clr f47a10 (f47e7 y0 y1 y2 y3 y4 y5 y6 y7 y8 y9) = f47e7 y0 y1 y2 y3 y4 y5 y6 y7 y8 y9 := hide (by kernel_rfl)
theorem f47n12 {R : Type} (call : CallF R) (N : Nat) (J : KF R) (e : Env) (σ : St) : runK Try.prog call N f47c12 f47a12 J e σ = runK Try.prog call N f47c13 f47a13 (seqC (fun K e σ => runK Try.prog call N f47c14 f47a14 K e σ) f47a12 J) e σ := runK_seq' (by kernel_rfl) (by kernel_rfl) (by kernel_rfl)
theorem f47x13_f47e7 {R : Type} (call : CallF R) (N : Nat) (y0 : Option (Nat × Nat)) (y1 : ByteArray) (y2 : Nat) (y3 : Nat) (y4 : Option (Nat × Nat)) (y5 : Nat) (y6 : Option Nat) (y7 : Int) (y8 : Int) (y9 : Bool) (J : KF R) (σ : St) : runK Try.prog call N f47c13 f47a13 J (f47e7 y0 y1 y2 y3 y4 y5 y6 y7 y8 y9) σ = if y9 = true then runK Try.prog call N f47c15 f47a15 (condC f47a13 J) (f47e7 y0 y1 y2 y3 y4 y5 y6 y7 y8 y9) σ else runK Try.prog call N f47c16 f47a16 (condC f47a13 J) (f47e7 y0 y1 y2 y3 y4 y5 y6 y7 y8 y9) σ := runK_cond' (o := Operand.tmp (25 : Nat)) (by kernel_rfl) (by kernel_rfl) (by kernel_rfl) (by kernel_rfl)
theorem f47n15 {R : Type} (call : CallF R) (N : Nat) (J : KF R) (e : Env) (σ : St) : runK Try.prog call N f47c15 f47a15 J e σ = J .normal e σ := runK_skip' (by kernel_rfl)
theorem f47z13_f47e7 (y0 : Option (Nat × Nat)) (y1 : ByteArray) (y2 : Nat) (y3 : Nat) (y4 : Option (Nat × Nat)) (y5 : Nat) (y6 : Option Nat) (y7 : Int) (y8 : Int) (y9 : Bool) : Ann.clr f47a13 (f47e7 y0 y1 y2 y3 y4 y5 y6 y7 y8 y9) = f47e6 y0 y1 y2 y3 y4 y5 y6 y7 y8 := hide (by kernel_rfl)
theorem f47y16_f47e7 {R : Type} (call : CallF R) (N : Nat) (y0 : Option (Nat × Nat)) (y1 : ByteArray) (y2 : Nat) (y3 : Nat) (y4 : Option (Nat × Nat)) (y5 : Nat) (y6 : Option Nat) (y7 : Int) (y8 : Int) (y9 : Bool) (J : KF R) (σ : St) : runK Try.prog call N f47c16 f47a16 J (f47e7 y0 y1 y2 y3 y4 y5 y6 y7 y8 y9) σ = J (.exit 0) (f47e8 y0 y2 y3) σ := runK_exit' (by kernel_rfl) (by kernel_rfl)
theorem f47z12_f47e6 (y0 : Option (Nat × Nat)) (y1 : ByteArray) (y2 : Nat) (y3 : Nat) (y4 : Option (Nat × Nat)) (y5 : Nat) (y6 : Option Nat) (y7 : Int) (y8 : Int) : Ann.clr f47a12 (f47e6 y0 y1 y2 y3 y4 y5 y6 y7 y8) = f47e6 y0 y1 y2 y3 y4 y5 y6 y7 y8 := hide (by kernel_rfl)
theorem f47n14 {R : Type} (call : CallF R) (N : Nat) (J : KF R) (e : Env) (σ : St) : runK Try.prog call N f47c14 f47a14 J e σ = runK Try.prog call N f47c17 f47a17 (seqC (fun K e σ => runK Try.prog call N f47c18 f47a18 K e σ) f47a14 J) e σ := runK_seq' (by kernel_rfl) (by kernel_rfl) (by kernel_rfl)
theorem f47n17 {R : Type} (call : CallF R) (N : Nat) (J : KF R) (e : Env) (σ : St) : runK Try.prog call N f47c17 f47a17 J e σ = runK Try.prog call N f47c19 f47a19 (blockC 1 f47a17 J) e σ := runK_block' (by kernel_rfl) (by kernel_rfl)
theorem f47n19 {R : Type} (call : CallF R) (N : Nat) (J : KF R) (e : Env) (σ : St) : runK Try.prog call N f47c19 f47a19 J e σ = runK Try.prog call N f47c20 f47a20 (seqC (fun K e σ => runK Try.prog call N f47c21 f47a21 K e σ) f47a19 J) e σ := runK_seq' (by kernel_rfl) (by kernel_rfl) (by kernel_rfl)
theorem f47r20_f47e6 {R : Type} (call : CallF R) (N : Nat) (y0 : Option (Nat × Nat)) (y1 : ByteArray) (y2 : Nat) (y3 : Nat) (y4 : Option (Nat × Nat)) (y5 : Nat) (y6 : Option Nat) (y7 : Int) (y8 : Int) (J : KF R) (σ : St) :
    runK Try.prog call N f47c20 f47a20 J (f47e6 y0 y1 y2 y3 y4 y5 y6 y7 y8) σ =
if (0 : Int) ≤ y8 ∧ y8 < (↑y5 : Int) then
  Option.bind y4 fun v0 =>
    Option.bind (St.ld σ (Prod.fst v0) (Prod.snd v0 + Int.toNat y8 * (3 : Nat))) fun v1 =>
      Option.bind (AV.toBool v1) fun v2 =>
        Option.bind (St.ld σ (Prod.fst v0) (Prod.snd v0 + Int.toNat y8 * (3 : Nat) + (1 : Nat))) fun v3 =>
          Option.bind (AV.toStr v3) fun v4 =>
            Option.bind (St.ld σ (Prod.fst v0) (Prod.snd v0 + Int.toNat y8 * (3 : Nat) + (2 : Nat))) fun v5 =>
              Option.bind (AV.toStr v5) fun v6 =>
                Option.bind
                  (St.st (St.new σ (Blk.cells [AV.bool false, AV.str (ByteArray.mk #[]), AV.str (ByteArray.mk #[])] true)) (St.next σ) (0 : Nat)
                    [AV.bool v2, AV.str v4, AV.str v6])
                  fun v7 =>
                  J Ex.normal
                    (f47e9 y0 y1 y2 y3 y8 (St.next σ) y4 y5 y6 y7 y8 y8 (some (Prod.fst v0, Prod.snd v0 + Int.toNat y8 * (3 : Nat))) v2 v4 v6) v7
else none := hide (by kernel_rfl)
theorem f47z19_f47e9 (y0 : Option (Nat × Nat)) (y1 : ByteArray) (y2 : Nat) (y3 : Nat) (y4 : Int) (y5 : Nat) (y6 : Option (Nat × Nat)) (y7 : Nat) (y8 : Option Nat) (y9 : Int) (y10 : Int) (y11 : Int) (y12 : Option (Nat × Nat)) (y13 : Bool) (y14 : ByteArray) (y15 : ByteArray) : Ann.clr f47a19 (f47e9 y0 y1 y2 y3 y4 y5 y6 y7 y8 y9 y10 y11 y12 y13 y14 y15) = f47e10 y0 y1 y2 y3 y4 y5 y6 y7 y8 y9 y10 := hide (by kernel_rfl)
theorem f47n21 {R : Type} (call : CallF R) (N : Nat) (J : KF R) (e : Env) (σ : St) : runK Try.prog call N f47c21 f47a21 J e σ = runK Try.prog call N f47c22 f47a22 (seqC (fun K e σ => runK Try.prog call N f47c23 f47a23 K e σ) f47a21 J) e σ := runK_seq' (by kernel_rfl) (by kernel_rfl) (by kernel_rfl)
theorem f47r22_f47e10 {R : Type} (call : CallF R) (N : Nat) (y0 : Option (Nat × Nat)) (y1 : ByteArray) (y2 : Nat) (y3 : Nat) (y4 : Int) (y5 : Nat) (y6 : Option (Nat × Nat)) (y7 : Nat) (y8 : Option Nat) (y9 : Int) (y10 : Int) (J : KF R) (σ : St) :
    runK Try.prog call N f47c22 f47a22 J (f47e10 y0 y1 y2 y3 y4 y5 y6 y7 y8 y9 y10) σ =
Option.bind (St.ld σ y5 (0 : Nat)) fun v0 =>
  Option.bind (AV.toBool v0) fun v1 =>
    if v1 = true then
      Option.bind (St.ld σ y5 (1 : Nat)) fun v2 =>
        Option.bind (AV.toStr v2) fun v3 =>
          J Ex.normal (f47e11 y0 y1 y2 y3 y4 y5 y6 y7 y8 y9 y10 y5 v1 true y5 v3 y1 (decide (v3 = y1)) (decide (v3 = y1))) σ
    else J Ex.normal (f47e12 y0 y1 y2 y3 y4 y5 y6 y7 y8 y9 y10 y5 v1 false false) σ := hide (by kernel_rfl)
theorem f47z21_f47e11 (y0 : Option (Nat × Nat)) (y1 : ByteArray) (y2 : Nat) (y3 : Nat) (y4 : Int) (y5 : Nat) (y6 : Option (Nat × Nat)) (y7 : Nat) (y8 : Option Nat) (y9 : Int) (y10 : Int) (y11 : Nat) (y12 : Bool) (y13 : Bool) (y14 : Nat) (y15 : ByteArray) (y16 : ByteArray) (y17 : Bool) (y18 : Bool) : Ann.clr f47a21 (f47e11 y0 y1 y2 y3 y4 y5 y6 y7 y8 y9 y10 y11 y12 y13 y14 y15 y16 y17 y18) = f47e13 y0 y1 y2 y3 y4 y5 y6 y7 y8 y9 y10 y18 := hide (by kernel_rfl)
theorem f47x23_f47e13 {R : Type} (call : CallF R) (N : Nat) (y0 : Option (Nat × Nat)) (y1 : ByteArray) (y2 : Nat) (y3 : Nat) (y4 : Int) (y5 : Nat) (y6 : Option (Nat × Nat)) (y7 : Nat) (y8 : Option Nat) (y9 : Int) (y10 : Int) (y11 : Bool) (J : KF R) (σ : St) : runK Try.prog call N f47c23 f47a23 J (f47e13 y0 y1 y2 y3 y4 y5 y6 y7 y8 y9 y10 y11) σ = if y11 = true then runK Try.prog call N f47c24 f47a24 (condC f47a23 J) (f47e13 y0 y1 y2 y3 y4 y5 y6 y7 y8 y9 y10 y11) σ else runK Try.prog call N f47c25 f47a25 (condC f47a23 J) (f47e13 y0 y1 y2 y3 y4 y5 y6 y7 y8 y9 y10 y11) σ := runK_cond' (o := Operand.tmp (36 : Nat)) (by kernel_rfl) (by kernel_rfl) (by kernel_rfl) (by kernel_rfl)
theorem f47r24_f47e13 {R : Type} (call : CallF R) (N : Nat) (y0 : Option (Nat × Nat)) (y1 : ByteArray) (y2 : Nat) (y3 : Nat) (y4 : Int) (y5 : Nat) (y6 : Option (Nat × Nat)) (y7 : Nat) (y8 : Option Nat) (y9 : Int) (y10 : Int) (y11 : Bool) (J : KF R) (σ : St) :
    runK Try.prog call N f47c24 f47a24 J (f47e13 y0 y1 y2 y3 y4 y5 y6 y7 y8 y9 y10 y11) σ =
Option.bind (St.ld σ y3 (2 : Nat)) fun v0 =>
  Option.bind (AV.toSl (2 : Nat) v0) fun v1 =>
    Option.bind (St.ld σ y5 (2 : Nat)) fun v2 =>
      Option.bind (AV.toStr v2) fun v3 =>
        Option.bind
          (St.elems (St.new σ (Blk.cells [AV.int IntKind.i64 y4, AV.str v3] true)) (2 : Nat)
            (Sl.mk (some (St.next σ, (0 : Nat))) (1 : Nat) (some (1 : Nat))) (1 : Nat))
          fun v4 =>
          Option.bind
            (St.app (St.new σ (Blk.cells [AV.int IntKind.i64 y4, AV.str v3] true)) (2 : Nat) (24 : Nat) (Sl.mk (Sl.o v1) (Sl.len v1) (Sl.cap v1))
              (1 : Nat) v4)
            fun v5 =>
            Option.bind (St.st (Prod.snd v5) y3 (2 : Nat) [AV.slice (Sl.o (Prod.fst v5)) (Sl.len (Prod.fst v5)) (Sl.cap (Prod.fst v5)) (2 : Nat)])
              fun v6 =>
              J Ex.normal
                (f47e14 y0 y1 y2 y3 y4 y5 y6 y7 y8 y9 y10 y11 y3 (Sl.o v1) (Sl.len v1) (Sl.cap v1) y4 y5 v3 y4 v3 (some (St.next σ, (0 : Nat)))
                  (1 : Nat) (some (1 : Nat)) (Sl.o (Prod.fst v5)) (Sl.len (Prod.fst v5)) (Sl.cap (Prod.fst v5)) y3)
                v6 := hide (by kernel_rfl)
theorem f47z23_f47e14 (y0 : Option (Nat × Nat)) (y1 : ByteArray) (y2 : Nat) (y3 : Nat) (y4 : Int) (y5 : Nat) (y6 : Option (Nat × Nat)) (y7 : Nat) (y8 : Option Nat) (y9 : Int) (y10 : Int) (y11 : Bool) (y12 : Nat) (y13 : Option (Nat × Nat)) (y14 : Nat) (y15 : Option Nat) (y16 : Int) (y17 : Nat) (y18 : ByteArray) (y19 : Int) (y20 : ByteArray) (y21 : Option (Nat × Nat)) (y22 : Nat) (y23 : Option Nat) (y24 : Option (Nat × Nat)) (y25 : Nat) (y26 : Option Nat) (y27 : Nat) : Ann.clr f47a23 (f47e14 y0 y1 y2 y3 y4 y5 y6 y7 y8 y9 y10 y11 y12 y13 y14 y15 y16 y17 y18 y19 y20 y21 y22 y23 y24 y25 y26 y27) = f47e6 y0 y1 y2 y3 y6 y7 y8 y9 y10 := hide (by kernel_rfl)
theorem f47n25 {R : Type} (call : CallF R) (N : Nat) (J : KF R) (e : Env) (σ : St) : runK Try.prog call N f47c25 f47a25 J e σ = J .normal e σ := runK_skip' (by kernel_rfl)
theorem f47z23_f47e13 (y0 : Option (Nat × Nat)) (y1 : ByteArray) (y2 : Nat) (y3 : Nat) (y4 : Int) (y5 : Nat) (y6 : Option (Nat × Nat)) (y7 : Nat) (y8 : Option Nat) (y9 : Int) (y10 : Int) (y11 : Bool) : Ann.clr f47a23 (f47e13 y0 y1 y2 y3 y4 y5 y6 y7 y8 y9 y10 y11) = f47e6 y0 y1 y2 y3 y6 y7 y8 y9 y10 := hide (by kernel_rfl)
theorem f47z21_f47e12 (y0 : Option (Nat × Nat)) (y1 : ByteArray) (y2 : Nat) (y3 : Nat) (y4 : Int) (y5 : Nat) (y6 : Option (Nat × Nat)) (y7 : Nat) (y8 : Option Nat) (y9 : Int) (y10 : Int) (y11 : Nat) (y12 : Bool) (y13 : Bool) (y14 : Bool) : Ann.clr f47a21 (f47e12 y0 y1 y2 y3 y4 y5 y6 y7 y8 y9 y10 y11 y12 y13 y14) = f47e13 y0 y1 y2 y3 y4 y5 y6 y7 y8 y9 y10 y14 := hide (by kernel_rfl)
theorem f47z17_f47e6 (y0 : Option (Nat × Nat)) (y1 : ByteArray) (y2 : Nat) (y3 : Nat) (y4 : Option (Nat × Nat)) (y5 : Nat) (y6 : Option Nat) (y7 : Int) (y8 : Int) : Ann.clr f47a17 (f47e6 y0 y1 y2 y3 y4 y5 y6 y7 y8) = f47e6 y0 y1 y2 y3 y4 y5 y6 y7 y8 := hide (by kernel_rfl)
theorem f47z14_f47e6 (y0 : Option (Nat × Nat)) (y1 : ByteArray) (y2 : Nat) (y3 : Nat) (y4 : Option (Nat × Nat)) (y5 : Nat) (y6 : Option Nat) (y7 : Int) (y8 : Int) : Ann.clr f47a14 (f47e6 y0 y1 y2 y3 y4 y5 y6 y7 y8) = f47e6 y0 y1 y2 y3 y4 y5 y6 y7 y8 := hide (by kernel_rfl)
theorem f47r18_f47e6 {R : Type} (call : CallF R) (N : Nat) (y0 : Option (Nat × Nat)) (y1 : ByteArray) (y2 : Nat) (y3 : Nat) (y4 : Option (Nat × Nat)) (y5 : Nat) (y6 : Option Nat) (y7 : Int) (y8 : Int) (J : KF R) (σ : St) :
    runK Try.prog call N f47c18 f47a18 J (f47e6 y0 y1 y2 y3 y4 y5 y6 y7 y8) σ =
J Ex.normal (f47e15 y0 y1 y2 y3 y4 y5 y6 y7 (IntKind.wrap IntKind.i64 (y8 + (1 : Int))) (IntKind.wrap IntKind.i64 (y8 + (1 : Int)))) σ := hide (by kernel_rfl)
theorem f47z9_f47e15 (y0 : Option (Nat × Nat)) (y1 : ByteArray) (y2 : Nat) (y3 : Nat) (y4 : Option (Nat × Nat)) (y5 : Nat) (y6 : Option Nat) (y7 : Int) (y8 : Int) (y9 : Int) : Ann.clr f47a9 (f47e15 y0 y1 y2 y3 y4 y5 y6 y7 y8 y9) = f47e6 y0 y1 y2 y3 y4 y5 y6 y7 y8 := hide (by kernel_rfl)
theorem f47z8_f47e8 (y0 : Option (Nat × Nat)) (y1 : Nat) (y2 : Nat) : Ann.clr f47a8 (f47e8 y0 y1 y2) = f47e8 y0 y1 y2 := hide (by kernel_rfl)
theorem f47z4_f47e8 (y0 : Option (Nat × Nat)) (y1 : Nat) (y2 : Nat) : Ann.clr f47a4 (f47e8 y0 y1 y2) = f47e8 y0 y1 y2 := hide (by kernel_rfl)
theorem f47n6 {R : Type} (call : CallF R) (N : Nat) (J : KF R) (e : Env) (σ : St) : runK Try.prog call N f47c6 f47a6 J e σ = runK Try.prog call N f47c26 f47a26 (seqC (fun K e σ => runK Try.prog call N f47c27 f47a27 K e σ) f47a6 J) e σ := runK_seq' (by kernel_rfl) (by kernel_rfl) (by kernel_rfl)
theorem f47n26 {R : Type} (call : CallF R) (N : Nat) (J : KF R) (e : Env) (σ : St) : runK Try.prog call N f47c26 f47a26 J e σ = runK Try.prog call N f47c28 f47a28 (seqC (fun K e σ => runK Try.prog call N f47c29 f47a29 K e σ) f47a26 J) e σ := runK_seq' (by kernel_rfl) (by kernel_rfl) (by kernel_rfl)
theorem f47r28_f47e8 {R : Type} (call : CallF R) (N : Nat) (y0 : Option (Nat × Nat)) (y1 : Nat) (y2 : Nat) (J : KF R) (σ : St) :
    runK Try.prog call N f47c28 f47a28 J (f47e8 y0 y1 y2) σ =
Option.bind (St.ld σ y2 (2 : Nat)) fun v0 =>
  Option.bind (AV.toSl (2 : Nat) v0) fun v1 =>
    Option.bind y0 fun v2 =>
      Option.bind (St.ld σ (Prod.fst v2) (Prod.snd v2 + (1 : Nat))) fun v3 =>
        Option.bind (AV.toInt IntKind.i64 v3) fun v4 =>
          J Ex.normal
            (f47e16 y0 y1 y2 y2 (Sl.o v1) (Sl.len v1) (Sl.cap v1) (↑(Sl.len v1) : Int) y0 (some v2) (some (Prod.fst v2, Prod.snd v2 + (1 : Nat))) v4
              (IntKind.wrap IntKind.i64 ((2 : Int) * v4)) (IntKind.wrap IntKind.i64 (IntKind.wrap IntKind.i64 ((2 : Int) * v4) + (1 : Int)))
              (decide ((↑(Sl.len v1) : Int) < IntKind.wrap IntKind.i64 (IntKind.wrap IntKind.i64 ((2 : Int) * v4) + (1 : Int)))))
            σ := hide (by kernel_rfl)
theorem f47z26_f47e16 (y0 : Option (Nat × Nat)) (y1 : Nat) (y2 : Nat) (y3 : Nat) (y4 : Option (Nat × Nat)) (y5 : Nat) (y6 : Option Nat) (y7 : Int) (y8 : Option (Nat × Nat)) (y9 : Option (Nat × Nat)) (y10 : Option (Nat × Nat)) (y11 : Int) (y12 : Int) (y13 : Int) (y14 : Bool) : Ann.clr f47a26 (f47e16 y0 y1 y2 y3 y4 y5 y6 y7 y8 y9 y10 y11 y12 y13 y14) = f47e17 y1 y2 y14 := hide (by kernel_rfl)
theorem f47x29_f47e17 {R : Type} (call : CallF R) (N : Nat) (y0 : Nat) (y1 : Nat) (y2 : Bool) (J : KF R) (σ : St) : runK Try.prog call N f47c29 f47a29 J (f47e17 y0 y1 y2) σ = if y2 = true then runK Try.prog call N f47c30 f47a30 (condC f47a29 J) (f47e17 y0 y1 y2) σ else runK Try.prog call N f47c31 f47a31 (condC f47a29 J) (f47e17 y0 y1 y2) σ := runK_cond' (o := Operand.tmp (56 : Nat)) (by kernel_rfl) (by kernel_rfl) (by kernel_rfl) (by kernel_rfl)
theorem f47n30 {R : Type} (call : CallF R) (N : Nat) (J : KF R) (e : Env) (σ : St) : runK Try.prog call N f47c30 f47a30 J e σ = runK Try.prog call N f47c32 f47a32 (seqC (fun K e σ => runK Try.prog call N f47c33 f47a33 K e σ) f47a30 J) e σ := runK_seq' (by kernel_rfl) (by kernel_rfl) (by kernel_rfl)
theorem f47r32_f47e17 {R : Type} (call : CallF R) (N : Nat) (y0 : Nat) (y1 : Nat) (y2 : Bool) (J : KF R) (σ : St) :
    runK Try.prog call N f47c32 f47a32 J (f47e17 y0 y1 y2) σ =
Option.bind (St.st σ y0 (0 : Nat) [AV.str (ByteArray.mk #[]), AV.int IntKind.i64 (0 : Int), AV.slice none (0 : Nat) (some (0 : Nat)) (2 : Nat)])
  fun v0 => J Ex.normal (f47e18 y0 false y1 y2 (ByteArray.mk #[]) (0 : Int) none (0 : Nat) (some (0 : Nat))) v0 := hide (by kernel_rfl)
theorem f47z30_f47e18 (y0 : Nat) (y1 : Bool) (y2 : Nat) (y3 : Bool) (y4 : ByteArray) (y5 : Int) (y6 : Option (Nat × Nat)) (y7 : Nat) (y8 : Option Nat) : Ann.clr f47a30 (f47e18 y0 y1 y2 y3 y4 y5 y6 y7 y8) = f47e19 y0 y1 := hide (by kernel_rfl)
theorem f47y33_f47e19 {R : Type} (call : CallF R) (N : Nat) (y0 : Nat) (y1 : Bool) (J : KF R) (σ : St) : runK Try.prog call N f47c33 f47a33 J (f47e19 y0 y1) σ = J .ret (f47e19 y0 y1) σ := runK_ret' (by kernel_rfl) (by kernel_rfl)
theorem f47n31 {R : Type} (call : CallF R) (N : Nat) (J : KF R) (e : Env) (σ : St) : runK Try.prog call N f47c31 f47a31 J e σ = J .normal e σ := runK_skip' (by kernel_rfl)
theorem f47z29_f47e17 (y0 : Nat) (y1 : Nat) (y2 : Bool) : Ann.clr f47a29 (f47e17 y0 y1 y2) = f47e20 y0 y1 := hide (by kernel_rfl)
theorem f47z6_f47e20 (y0 : Nat) (y1 : Nat) : Ann.clr f47a6 (f47e20 y0 y1) = f47e20 y0 y1 := hide (by kernel_rfl)
theorem f47n27 {R : Type} (call : CallF R) (N : Nat) (J : KF R) (e : Env) (σ : St) : runK Try.prog call N f47c27 f47a27 J e σ = runK Try.prog call N f47c34 f47a34 (seqC (fun K e σ => runK Try.prog call N f47c35 f47a35 K e σ) f47a27 J) e σ := runK_seq' (by kernel_rfl) (by kernel_rfl) (by kernel_rfl)
theorem f47r34_f47e20 {R : Type} (call : CallF R) (N : Nat) (y0 : Nat) (y1 : Nat) (J : KF R) (σ : St) :
    runK Try.prog call N f47c34 f47a34 J (f47e20 y0 y1) σ =
Option.bind (St.ld σ y1 (0 : Nat)) fun v0 =>
  Option.bind (AV.toStr v0) fun v1 =>
    Option.bind (St.ld σ y1 (1 : Nat)) fun v2 =>
      Option.bind (AV.toInt IntKind.i64 v2) fun v3 =>
        Option.bind (St.ld σ y1 (2 : Nat)) fun v4 =>
          Option.bind (AV.toSl (2 : Nat) v4) fun v5 =>
            Option.bind (St.st σ y0 (0 : Nat) [AV.str v1, AV.int IntKind.i64 v3, AV.slice (Sl.o v5) (Sl.len v5) (Sl.cap v5) (2 : Nat)]) fun v6 =>
              J Ex.normal (f47e21 y0 true y1 v1 v3 (Sl.o v5) (Sl.len v5) (Sl.cap v5)) v6 := hide (by kernel_rfl)
theorem f47z27_f47e21 (y0 : Nat) (y1 : Bool) (y2 : Nat) (y3 : ByteArray) (y4 : Int) (y5 : Option (Nat × Nat)) (y6 : Nat) (y7 : Option Nat) : Ann.clr f47a27 (f47e21 y0 y1 y2 y3 y4 y5 y6 y7) = f47e19 y0 y1 := hide (by kernel_rfl)
theorem f47y35_f47e19 {R : Type} (call : CallF R) (N : Nat) (y0 : Nat) (y1 : Bool) (J : KF R) (σ : St) : runK Try.prog call N f47c35 f47a35 J (f47e19 y0 y1) σ = J .ret (f47e19 y0 y1) σ := runK_ret' (by kernel_rfl) (by kernel_rfl)
theorem f47b_f47e19_r {R : Type} (y0 : Nat) (y1 : Bool) (σ : St) (K : AV → St → Option R) : bodyC Try.prog f47rs K (Ex.ret) (f47e19 y0 y1) σ =
Option.bind (St.ld σ y0 (0 : Nat)) fun v0 =>
  Option.bind (AV.toStr v0) fun v1 =>
    Option.bind (St.ld σ y0 (1 : Nat)) fun v2 =>
      Option.bind (AV.toInt IntKind.i64 v2) fun v3 =>
        Option.bind (St.ld σ y0 (2 : Nat)) fun v4 =>
          Option.bind (AV.toSl (2 : Nat) v4) fun v5 =>
            K (AV.tuple [AV.agg [AV.str v1, AV.int IntKind.i64 v3, AV.slice (Sl.o v5) (Sl.len v5) (Sl.cap v5) (2 : Nat)], AV.bool y1]) σ := hide (by kernel_rfl)
attribute [go_sem] f47_eq f47n0 f47r1_f47e0 f47z0_f47e1 f47n2 f47r3_f47e2 f47z2_f47e3 f47n4 f47n5 f47r7_f47e4 f47z5_f47e5 f47n8 f47L9_eq f47z9_f47e6 f47l9_f47e6 f47n10 f47r11_f47e6 f47z10_f47e7 f47n12 f47x13_f47e7 f47n15 f47z13_f47e7 f47y16_f47e7 f47z12_f47e6 f47n14 f47n17 f47n19 f47r20_f47e6 f47z19_f47e9 f47n21 f47r22_f47e10 f47z21_f47e11 f47x23_f47e13 f47r24_f47e13 f47z23_f47e14 f47n25 f47z23_f47e13 f47z21_f47e12 f47z17_f47e6 f47z14_f47e6 f47r18_f47e6 f47z9_f47e15 f47z8_f47e8 f47z4_f47e8 f47n6 f47n26 f47r28_f47e8 f47z26_f47e16 f47x29_f47e17 f47n30 f47r32_f47e17 f47z30_f47e18 f47y33_f47e19 f47n31 f47z29_f47e17 f47z6_f47e20 f47n27 f47r34_f47e20 f47z27_f47e21 f47y35_f47e19 f47b_f47e19_r

noncomputable def f21rs : List ResultVar := [ResultVar.cell (4 : Nat) (43 : Nat), ResultVar.tmp (5 : Nat)]
noncomputable def f21c0 : Code := subCode [] (bodyOf Try.prog 21)
def f21a0 : Ann := subAnn [] ann21
noncomputable def f21c1 : Code := subCode [0] (bodyOf Try.prog 21)
def f21a1 : Ann := subAnn [0] ann21
noncomputable def f21c2 : Code := subCode [1] (bodyOf Try.prog 21)
def f21a2 : Ann := subAnn [1] ann21
noncomputable def f21c3 : Code := subCode [1, 0] (bodyOf Try.prog 21)
def f21a3 : Ann := subAnn [1, 0] ann21
noncomputable def f21c4 : Code := subCode [1, 1] (bodyOf Try.prog 21)
def f21a4 : Ann := subAnn [1, 1] ann21
noncomputable def f21c5 : Code := subCode [1, 0, 0] (bodyOf Try.prog 21)
def f21a5 : Ann := subAnn [1, 0, 0] ann21
noncomputable def f21c6 : Code := subCode [1, 0, 0, 0] (bodyOf Try.prog 21)
def f21a6 : Ann := subAnn [1, 0, 0, 0] ann21
noncomputable def f21c7 : Code := subCode [1, 0, 0, 1] (bodyOf Try.prog 21)
def f21a7 : Ann := subAnn [1, 0, 0, 1] ann21
noncomputable def f21c8 : Code := subCode [1, 0, 0, 1, 0] (bodyOf Try.prog 21)
def f21a8 : Ann := subAnn [1, 0, 0, 1, 0] ann21
noncomputable def f21c9 : Code := subCode [1, 0, 0, 1, 1] (bodyOf Try.prog 21)
def f21a9 : Ann := subAnn [1, 0, 0, 1, 1] ann21
noncomputable def f21c10 : Code := subCode [1, 0, 0, 1, 0, 0] (bodyOf Try.prog 21)
def f21a10 : Ann := subAnn [1, 0, 0, 1, 0, 0] ann21
noncomputable def f21c11 : Code := subCode [1, 0, 0, 1, 0, 1] (bodyOf Try.prog 21)
def f21a11 : Ann := subAnn [1, 0, 0, 1, 0, 1] ann21
noncomputable def f21c12 : Code := subCode [1, 0, 0, 1, 1, 0] (bodyOf Try.prog 21)
def f21a12 : Ann := subAnn [1, 0, 0, 1, 1, 0] ann21
noncomputable def f21c13 : Code := subCode [1, 0, 0, 1, 1, 1] (bodyOf Try.prog 21)
def f21a13 : Ann := subAnn [1, 0, 0, 1, 1, 1] ann21
noncomputable def f21c14 : Code := subCode [1, 0, 0, 1, 1, 1, 0] (bodyOf Try.prog 21)
def f21a14 : Ann := subAnn [1, 0, 0, 1, 1, 1, 0] ann21
noncomputable def f21c15 : Code := subCode [1, 0, 0, 1, 1, 1, 1] (bodyOf Try.prog 21)
def f21a15 : Ann := subAnn [1, 0, 0, 1, 1, 1, 1] ann21
noncomputable def f21c16 : Code := subCode [1, 0, 0, 1, 1, 1, 0, 0] (bodyOf Try.prog 21)
def f21a16 : Ann := subAnn [1, 0, 0, 1, 1, 1, 0, 0] ann21
noncomputable def f21c17 : Code := subCode [1, 0, 0, 1, 1, 1, 0, 1] (bodyOf Try.prog 21)
def f21a17 : Ann := subAnn [1, 0, 0, 1, 1, 1, 0, 1] ann21
noncomputable def f21c18 : Code := subCode [1, 0, 0, 1, 1, 1, 0, 1, 0] (bodyOf Try.prog 21)
def f21a18 : Ann := subAnn [1, 0, 0, 1, 1, 1, 0, 1, 0] ann21
noncomputable def f21c19 : Code := subCode [1, 0, 0, 1, 1, 1, 0, 1, 1] (bodyOf Try.prog 21)
def f21a19 : Ann := subAnn [1, 0, 0, 1, 1, 1, 0, 1, 1] ann21
noncomputable def f21c20 : Code := subCode [1, 0, 0, 1, 1, 1, 0, 1, 0, 0] (bodyOf Try.prog 21)
def f21a20 : Ann := subAnn [1, 0, 0, 1, 1, 1, 0, 1, 0, 0] ann21
noncomputable def f21c21 : Code := subCode [1, 0, 0, 1, 1, 1, 0, 1, 0, 1] (bodyOf Try.prog 21)
def f21a21 : Ann := subAnn [1, 0, 0, 1, 1, 1, 0, 1, 0, 1] ann21
noncomputable def f21c22 : Code := subCode [1, 0, 0, 1, 1, 1, 0, 1, 0, 1, 0] (bodyOf Try.prog 21)
def f21a22 : Ann := subAnn [1, 0, 0, 1, 1, 1, 0, 1, 0, 1, 0] ann21
noncomputable def f21c23 : Code := subCode [1, 0, 0, 1, 1, 1, 0, 1, 0, 1, 1] (bodyOf Try.prog 21)
def f21a23 : Ann := subAnn [1, 0, 0, 1, 1, 1, 0, 1, 0, 1, 1] ann21
noncomputable def f21c24 : Code := subCode [1, 0, 0, 1, 1, 1, 0, 1, 0, 1, 0, 0] (bodyOf Try.prog 21)
def f21a24 : Ann := subAnn [1, 0, 0, 1, 1, 1, 0, 1, 0, 1, 0, 0] ann21
noncomputable def f21c25 : Code := subCode [1, 0, 0, 1, 1, 1, 0, 1, 0, 1, 0, 1] (bodyOf Try.prog 21)
def f21a25 : Ann := subAnn [1, 0, 0, 1, 1, 1, 0, 1, 0, 1, 0, 1] ann21
noncomputable def f21c26 : Code := subCode [1, 0, 0, 1, 1, 1, 0, 1, 1, 0] (bodyOf Try.prog 21)
def f21a26 : Ann := subAnn [1, 0, 0, 1, 1, 1, 0, 1, 1, 0] ann21
noncomputable def f21c27 : Code := subCode [1, 0, 0, 1, 1, 1, 0, 1, 1, 1] (bodyOf Try.prog 21)
def f21a27 : Ann := subAnn [1, 0, 0, 1, 1, 1, 0, 1, 1, 1] ann21
noncomputable def f21c28 : Code := subCode [1, 1, 0] (bodyOf Try.prog 21)
def f21a28 : Ann := subAnn [1, 1, 0] ann21
noncomputable def f21c29 : Code := subCode [1, 1, 1] (bodyOf Try.prog 21)
def f21a29 : Ann := subAnn [1, 1, 1] ann21
noncomputable def f21c30 : Code := subCode [1, 1, 0, 0] (bodyOf Try.prog 21)
def f21a30 : Ann := subAnn [1, 1, 0, 0] ann21
noncomputable def f21c31 : Code := subCode [1, 1, 0, 1] (bodyOf Try.prog 21)
def f21a31 : Ann := subAnn [1, 1, 0, 1] ann21
noncomputable def f21c32 : Code := subCode [1, 1, 0, 1, 0] (bodyOf Try.prog 21)
def f21a32 : Ann := subAnn [1, 1, 0, 1, 0] ann21
noncomputable def f21c33 : Code := subCode [1, 1, 0, 1, 0, 0] (bodyOf Try.prog 21)
def f21a33 : Ann := subAnn [1, 1, 0, 1, 0, 0] ann21
noncomputable def f21c34 : Code := subCode [1, 1, 0, 1, 0, 0, 0] (bodyOf Try.prog 21)
def f21a34 : Ann := subAnn [1, 1, 0, 1, 0, 0, 0] ann21
noncomputable def f21c35 : Code := subCode [1, 1, 0, 1, 0, 0, 1] (bodyOf Try.prog 21)
def f21a35 : Ann := subAnn [1, 1, 0, 1, 0, 0, 1] ann21
noncomputable def f21c36 : Code := subCode [1, 1, 0, 1, 0, 0, 1, 0] (bodyOf Try.prog 21)
def f21a36 : Ann := subAnn [1, 1, 0, 1, 0, 0, 1, 0] ann21
noncomputable def f21c37 : Code := subCode [1, 1, 0, 1, 0, 0, 1, 1] (bodyOf Try.prog 21)
def f21a37 : Ann := subAnn [1, 1, 0, 1, 0, 0, 1, 1] ann21
noncomputable def f21c38 : Code := subCode [1, 1, 0, 1, 0, 0, 1, 0, 0] (bodyOf Try.prog 21)
def f21a38 : Ann := subAnn [1, 1, 0, 1, 0, 0, 1, 0, 0] ann21
noncomputable def f21c39 : Code := subCode [1, 1, 0, 1, 0, 0, 1, 0, 1] (bodyOf Try.prog 21)
def f21a39 : Ann := subAnn [1, 1, 0, 1, 0, 0, 1, 0, 1] ann21
noncomputable def f21c40 : Code := subCode [1, 1, 0, 1, 0, 0, 1, 1, 0] (bodyOf Try.prog 21)
def f21a40 : Ann := subAnn [1, 1, 0, 1, 0, 0, 1, 1, 0] ann21
noncomputable def f21c41 : Code := subCode [1, 1, 0, 1, 0, 0, 1, 1, 1] (bodyOf Try.prog 21)
def f21a41 : Ann := subAnn [1, 1, 0, 1, 0, 0, 1, 1, 1] ann21
noncomputable def f21c42 : Code := subCode [1, 1, 0, 1, 0, 0, 1, 1, 0, 0] (bodyOf Try.prog 21)
def f21a42 : Ann := subAnn [1, 1, 0, 1, 0, 0, 1, 1, 0, 0] ann21
noncomputable def f21c43 : Code := subCode [1, 1, 0, 1, 0, 0, 1, 1, 0, 0, 0] (bodyOf Try.prog 21)
def f21a43 : Ann := subAnn [1, 1, 0, 1, 0, 0, 1, 1, 0, 0, 0] ann21
noncomputable def f21c44 : Code := subCode [1, 1, 0, 1, 0, 0, 1, 1, 0, 0, 1] (bodyOf Try.prog 21)
def f21a44 : Ann := subAnn [1, 1, 0, 1, 0, 0, 1, 1, 0, 0, 1] ann21
noncomputable def f21c45 : Code := subCode [1, 1, 0, 1, 0, 0, 1, 1, 0, 0, 1, 0] (bodyOf Try.prog 21)
def f21a45 : Ann := subAnn [1, 1, 0, 1, 0, 0, 1, 1, 0, 0, 1, 0] ann21
noncomputable def f21c46 : Code := subCode [1, 1, 0, 1, 0, 0, 1, 1, 0, 0, 1, 1] (bodyOf Try.prog 21)
def f21a46 : Ann := subAnn [1, 1, 0, 1, 0, 0, 1, 1, 0, 0, 1, 1] ann21
noncomputable def f21c47 : Code := subCode [1, 1, 0, 1, 0, 0, 1, 1, 0, 0, 1, 1, 0] (bodyOf Try.prog 21)
def f21a47 : Ann := subAnn [1, 1, 0, 1, 0, 0, 1, 1, 0, 0, 1, 1, 0] ann21
noncomputable def f21c48 : Code := subCode [1, 1, 0, 1, 0, 0, 1, 1, 0, 0, 1, 1, 1] (bodyOf Try.prog 21)
def f21a48 : Ann := subAnn [1, 1, 0, 1, 0, 0, 1, 1, 0, 0, 1, 1, 1] ann21
noncomputable def f21c49 : Code := subCode [1, 1, 0, 1, 0, 0, 1, 1, 0, 0, 1, 1, 1, 0] (bodyOf Try.prog 21)
def f21a49 : Ann := subAnn [1, 1, 0, 1, 0, 0, 1, 1, 0, 0, 1, 1, 1, 0] ann21
noncomputable def f21c50 : Code := subCode [1, 1, 0, 1, 0, 0, 1, 1, 0, 0, 1, 1, 1, 1] (bodyOf Try.prog 21)
def f21a50 : Ann := subAnn [1, 1, 0, 1, 0, 0, 1, 1, 0, 0, 1, 1, 1, 1] ann21
noncomputable def f21c51 : Code := subCode [1, 1, 0, 1, 0, 0, 1, 1, 0, 0, 1, 1, 1, 0, 0] (bodyOf Try.prog 21)
def f21a51 : Ann := subAnn [1, 1, 0, 1, 0, 0, 1, 1, 0, 0, 1, 1, 1, 0, 0] ann21
noncomputable def f21c52 : Code := subCode [1, 1, 0, 1, 0, 0, 1, 1, 0, 0, 1, 1, 1, 0, 1] (bodyOf Try.prog 21)
def f21a52 : Ann := subAnn [1, 1, 0, 1, 0, 0, 1, 1, 0, 0, 1, 1, 1, 0, 1] ann21
noncomputable def f21c53 : Code := subCode [1, 1, 1, 0] (bodyOf Try.prog 21)
def f21a53 : Ann := subAnn [1, 1, 1, 0] ann21
noncomputable def f21c54 : Code := subCode [1, 1, 1, 1] (bodyOf Try.prog 21)
def f21a54 : Ann := subAnn [1, 1, 1, 1] ann21
noncomputable def f21L32 {R : Type} (call : CallF R) (N : Nat) : KF R → Env → St → Option R := fun K e σ => runK Try.prog call N f21c33 f21a33 K e σ
def f21e0 (y0 : Option (Nat × Nat)) (y1 : Int) : Env := AV.ptr y0 :: AV.int IntKind.i64 y1 :: Env.sp 63 []
def f21e1 (y0 : Option (Nat × Nat)) (y1 : Int) (y2 : Nat) (y3 : Bool) : Env := AV.ptr y0 :: AV.int IntKind.i64 y1 :: Env.sp 2 (AV.ptr (some (y2, (0 : Nat))) :: AV.bool y3 :: Env.sp 59 [])
def f21e2 (y0 : Option (Nat × Nat)) (y1 : Int) (y2 : Nat) : Env := AV.ptr y0 :: AV.int IntKind.i64 y1 :: Env.sp 2 (AV.ptr (some (y2, (0 : Nat))) :: Env.sp 60 [])
def f21e3 (y0 : Option (Nat × Nat)) (y1 : Int) (y2 : Nat) (y3 : Bool) (y4 : Option (Nat × Nat)) (y5 : Bool) (y6 : Bool) (y7 : Bool) : Env := AV.ptr y0 :: AV.int IntKind.i64 y1 :: Env.sp 2 (AV.ptr (some (y2, (0 : Nat))) :: Env.sp 7 (AV.bool y3 :: AV.ptr y4 :: AV.bool y5 :: AV.bool y6 :: AV.tuple [] :: AV.tuple [] :: AV.tuple [] :: AV.bool y7 :: Env.sp 45 []))
def f21e4 (y0 : Option (Nat × Nat)) (y1 : Int) (y2 : Nat) (y3 : Bool) (y4 : Option (Nat × Nat)) (y5 : Bool) (y6 : Bool) (y7 : Int) (y8 : Bool) (y9 : Bool) (y10 : Bool) : Env := AV.ptr y0 :: AV.int IntKind.i64 y1 :: Env.sp 2 (AV.ptr (some (y2, (0 : Nat))) :: Env.sp 7 (AV.bool y3 :: AV.ptr y4 :: AV.bool y5 :: AV.bool y6 :: AV.int IntKind.i64 y7 :: AV.bool y8 :: AV.bool y9 :: AV.bool y10 :: Env.sp 45 []))
def f21e5 (y0 : Option (Nat × Nat)) (y1 : Int) (y2 : Nat) (y3 : Bool) : Env := AV.ptr y0 :: AV.int IntKind.i64 y1 :: Env.sp 2 (AV.ptr (some (y2, (0 : Nat))) :: Env.sp 7 (AV.bool y3 :: Env.sp 52 []))
def f21e6 (y0 : Option (Nat × Nat)) (y1 : Int) (y2 : Nat) (y3 : Bool) (y4 : Bool) (y5 : ByteArray) (y6 : Int) (y7 : Option (Nat × Nat)) (y8 : Nat) (y9 : Option Nat) : Env := AV.ptr y0 :: AV.int IntKind.i64 y1 :: Env.sp 2 (AV.ptr (some (y2, (0 : Nat))) :: AV.bool y3 :: Env.sp 6 (AV.bool y4 :: Env.sp 7 (AV.agg [AV.str y5, AV.int IntKind.i64 y6, AV.slice y7 y8 y9 (2 : Nat)] :: Env.sp 44 [])))
def f21e7 (y0 : Nat) (y1 : Bool) : Env := Env.sp 4 (AV.ptr (some (y0, (0 : Nat))) :: AV.bool y1 :: Env.sp 59 [])
def f21e8 (y0 : Option (Nat × Nat)) (y1 : Int) (y2 : Nat) (y3 : Bool) (y4 : Bool) (y5 : Int) (y6 : Bool) : Env := AV.ptr y0 :: AV.int IntKind.i64 y1 :: Env.sp 2 (AV.ptr (some (y2, (0 : Nat))) :: Env.sp 7 (AV.bool y3 :: Env.sp 8 (AV.bool y4 :: AV.int IntKind.i64 y5 :: AV.bool y6 :: Env.sp 41 [])))
def f21e9 (y0 : Option (Nat × Nat)) (y1 : Int) (y2 : Nat) (y3 : Bool) : Env := AV.ptr y0 :: AV.int IntKind.i64 y1 :: Env.sp 2 (AV.ptr (some (y2, (0 : Nat))) :: Env.sp 16 (AV.bool y3 :: Env.sp 43 []))
def f21e10 (y0 : Option (Nat × Nat)) (y1 : Int) (y2 : Nat) (y3 : ByteArray) (y4 : Bool) (y5 : Bool) (y6 : ByteArray) (y7 : Bool) (y8 : Option (Nat × Nat)) (y9 : ByteArray) (y10 : Bool) (y11 : ByteArray) (y12 : Bool) : Env := AV.ptr y0 :: AV.int IntKind.i64 y1 :: Env.sp 2 (AV.ptr (some (y2, (0 : Nat))) :: Env.sp 1 (AV.str y3 :: AV.bool y4 :: Env.sp 13 (AV.bool y5 :: Env.sp 2 (AV.tuple [AV.str y6, AV.bool y7] :: AV.ptr y8 :: AV.tuple [AV.str y9, AV.bool y10] :: AV.str y11 :: AV.bool y12 :: Env.sp 36 []))))
def f21e11 (y0 : Option (Nat × Nat)) (y1 : Int) (y2 : Nat) (y3 : ByteArray) (y4 : Bool) : Env := AV.ptr y0 :: AV.int IntKind.i64 y1 :: Env.sp 2 (AV.ptr (some (y2, (0 : Nat))) :: Env.sp 1 (AV.str y3 :: AV.bool y4 :: Env.sp 57 []))
def f21e12 (y0 : Option (Nat × Nat)) (y1 : Int) (y2 : Nat) (y3 : ByteArray) (y4 : Bool) (y5 : Bool) (y6 : Bool) : Env := AV.ptr y0 :: AV.int IntKind.i64 y1 :: Env.sp 2 (AV.ptr (some (y2, (0 : Nat))) :: Env.sp 1 (AV.str y3 :: AV.bool y4 :: Env.sp 21 (AV.bool y5 :: AV.bool y6 :: Env.sp 34 [])))
def f21e13 (y0 : Option (Nat × Nat)) (y1 : Int) (y2 : Nat) (y3 : ByteArray) (y4 : Bool) : Env := AV.ptr y0 :: AV.int IntKind.i64 y1 :: Env.sp 2 (AV.ptr (some (y2, (0 : Nat))) :: Env.sp 1 (AV.str y3 :: Env.sp 23 (AV.bool y4 :: Env.sp 34 [])))
def f21e14 (y0 : Option (Nat × Nat)) (y1 : Int) (y2 : Nat) (y3 : Bool) (y4 : ByteArray) (y5 : Bool) (y6 : ByteArray) (y7 : Int) (y8 : Option (Nat × Nat)) (y9 : Nat) (y10 : Option Nat) : Env := AV.ptr y0 :: AV.int IntKind.i64 y1 :: Env.sp 2 (AV.ptr (some (y2, (0 : Nat))) :: AV.bool y3 :: AV.str y4 :: Env.sp 23 (AV.bool y5 :: AV.agg [AV.str y6, AV.int IntKind.i64 y7, AV.slice y8 y9 y10 (2 : Nat)] :: Env.sp 33 []))
def f21e15 (y0 : Option (Nat × Nat)) (y1 : Int) (y2 : Nat) (y3 : ByteArray) : Env := AV.ptr y0 :: AV.int IntKind.i64 y1 :: Env.sp 2 (AV.ptr (some (y2, (0 : Nat))) :: Env.sp 1 (AV.str y3 :: Env.sp 58 []))
def f21e16 (y0 : Option (Nat × Nat)) (y1 : Int) (y2 : Nat) (y3 : Bool) (y4 : ByteArray) (y5 : Option (Nat × Nat)) (y6 : Int) (y7 : ByteArray) (y8 : ByteArray) (y9 : Int) (y10 : Option (Nat × Nat)) (y11 : Nat) (y12 : Option Nat) (y13 : Bool) (y14 : ByteArray) (y15 : Int) (y16 : Option (Nat × Nat)) (y17 : Nat) (y18 : Option Nat) (y19 : Bool) : Env := AV.ptr y0 :: AV.int IntKind.i64 y1 :: Env.sp 2 (AV.ptr (some (y2, (0 : Nat))) :: AV.bool y3 :: AV.str y4 :: Env.sp 25 (AV.ptr y5 :: AV.int IntKind.i64 y6 :: AV.str y7 :: AV.tuple [AV.agg [AV.str y8, AV.int IntKind.i64 y9, AV.slice y10 y11 y12 (2 : Nat)], AV.bool y13] :: AV.agg [AV.str y14, AV.int IntKind.i64 y15, AV.slice y16 y17 y18 (2 : Nat)] :: AV.bool y19 :: Env.sp 27 []))
def f21e17 (y0 : Option (Nat × Nat)) (y1 : Int) (y2 : Nat) (y3 : Option (Nat × Nat)) (y4 : Int) (y5 : Option (Nat × Nat)) (y6 : Option (Nat × Nat)) (y7 : Option (Nat × Nat)) (y8 : Option (Nat × Nat)) (y9 : Nat) (y10 : Option Nat) (y11 : Int) (y12 : Int) : Env := AV.ptr y0 :: AV.int IntKind.i64 y1 :: Env.sp 2 (AV.ptr (some (y2, (0 : Nat))) :: Env.sp 33 (AV.ptr y3 :: AV.int IntKind.i64 y4 :: AV.ptr y5 :: AV.ptr y6 :: AV.ptr y7 :: AV.slice y8 y9 y10 (3 : Nat) :: AV.int IntKind.i64 y11 :: AV.int IntKind.i64 y12 :: Env.sp 19 []))
def f21e18 (y0 : Option (Nat × Nat)) (y1 : Int) (y2 : Nat) (y3 : Option (Nat × Nat)) (y4 : Nat) (y5 : Option Nat) (y6 : Int) (y7 : Int) : Env := AV.ptr y0 :: AV.int IntKind.i64 y1 :: Env.sp 2 (AV.ptr (some (y2, (0 : Nat))) :: Env.sp 38 (AV.slice y3 y4 y5 (3 : Nat) :: AV.int IntKind.i64 y6 :: AV.int IntKind.i64 y7 :: Env.sp 19 []))
def f21e19 (y0 : Option (Nat × Nat)) (y1 : Int) (y2 : Nat) (y3 : Option (Nat × Nat)) (y4 : Nat) (y5 : Option Nat) (y6 : Int) (y7 : Int) (y8 : Bool) : Env := AV.ptr y0 :: AV.int IntKind.i64 y1 :: Env.sp 2 (AV.ptr (some (y2, (0 : Nat))) :: Env.sp 38 (AV.slice y3 y4 y5 (3 : Nat) :: AV.int IntKind.i64 y6 :: AV.int IntKind.i64 y7 :: AV.bool y8 :: Env.sp 18 []))
def f21e20 (y0 : Nat) : Env := Env.sp 4 (AV.ptr (some (y0, (0 : Nat))) :: Env.sp 60 [])
def f21e21 (y0 : Option (Nat × Nat)) (y1 : Int) (y2 : Nat) (y3 : Nat) (y4 : Option (Nat × Nat)) (y5 : Nat) (y6 : Option Nat) (y7 : Int) (y8 : Int) (y9 : Option (Nat × Nat)) (y10 : Bool) (y11 : ByteArray) (y12 : ByteArray) : Env := AV.ptr y0 :: AV.int IntKind.i64 y1 :: Env.sp 2 (AV.ptr (some (y2, (0 : Nat))) :: Env.sp 4 (AV.ptr (some (y3, (0 : Nat))) :: Env.sp 33 (AV.slice y4 y5 y6 (3 : Nat) :: AV.int IntKind.i64 y7 :: AV.int IntKind.i64 y8 :: Env.sp 1 (AV.ptr y9 :: AV.agg [AV.bool y10, AV.str y11, AV.str y12] :: Env.sp 16 []))))
def f21e22 (y0 : Option (Nat × Nat)) (y1 : Int) (y2 : Nat) (y3 : Nat) (y4 : Option (Nat × Nat)) (y5 : Nat) (y6 : Option Nat) (y7 : Int) (y8 : Int) : Env := AV.ptr y0 :: AV.int IntKind.i64 y1 :: Env.sp 2 (AV.ptr (some (y2, (0 : Nat))) :: Env.sp 4 (AV.ptr (some (y3, (0 : Nat))) :: Env.sp 33 (AV.slice y4 y5 y6 (3 : Nat) :: AV.int IntKind.i64 y7 :: AV.int IntKind.i64 y8 :: Env.sp 19 [])))
def f21e23 (y0 : Option (Nat × Nat)) (y1 : Int) (y2 : Nat) (y3 : Nat) (y4 : Nat) (y5 : Bool) (y6 : Option (Nat × Nat)) (y7 : Nat) (y8 : Option Nat) (y9 : Int) (y10 : Int) (y11 : ByteArray) (y12 : Int) (y13 : Option (Nat × Nat)) (y14 : Nat) (y15 : Option Nat) (y16 : Bool) (y17 : Option (Nat × Nat)) (y18 : Int) (y19 : Nat) (y20 : ByteArray) (y21 : ByteArray) (y22 : Int) (y23 : Option (Nat × Nat)) (y24 : Nat) (y25 : Option Nat) (y26 : Bool) (y27 : ByteArray) (y28 : Int) (y29 : Option (Nat × Nat)) (y30 : Nat) (y31 : Option Nat) (y32 : Bool) : Env := AV.ptr y0 :: AV.int IntKind.i64 y1 :: Env.sp 2 (AV.ptr (some (y2, (0 : Nat))) :: Env.sp 4 (AV.ptr (some (y3, (0 : Nat))) :: AV.ptr (some (y4, (0 : Nat))) :: AV.bool y5 :: Env.sp 31 (AV.slice y6 y7 y8 (3 : Nat) :: AV.int IntKind.i64 y9 :: AV.int IntKind.i64 y10 :: Env.sp 3 (AV.tuple [AV.agg [AV.str y11, AV.int IntKind.i64 y12, AV.slice y13 y14 y15 (2 : Nat)], AV.bool y16] :: AV.ptr y17 :: AV.int IntKind.i64 y18 :: AV.ptr (some (y19, (1 : Nat))) :: AV.str y20 :: AV.tuple [AV.agg [AV.str y21, AV.int IntKind.i64 y22, AV.slice y23 y24 y25 (2 : Nat)], AV.bool y26] :: AV.agg [AV.str y27, AV.int IntKind.i64 y28, AV.slice y29 y30 y31 (2 : Nat)] :: AV.bool y32 :: Env.sp 8 []))))
def f21e24 (y0 : Option (Nat × Nat)) (y1 : Int) (y2 : Nat) (y3 : Nat) (y4 : Nat) (y5 : Bool) (y6 : Option (Nat × Nat)) (y7 : Nat) (y8 : Option Nat) (y9 : Int) (y10 : Int) : Env := AV.ptr y0 :: AV.int IntKind.i64 y1 :: Env.sp 2 (AV.ptr (some (y2, (0 : Nat))) :: Env.sp 4 (AV.ptr (some (y3, (0 : Nat))) :: AV.ptr (some (y4, (0 : Nat))) :: AV.bool y5 :: Env.sp 31 (AV.slice y6 y7 y8 (3 : Nat) :: AV.int IntKind.i64 y9 :: AV.int IntKind.i64 y10 :: Env.sp 19 [])))
def f21e25 (y0 : Option (Nat × Nat)) (y1 : Int) (y2 : Nat) (y3 : Nat) (y4 : Nat) (y5 : Bool) (y6 : Option (Nat × Nat)) (y7 : Nat) (y8 : Option Nat) (y9 : Int) (y10 : Int) (y11 : Nat) (y12 : Bool) (y13 : Bool) (y14 : Bool) (y15 : Bool) : Env := AV.ptr y0 :: AV.int IntKind.i64 y1 :: Env.sp 2 (AV.ptr (some (y2, (0 : Nat))) :: Env.sp 4 (AV.ptr (some (y3, (0 : Nat))) :: AV.ptr (some (y4, (0 : Nat))) :: AV.bool y5 :: Env.sp 31 (AV.slice y6 y7 y8 (3 : Nat) :: AV.int IntKind.i64 y9 :: AV.int IntKind.i64 y10 :: Env.sp 11 (AV.ptr (some (y11, (0 : Nat))) :: AV.bool y12 :: AV.bool y13 :: AV.bool y14 :: AV.bool y15 :: Env.sp 3 []))))
def f21e26 (y0 : Option (Nat × Nat)) (y1 : Int) (y2 : Nat) (y3 : Nat) (y4 : Nat) (y5 : Bool) (y6 : Option (Nat × Nat)) (y7 : Nat) (y8 : Option Nat) (y9 : Int) (y10 : Int) (y11 : Nat) (y12 : Bool) (y13 : Bool) (y14 : Bool) : Env := AV.ptr y0 :: AV.int IntKind.i64 y1 :: Env.sp 2 (AV.ptr (some (y2, (0 : Nat))) :: Env.sp 4 (AV.ptr (some (y3, (0 : Nat))) :: AV.ptr (some (y4, (0 : Nat))) :: AV.bool y5 :: Env.sp 31 (AV.slice y6 y7 y8 (3 : Nat) :: AV.int IntKind.i64 y9 :: AV.int IntKind.i64 y10 :: Env.sp 11 (AV.ptr (some (y11, (0 : Nat))) :: AV.bool y12 :: AV.bool y13 :: AV.tuple [] :: AV.bool y14 :: Env.sp 3 []))))
def f21e27 (y0 : Option (Nat × Nat)) (y1 : Int) (y2 : Nat) (y3 : Nat) (y4 : Option (Nat × Nat)) (y5 : Nat) (y6 : Option Nat) (y7 : Int) (y8 : Int) (y9 : Bool) : Env := AV.ptr y0 :: AV.int IntKind.i64 y1 :: Env.sp 2 (AV.ptr (some (y2, (0 : Nat))) :: Env.sp 5 (AV.ptr (some (y3, (0 : Nat))) :: Env.sp 32 (AV.slice y4 y5 y6 (3 : Nat) :: AV.int IntKind.i64 y7 :: AV.int IntKind.i64 y8 :: Env.sp 15 (AV.bool y9 :: Env.sp 3 []))))
def f21e28 (y0 : Option (Nat × Nat)) (y1 : Int) (y2 : Nat) (y3 : Bool) (y4 : Nat) (y5 : Option (Nat × Nat)) (y6 : Nat) (y7 : Option Nat) (y8 : Int) (y9 : Int) (y10 : Bool) (y11 : ByteArray) (y12 : Int) (y13 : Option (Nat × Nat)) (y14 : Nat) (y15 : Option Nat) : Env := AV.ptr y0 :: AV.int IntKind.i64 y1 :: Env.sp 2 (AV.ptr (some (y2, (0 : Nat))) :: AV.bool y3 :: Env.sp 4 (AV.ptr (some (y4, (0 : Nat))) :: Env.sp 32 (AV.slice y5 y6 y7 (3 : Nat) :: AV.int IntKind.i64 y8 :: AV.int IntKind.i64 y9 :: Env.sp 15 (AV.bool y10 :: AV.agg [AV.str y11, AV.int IntKind.i64 y12, AV.slice y13 y14 y15 (2 : Nat)] :: Env.sp 2 []))))
def f21e29 (y0 : Option (Nat × Nat)) (y1 : Int) (y2 : Nat) (y3 : Option (Nat × Nat)) (y4 : Nat) (y5 : Option Nat) (y6 : Int) (y7 : Int) (y8 : Int) : Env := AV.ptr y0 :: AV.int IntKind.i64 y1 :: Env.sp 2 (AV.ptr (some (y2, (0 : Nat))) :: Env.sp 38 (AV.slice y3 y4 y5 (3 : Nat) :: AV.int IntKind.i64 y6 :: AV.int IntKind.i64 y7 :: Env.sp 17 (AV.int IntKind.i64 y8 :: Env.sp 1 [])))
def f21e30 (y0 : Nat) (y1 : Bool) (y2 : ByteArray) (y3 : Int) (y4 : Option (Nat × Nat)) (y5 : Nat) (y6 : Option Nat) : Env := Env.sp 4 (AV.ptr (some (y0, (0 : Nat))) :: AV.bool y1 :: Env.sp 58 (AV.agg [AV.str y2, AV.int IntKind.i64 y3, AV.slice y4 y5 y6 (2 : Nat)] :: []))

/- function 21 -/
theorem f21_eq {R : Type} (call : CallF R) (N : Nat) (y0 : Option (Nat × Nat)) (y1 : Int) (σ : St) (K : AV → St → Option R) :
    bodyK Try.prog call N ann 21 [AV.ptr y0, AV.int IntKind.i64 y1] σ K = runK Try.prog call N f21c0 f21a0 (bodyC Try.prog f21rs K) (f21e0 y0 y1) σ := bodyK_of (fn := ((Try.prog.funcs[21]?).get rfl)) (by kernel_rfl) (by kernel_rfl) (by kernel_rfl) (by kernel_rfl) (by kernel_rfl) (by kernel_rfl)
theorem f21n0 {R : Type} (call : CallF R) (N : Nat) (J : KF R) (e : Env) (σ : St) : runK Try.prog call N f21c0 f21a0 J e σ = runK Try.prog call N f21c1 f21a1 (seqC (fun K e σ => runK Try.prog call N f21c2 f21a2 K e σ) f21a0 J) e σ := runK_seq' (by kernel_rfl) (by kernel_rfl) (by kernel_rfl)
theorem f21r1_f21e0 {R : Type} (call : CallF R) (N : Nat) (y0 : Option (Nat × Nat)) (y1 : Int) (J : KF R) (σ : St) :
    runK Try.prog call N f21c1 f21a1 J (f21e0 y0 y1) σ =
J Ex.normal (f21e1 y0 y1 (St.next σ) false)
  (St.new σ (Blk.cells [AV.str (ByteArray.mk #[]), AV.int IntKind.i64 (0 : Int), AV.slice none (0 : Nat) (some (0 : Nat)) (2 : Nat)] true)) := hide (by kernel_rfl)
theorem f21z0_f21e1 (y0 : Option (Nat × Nat)) (y1 : Int) (y2 : Nat) (y3 : Bool) : Ann.clr f21a0 (f21e1 y0 y1 y2 y3) = f21e2 y0 y1 y2 := hide (by kernel_rfl)
theorem f21n2 {R : Type} (call : CallF R) (N : Nat) (J : KF R) (e : Env) (σ : St) : runK Try.prog call N f21c2 f21a2 J e σ = runK Try.prog call N f21c3 f21a3 (seqC (fun K e σ => runK Try.prog call N f21c4 f21a4 K e σ) f21a2 J) e σ := runK_seq' (by kernel_rfl) (by kernel_rfl) (by kernel_rfl)
theorem f21n3 {R : Type} (call : CallF R) (N : Nat) (J : KF R) (e : Env) (σ : St) : runK Try.prog call N f21c3 f21a3 J e σ = runK Try.prog call N f21c5 f21a5 (blockC 0 f21a3 J) e σ := runK_block' (by kernel_rfl) (by kernel_rfl)
theorem f21n5 {R : Type} (call : CallF R) (N : Nat) (J : KF R) (e : Env) (σ : St) : runK Try.prog call N f21c5 f21a5 J e σ = runK Try.prog call N f21c6 f21a6 (seqC (fun K e σ => runK Try.prog call N f21c7 f21a7 K e σ) f21a5 J) e σ := runK_seq' (by kernel_rfl) (by kernel_rfl) (by kernel_rfl)
theorem f21r6_f21e2 {R : Type} (call : CallF R) (N : Nat) (y0 : Option (Nat × Nat)) (y1 : Int) (y2 : Nat) (J : KF R) (σ : St) :
    runK Try.prog call N f21c6 f21a6 J (f21e2 y0 y1 y2) σ =
if Option.isNone y0 = true then J Ex.normal (f21e3 y0 y1 y2 true y0 (Option.isNone y0) true true) σ
else
  call (46 : Nat) [AV.int IntKind.i64 y1] σ fun v0 v1 =>
    Option.bind (AV.toBool v0) fun v2 => J Ex.normal (f21e4 y0 y1 y2 (!v2) y0 (Option.isNone y0) false y1 v2 (!v2) !v2) v1 := hide (by kernel_rfl)
theorem f21z5_f21e3 (y0 : Option (Nat × Nat)) (y1 : Int) (y2 : Nat) (y3 : Bool) (y4 : Option (Nat × Nat)) (y5 : Bool) (y6 : Bool) (y7 : Bool) : Ann.clr f21a5 (f21e3 y0 y1 y2 y3 y4 y5 y6 y7) = f21e5 y0 y1 y2 y3 := hide (by kernel_rfl)
theorem f21x7_f21e5 {R : Type} (call : CallF R) (N : Nat) (y0 : Option (Nat × Nat)) (y1 : Int) (y2 : Nat) (y3 : Bool) (J : KF R) (σ : St) : runK Try.prog call N f21c7 f21a7 J (f21e5 y0 y1 y2 y3) σ = if y3 = true then runK Try.prog call N f21c8 f21a8 (condC f21a7 J) (f21e5 y0 y1 y2 y3) σ else runK Try.prog call N f21c9 f21a9 (condC f21a7 J) (f21e5 y0 y1 y2 y3) σ := runK_cond' (o := Operand.tmp (12 : Nat)) (by kernel_rfl) (by kernel_rfl) (by kernel_rfl) (by kernel_rfl)
theorem f21n8 {R : Type} (call : CallF R) (N : Nat) (J : KF R) (e : Env) (σ : St) : runK Try.prog call N f21c8 f21a8 J e σ = runK Try.prog call N f21c10 f21a10 (seqC (fun K e σ => runK Try.prog call N f21c11 f21a11 K e σ) f21a8 J) e σ := runK_seq' (by kernel_rfl) (by kernel_rfl) (by kernel_rfl)
theorem f21r10_f21e5 {R : Type} (call : CallF R) (N : Nat) (y0 : Option (Nat × Nat)) (y1 : Int) (y2 : Nat) (y3 : Bool) (J : KF R) (σ : St) :
    runK Try.prog call N f21c10 f21a10 J (f21e5 y0 y1 y2 y3) σ =
Option.bind (St.st σ y2 (0 : Nat) [AV.str (ByteArray.mk #[]), AV.int IntKind.i64 (0 : Int), AV.slice none (0 : Nat) (some (0 : Nat)) (2 : Nat)])
  fun v0 => J Ex.normal (f21e6 y0 y1 y2 false y3 (ByteArray.mk #[]) (0 : Int) none (0 : Nat) (some (0 : Nat))) v0 := hide (by kernel_rfl)
theorem f21z8_f21e6 (y0 : Option (Nat × Nat)) (y1 : Int) (y2 : Nat) (y3 : Bool) (y4 : Bool) (y5 : ByteArray) (y6 : Int) (y7 : Option (Nat × Nat)) (y8 : Nat) (y9 : Option Nat) : Ann.clr f21a8 (f21e6 y0 y1 y2 y3 y4 y5 y6 y7 y8 y9) = f21e7 y2 y3 := hide (by kernel_rfl)
theorem f21y11_f21e7 {R : Type} (call : CallF R) (N : Nat) (y0 : Nat) (y1 : Bool) (J : KF R) (σ : St) : runK Try.prog call N f21c11 f21a11 J (f21e7 y0 y1) σ = J .ret (f21e7 y0 y1) σ := runK_ret' (by kernel_rfl) (by kernel_rfl)
theorem f21n9 {R : Type} (call : CallF R) (N : Nat) (J : KF R) (e : Env) (σ : St) : runK Try.prog call N f21c9 f21a9 J e σ = runK Try.prog call N f21c12 f21a12 (seqC (fun K e σ => runK Try.prog call N f21c13 f21a13 K e σ) f21a9 J) e σ := runK_seq' (by kernel_rfl) (by kernel_rfl) (by kernel_rfl)
theorem f21r12_f21e5 {R : Type} (call : CallF R) (N : Nat) (y0 : Option (Nat × Nat)) (y1 : Int) (y2 : Nat) (y3 : Bool) (J : KF R) (σ : St) :
    runK Try.prog call N f21c12 f21a12 J (f21e5 y0 y1 y2 y3) σ =
J Ex.normal (f21e8 y0 y1 y2 y3 (y1 == (1 : Int)) y1 (y1 == (1 : Int))) σ := hide (by kernel_rfl)
theorem f21z9_f21e8 (y0 : Option (Nat × Nat)) (y1 : Int) (y2 : Nat) (y3 : Bool) (y4 : Bool) (y5 : Int) (y6 : Bool) : Ann.clr f21a9 (f21e8 y0 y1 y2 y3 y4 y5 y6) = f21e9 y0 y1 y2 y4 := hide (by kernel_rfl)
theorem f21x13_f21e9 {R : Type} (call : CallF R) (N : Nat) (y0 : Option (Nat × Nat)) (y1 : Int) (y2 : Nat) (y3 : Bool) (J : KF R) (σ : St) : runK Try.prog call N f21c13 f21a13 J (f21e9 y0 y1 y2 y3) σ = if y3 = true then runK Try.prog call N f21c14 f21a14 (condC f21a13 J) (f21e9 y0 y1 y2 y3) σ else runK Try.prog call N f21c15 f21a15 (condC f21a13 J) (f21e9 y0 y1 y2 y3) σ := runK_cond' (o := Operand.tmp (21 : Nat)) (by kernel_rfl) (by kernel_rfl) (by kernel_rfl) (by kernel_rfl)
theorem f21n14 {R : Type} (call : CallF R) (N : Nat) (J : KF R) (e : Env) (σ : St) : runK Try.prog call N f21c14 f21a14 J e σ = runK Try.prog call N f21c16 f21a16 (seqC (fun K e σ => runK Try.prog call N f21c17 f21a17 K e σ) f21a14 J) e σ := runK_seq' (by kernel_rfl) (by kernel_rfl) (by kernel_rfl)
theorem f21r16_f21e9 {R : Type} (call : CallF R) (N : Nat) (y0 : Option (Nat × Nat)) (y1 : Int) (y2 : Nat) (y3 : Bool) (J : KF R) (σ : St) :
    runK Try.prog call N f21c16 f21a16 J (f21e9 y0 y1 y2 y3) σ =
call (26 : Nat) [AV.ptr y0] σ fun v0 v1 =>
  Option.bind (AV.toTuple v0) fun v2 =>
    if List.length v2 = (2 : Nat) then
      Option.bind (List.head? v2) fun v3 =>
        Option.bind (AV.toStr v3) fun v4 =>
          Option.bind (List.head? (List.tail v2)) fun v5 =>
            Option.bind (AV.toBool v5) fun v6 => J Ex.normal (f21e10 y0 y1 y2 v4 v6 y3 v4 v6 y0 v4 v6 v4 v6) v1
    else none := hide (by kernel_rfl)
theorem f21z14_f21e10 (y0 : Option (Nat × Nat)) (y1 : Int) (y2 : Nat) (y3 : ByteArray) (y4 : Bool) (y5 : Bool) (y6 : ByteArray) (y7 : Bool) (y8 : Option (Nat × Nat)) (y9 : ByteArray) (y10 : Bool) (y11 : ByteArray) (y12 : Bool) : Ann.clr f21a14 (f21e10 y0 y1 y2 y3 y4 y5 y6 y7 y8 y9 y10 y11 y12) = f21e11 y0 y1 y2 y3 y4 := hide (by kernel_rfl)
theorem f21n17 {R : Type} (call : CallF R) (N : Nat) (J : KF R) (e : Env) (σ : St) : runK Try.prog call N f21c17 f21a17 J e σ = runK Try.prog call N f21c18 f21a18 (seqC (fun K e σ => runK Try.prog call N f21c19 f21a19 K e σ) f21a17 J) e σ := runK_seq' (by kernel_rfl) (by kernel_rfl) (by kernel_rfl)
theorem f21n18 {R : Type} (call : CallF R) (N : Nat) (J : KF R) (e : Env) (σ : St) : runK Try.prog call N f21c18 f21a18 J e σ = runK Try.prog call N f21c20 f21a20 (seqC (fun K e σ => runK Try.prog call N f21c21 f21a21 K e σ) f21a18 J) e σ := runK_seq' (by kernel_rfl) (by kernel_rfl) (by kernel_rfl)
theorem f21r20_f21e11 {R : Type} (call : CallF R) (N : Nat) (y0 : Option (Nat × Nat)) (y1 : Int) (y2 : Nat) (y3 : ByteArray) (y4 : Bool) (J : KF R) (σ : St) :
    runK Try.prog call N f21c20 f21a20 J (f21e11 y0 y1 y2 y3 y4) σ =
J Ex.normal (f21e12 y0 y1 y2 y3 y4 y4 !y4) σ := hide (by kernel_rfl)
theorem f21z18_f21e12 (y0 : Option (Nat × Nat)) (y1 : Int) (y2 : Nat) (y3 : ByteArray) (y4 : Bool) (y5 : Bool) (y6 : Bool) : Ann.clr f21a18 (f21e12 y0 y1 y2 y3 y4 y5 y6) = f21e13 y0 y1 y2 y3 y6 := hide (by kernel_rfl)
theorem f21x21_f21e13 {R : Type} (call : CallF R) (N : Nat) (y0 : Option (Nat × Nat)) (y1 : Int) (y2 : Nat) (y3 : ByteArray) (y4 : Bool) (J : KF R) (σ : St) : runK Try.prog call N f21c21 f21a21 J (f21e13 y0 y1 y2 y3 y4) σ = if y4 = true then runK Try.prog call N f21c22 f21a22 (condC f21a21 J) (f21e13 y0 y1 y2 y3 y4) σ else runK Try.prog call N f21c23 f21a23 (condC f21a21 J) (f21e13 y0 y1 y2 y3 y4) σ := runK_cond' (o := Operand.tmp (30 : Nat)) (by kernel_rfl) (by kernel_rfl) (by kernel_rfl) (by kernel_rfl)
theorem f21n22 {R : Type} (call : CallF R) (N : Nat) (J : KF R) (e : Env) (σ : St) : runK Try.prog call N f21c22 f21a22 J e σ = runK Try.prog call N f21c24 f21a24 (seqC (fun K e σ => runK Try.prog call N f21c25 f21a25 K e σ) f21a22 J) e σ := runK_seq' (by kernel_rfl) (by kernel_rfl) (by kernel_rfl)
theorem f21r24_f21e13 {R : Type} (call : CallF R) (N : Nat) (y0 : Option (Nat × Nat)) (y1 : Int) (y2 : Nat) (y3 : ByteArray) (y4 : Bool) (J : KF R) (σ : St) :
    runK Try.prog call N f21c24 f21a24 J (f21e13 y0 y1 y2 y3 y4) σ =
Option.bind (St.st σ y2 (0 : Nat) [AV.str (ByteArray.mk #[]), AV.int IntKind.i64 (0 : Int), AV.slice none (0 : Nat) (some (0 : Nat)) (2 : Nat)])
  fun v0 => J Ex.normal (f21e14 y0 y1 y2 false y3 y4 (ByteArray.mk #[]) (0 : Int) none (0 : Nat) (some (0 : Nat))) v0 := hide (by kernel_rfl)
theorem f21z22_f21e14 (y0 : Option (Nat × Nat)) (y1 : Int) (y2 : Nat) (y3 : Bool) (y4 : ByteArray) (y5 : Bool) (y6 : ByteArray) (y7 : Int) (y8 : Option (Nat × Nat)) (y9 : Nat) (y10 : Option Nat) : Ann.clr f21a22 (f21e14 y0 y1 y2 y3 y4 y5 y6 y7 y8 y9 y10) = f21e7 y2 y3 := hide (by kernel_rfl)
theorem f21y25_f21e7 {R : Type} (call : CallF R) (N : Nat) (y0 : Nat) (y1 : Bool) (J : KF R) (σ : St) : runK Try.prog call N f21c25 f21a25 J (f21e7 y0 y1) σ = J .ret (f21e7 y0 y1) σ := runK_ret' (by kernel_rfl) (by kernel_rfl)
theorem f21n23 {R : Type} (call : CallF R) (N : Nat) (J : KF R) (e : Env) (σ : St) : runK Try.prog call N f21c23 f21a23 J e σ = J .normal e σ := runK_skip' (by kernel_rfl)
theorem f21z21_f21e13 (y0 : Option (Nat × Nat)) (y1 : Int) (y2 : Nat) (y3 : ByteArray) (y4 : Bool) : Ann.clr f21a21 (f21e13 y0 y1 y2 y3 y4) = f21e15 y0 y1 y2 y3 := hide (by kernel_rfl)
theorem f21z17_f21e15 (y0 : Option (Nat × Nat)) (y1 : Int) (y2 : Nat) (y3 : ByteArray) : Ann.clr f21a17 (f21e15 y0 y1 y2 y3) = f21e15 y0 y1 y2 y3 := hide (by kernel_rfl)
theorem f21n19 {R : Type} (call : CallF R) (N : Nat) (J : KF R) (e : Env) (σ : St) : runK Try.prog call N f21c19 f21a19 J e σ = runK Try.prog call N f21c26 f21a26 (seqC (fun K e σ => runK Try.prog call N f21c27 f21a27 K e σ) f21a19 J) e σ := runK_seq' (by kernel_rfl) (by kernel_rfl) (by kernel_rfl)
theorem f21r26_f21e15 {R : Type} (call : CallF R) (N : Nat) (y0 : Option (Nat × Nat)) (y1 : Int) (y2 : Nat) (y3 : ByteArray) (J : KF R) (σ : St) :
    runK Try.prog call N f21c26 f21a26 J (f21e15 y0 y1 y2 y3) σ =
call (47 : Nat) [AV.ptr y0, AV.int IntKind.i64 y1, AV.str y3] σ fun v0 v1 =>
  Option.bind (AV.toTuple v0) fun v2 =>
    if List.length v2 = (2 : Nat) then
      Option.bind (List.head? v2) fun v3 =>
        Option.bind (AV.toAgg v3) fun v4 =>
          if List.length v4 = (3 : Nat) then
            Option.bind (List.head? v4) fun v5 =>
              Option.bind (AV.toStr v5) fun v6 =>
                Option.bind (List.head? (List.tail v4)) fun v7 =>
                  Option.bind (AV.toInt IntKind.i64 v7) fun v8 =>
                    Option.bind (List.head? (List.tail (List.tail v4))) fun v9 =>
                      Option.bind (AV.toSl (2 : Nat) v9) fun v10 =>
                        Option.bind (List.head? (List.tail v2)) fun v11 =>
                          Option.bind (AV.toBool v11) fun v12 =>
                            Option.bind
                              (St.st v1 y2 (0 : Nat) [AV.str v6, AV.int IntKind.i64 v8, AV.slice (Sl.o v10) (Sl.len v10) (Sl.cap v10) (2 : Nat)])
                              fun v13 =>
                              J Ex.normal
                                (f21e16 y0 y1 y2 v12 y3 y0 y1 y3 v6 v8 (Sl.o v10) (Sl.len v10) (Sl.cap v10) v12 v6 v8 (Sl.o v10) (Sl.len v10)
                                  (Sl.cap v10) v12)
                                v13
          else none
    else none := hide (by kernel_rfl)
theorem f21z19_f21e16 (y0 : Option (Nat × Nat)) (y1 : Int) (y2 : Nat) (y3 : Bool) (y4 : ByteArray) (y5 : Option (Nat × Nat)) (y6 : Int) (y7 : ByteArray) (y8 : ByteArray) (y9 : Int) (y10 : Option (Nat × Nat)) (y11 : Nat) (y12 : Option Nat) (y13 : Bool) (y14 : ByteArray) (y15 : Int) (y16 : Option (Nat × Nat)) (y17 : Nat) (y18 : Option Nat) (y19 : Bool) : Ann.clr f21a19 (f21e16 y0 y1 y2 y3 y4 y5 y6 y7 y8 y9 y10 y11 y12 y13 y14 y15 y16 y17 y18 y19) = f21e7 y2 y3 := hide (by kernel_rfl)
theorem f21y27_f21e7 {R : Type} (call : CallF R) (N : Nat) (y0 : Nat) (y1 : Bool) (J : KF R) (σ : St) : runK Try.prog call N f21c27 f21a27 J (f21e7 y0 y1) σ = J .ret (f21e7 y0 y1) σ := runK_ret' (by kernel_rfl) (by kernel_rfl)
theorem f21n15 {R : Type} (call : CallF R) (N : Nat) (J : KF R) (e : Env) (σ : St) : runK Try.prog call N f21c15 f21a15 J e σ = J .normal e σ := runK_skip' (by kernel_rfl)
theorem f21z13_f21e9 (y0 : Option (Nat × Nat)) (y1 : Int) (y2 : Nat) (y3 : Bool) : Ann.clr f21a13 (f21e9 y0 y1 y2 y3) = f21e2 y0 y1 y2 := hide (by kernel_rfl)
theorem f21z7_f21e2 (y0 : Option (Nat × Nat)) (y1 : Int) (y2 : Nat) : Ann.clr f21a7 (f21e2 y0 y1 y2) = f21e2 y0 y1 y2 := hide (by kernel_rfl)
theorem f21z5_f21e4 (y0 : Option (Nat × Nat)) (y1 : Int) (y2 : Nat) (y3 : Bool) (y4 : Option (Nat × Nat)) (y5 : Bool) (y6 : Bool) (y7 : Int) (y8 : Bool) (y9 : Bool) (y10 : Bool) : Ann.clr f21a5 (f21e4 y0 y1 y2 y3 y4 y5 y6 y7 y8 y9 y10) = f21e5 y0 y1 y2 y3 := hide (by kernel_rfl)
theorem f21z3_f21e2 (y0 : Option (Nat × Nat)) (y1 : Int) (y2 : Nat) : Ann.clr f21a3 (f21e2 y0 y1 y2) = f21e2 y0 y1 y2 := hide (by kernel_rfl)
theorem f21z2_f21e2 (y0 : Option (Nat × Nat)) (y1 : Int) (y2 : Nat) : Ann.clr f21a2 (f21e2 y0 y1 y2) = f21e2 y0 y1 y2 := hide (by kernel_rfl)
theorem f21n4 {R : Type} (call : CallF R) (N : Nat) (J : KF R) (e : Env) (σ : St) : runK Try.prog call N f21c4 f21a4 J e σ = runK Try.prog call N f21c28 f21a28 (seqC (fun K e σ => runK Try.prog call N f21c29 f21a29 K e σ) f21a4 J) e σ := runK_seq' (by kernel_rfl) (by kernel_rfl) (by kernel_rfl)
theorem f21n28 {R : Type} (call : CallF R) (N : Nat) (J : KF R) (e : Env) (σ : St) : runK Try.prog call N f21c28 f21a28 J e σ = runK Try.prog call N f21c30 f21a30 (seqC (fun K e σ => runK Try.prog call N f21c31 f21a31 K e σ) f21a28 J) e σ := runK_seq' (by kernel_rfl) (by kernel_rfl) (by kernel_rfl)
theorem f21r30_f21e2 {R : Type} (call : CallF R) (N : Nat) (y0 : Option (Nat × Nat)) (y1 : Int) (y2 : Nat) (J : KF R) (σ : St) :
    runK Try.prog call N f21c30 f21a30 J (f21e2 y0 y1 y2) σ =
Option.bind y0 fun v0 =>
  if (0 : Nat) < (1 : Nat) ∧ (0 : Int) ≤ y1 ∧ y1 < (3 : Int) then
    Option.bind (St.ld σ (Prod.fst v0) (Prod.snd v0 + (3 : Nat) + Int.toNat y1 * (1 : Nat))) fun v1 =>
      Option.bind (AV.toSl (3 : Nat) v1) fun v2 =>
        J Ex.normal
          (f21e17 y0 y1 y2 y0 y1 (some v0) (some (Prod.fst v0, Prod.snd v0 + (3 : Nat)))
            (some (Prod.fst v0, Prod.snd v0 + (3 : Nat) + Int.toNat y1 * (1 : Nat))) (Sl.o v2) (Sl.len v2) (Sl.cap v2) (↑(Sl.len v2) : Int) (0 : Int))
          σ
  else none := hide (by kernel_rfl)
theorem f21z28_f21e17 (y0 : Option (Nat × Nat)) (y1 : Int) (y2 : Nat) (y3 : Option (Nat × Nat)) (y4 : Int) (y5 : Option (Nat × Nat)) (y6 : Option (Nat × Nat)) (y7 : Option (Nat × Nat)) (y8 : Option (Nat × Nat)) (y9 : Nat) (y10 : Option Nat) (y11 : Int) (y12 : Int) : Ann.clr f21a28 (f21e17 y0 y1 y2 y3 y4 y5 y6 y7 y8 y9 y10 y11 y12) = f21e18 y0 y1 y2 y8 y9 y10 y11 y12 := hide (by kernel_rfl)
theorem f21n31 {R : Type} (call : CallF R) (N : Nat) (J : KF R) (e : Env) (σ : St) : runK Try.prog call N f21c31 f21a31 J e σ = runK Try.prog call N f21c32 f21a32 (blockC 1 f21a31 J) e σ := runK_block' (by kernel_rfl) (by kernel_rfl)
theorem f21L32_eq {R : Type} (call : CallF R) (N : Nat) (J : KF R) (e : Env) (σ : St) : f21L32 call N J e σ = runK Try.prog call N f21c33 f21a33 J e σ := hide rfl
theorem f21z32_f21e18 (y0 : Option (Nat × Nat)) (y1 : Int) (y2 : Nat) (y3 : Option (Nat × Nat)) (y4 : Nat) (y5 : Option Nat) (y6 : Int) (y7 : Int) : Ann.clr f21a32 (f21e18 y0 y1 y2 y3 y4 y5 y6 y7) = f21e18 y0 y1 y2 y3 y4 y5 y6 y7 := hide (by kernel_rfl)
theorem f21l32_f21e18 {R : Type} (call : CallF R) (N : Nat) (y0 : Option (Nat × Nat)) (y1 : Int) (y2 : Nat) (y3 : Option (Nat × Nat)) (y4 : Nat) (y5 : Option Nat) (y6 : Int) (y7 : Int) (J : KF R) (σ : St) : runK Try.prog call N f21c32 f21a32 J (f21e18 y0 y1 y2 y3 y4 y5 y6 y7) σ = loopK (f21L32 call N) f21a32 N J (f21e18 y0 y1 y2 y3 y4 y5 y6 y7) σ := runK_loop' (by kernel_rfl) (by kernel_rfl) (by kernel_rfl)
theorem f21n33 {R : Type} (call : CallF R) (N : Nat) (J : KF R) (e : Env) (σ : St) : runK Try.prog call N f21c33 f21a33 J e σ = runK Try.prog call N f21c34 f21a34 (seqC (fun K e σ => runK Try.prog call N f21c35 f21a35 K e σ) f21a33 J) e σ := runK_seq' (by kernel_rfl) (by kernel_rfl) (by kernel_rfl)
theorem f21r34_f21e18 {R : Type} (call : CallF R) (N : Nat) (y0 : Option (Nat × Nat)) (y1 : Int) (y2 : Nat) (y3 : Option (Nat × Nat)) (y4 : Nat) (y5 : Option Nat) (y6 : Int) (y7 : Int) (J : KF R) (σ : St) :
    runK Try.prog call N f21c34 f21a34 J (f21e18 y0 y1 y2 y3 y4 y5 y6 y7) σ =
J Ex.normal (f21e19 y0 y1 y2 y3 y4 y5 y6 y7 (decide (y7 < y6))) σ := hide (by kernel_rfl)
theorem f21z33_f21e19 (y0 : Option (Nat × Nat)) (y1 : Int) (y2 : Nat) (y3 : Option (Nat × Nat)) (y4 : Nat) (y5 : Option Nat) (y6 : Int) (y7 : Int) (y8 : Bool) : Ann.clr f21a33 (f21e19 y0 y1 y2 y3 y4 y5 y6 y7 y8) = f21e19 y0 y1 y2 y3 y4 y5 y6 y7 y8 := hide (by kernel_rfl)
theorem f21n35 {R : Type} (call : CallF R) (N : Nat) (J : KF R) (e : Env) (σ : St) : runK Try.prog call N f21c35 f21a35 J e σ = runK Try.prog call N f21c36 f21a36 (seqC (fun K e σ => runK Try.prog call N f21c37 f21a37 K e σ) f21a35 J) e σ := runK_seq' (by kernel_rfl) (by kernel_rfl) (by kernel_rfl)
theorem f21x36_f21e19 {R : Type} (call : CallF R) (N : Nat) (y0 : Option (Nat × Nat)) (y1 : Int) (y2 : Nat) (y3 : Option (Nat × Nat)) (y4 : Nat) (y5 : Option Nat) (y6 : Int) (y7 : Int) (y8 : Bool) (J : KF R) (σ : St) : runK Try.prog call N f21c36 f21a36 J (f21e19 y0 y1 y2 y3 y4 y5 y6 y7 y8) σ = if y8 = true then runK Try.prog call N f21c38 f21a38 (condC f21a36 J) (f21e19 y0 y1 y2 y3 y4 y5 y6 y7 y8) σ else runK Try.prog call N f21c39 f21a39 (condC f21a36 J) (f21e19 y0 y1 y2 y3 y4 y5 y6 y7 y8) σ := runK_cond' (o := Operand.tmp (46 : Nat)) (by kernel_rfl) (by kernel_rfl) (by kernel_rfl) (by kernel_rfl)
theorem f21n38 {R : Type} (call : CallF R) (N : Nat) (J : KF R) (e : Env) (σ : St) : runK Try.prog call N f21c38 f21a38 J e σ = J .normal e σ := runK_skip' (by kernel_rfl)
theorem f21z36_f21e19 (y0 : Option (Nat × Nat)) (y1 : Int) (y2 : Nat) (y3 : Option (Nat × Nat)) (y4 : Nat) (y5 : Option Nat) (y6 : Int) (y7 : Int) (y8 : Bool) : Ann.clr f21a36 (f21e19 y0 y1 y2 y3 y4 y5 y6 y7 y8) = f21e18 y0 y1 y2 y3 y4 y5 y6 y7 := hide (by kernel_rfl)
theorem f21y39_f21e19 {R : Type} (call : CallF R) (N : Nat) (y0 : Option (Nat × Nat)) (y1 : Int) (y2 : Nat) (y3 : Option (Nat × Nat)) (y4 : Nat) (y5 : Option Nat) (y6 : Int) (y7 : Int) (y8 : Bool) (J : KF R) (σ : St) : runK Try.prog call N f21c39 f21a39 J (f21e19 y0 y1 y2 y3 y4 y5 y6 y7 y8) σ = J (.exit 1) (f21e20 y2) σ := runK_exit' (by kernel_rfl) (by kernel_rfl)
theorem f21z35_f21e18 (y0 : Option (Nat × Nat)) (y1 : Int) (y2 : Nat) (y3 : Option (Nat × Nat)) (y4 : Nat) (y5 : Option Nat) (y6 : Int) (y7 : Int) : Ann.clr f21a35 (f21e18 y0 y1 y2 y3 y4 y5 y6 y7) = f21e18 y0 y1 y2 y3 y4 y5 y6 y7 := hide (by kernel_rfl)
theorem f21n37 {R : Type} (call : CallF R) (N : Nat) (J : KF R) (e : Env) (σ : St) : runK Try.prog call N f21c37 f21a37 J e σ = runK Try.prog call N f21c40 f21a40 (seqC (fun K e σ => runK Try.prog call N f21c41 f21a41 K e σ) f21a37 J) e σ := runK_seq' (by kernel_rfl) (by kernel_rfl) (by kernel_rfl)
theorem f21n40 {R : Type} (call : CallF R) (N : Nat) (J : KF R) (e : Env) (σ : St) : runK Try.prog call N f21c40 f21a40 J e σ = runK Try.prog call N f21c42 f21a42 (blockC 2 f21a40 J) e σ := runK_block' (by kernel_rfl) (by kernel_rfl)
theorem f21n42 {R : Type} (call : CallF R) (N : Nat) (J : KF R) (e : Env) (σ : St) : runK Try.prog call N f21c42 f21a42 J e σ = runK Try.prog call N f21c43 f21a43 (seqC (fun K e σ => runK Try.prog call N f21c44 f21a44 K e σ) f21a42 J) e σ := runK_seq' (by kernel_rfl) (by kernel_rfl) (by kernel_rfl)
theorem f21r43_f21e18 {R : Type} (call : CallF R) (N : Nat) (y0 : Option (Nat × Nat)) (y1 : Int) (y2 : Nat) (y3 : Option (Nat × Nat)) (y4 : Nat) (y5 : Option Nat) (y6 : Int) (y7 : Int) (J : KF R) (σ : St) :
    runK Try.prog call N f21c43 f21a43 J (f21e18 y0 y1 y2 y3 y4 y5 y6 y7) σ =
if (0 : Int) ≤ y7 ∧ y7 < (↑y4 : Int) then
  Option.bind y3 fun v0 =>
    Option.bind (St.ld σ (Prod.fst v0) (Prod.snd v0 + Int.toNat y7 * (3 : Nat))) fun v1 =>
      Option.bind (AV.toBool v1) fun v2 =>
        Option.bind (St.ld σ (Prod.fst v0) (Prod.snd v0 + Int.toNat y7 * (3 : Nat) + (1 : Nat))) fun v3 =>
          Option.bind (AV.toStr v3) fun v4 =>
            Option.bind (St.ld σ (Prod.fst v0) (Prod.snd v0 + Int.toNat y7 * (3 : Nat) + (2 : Nat))) fun v5 =>
              Option.bind (AV.toStr v5) fun v6 =>
                Option.bind
                  (St.st (St.new σ (Blk.cells [AV.bool false, AV.str (ByteArray.mk #[]), AV.str (ByteArray.mk #[])] true)) (St.next σ) (0 : Nat)
                    [AV.bool v2, AV.str v4, AV.str v6])
                  fun v7 =>
                  J Ex.normal (f21e21 y0 y1 y2 (St.next σ) y3 y4 y5 y6 y7 (some (Prod.fst v0, Prod.snd v0 + Int.toNat y7 * (3 : Nat))) v2 v4 v6) v7
else none := hide (by kernel_rfl)
theorem f21z42_f21e21 (y0 : Option (Nat × Nat)) (y1 : Int) (y2 : Nat) (y3 : Nat) (y4 : Option (Nat × Nat)) (y5 : Nat) (y6 : Option Nat) (y7 : Int) (y8 : Int) (y9 : Option (Nat × Nat)) (y10 : Bool) (y11 : ByteArray) (y12 : ByteArray) : Ann.clr f21a42 (f21e21 y0 y1 y2 y3 y4 y5 y6 y7 y8 y9 y10 y11 y12) = f21e22 y0 y1 y2 y3 y4 y5 y6 y7 y8 := hide (by kernel_rfl)
theorem f21n44 {R : Type} (call : CallF R) (N : Nat) (J : KF R) (e : Env) (σ : St) : runK Try.prog call N f21c44 f21a44 J e σ = runK Try.prog call N f21c45 f21a45 (seqC (fun K e σ => runK Try.prog call N f21c46 f21a46 K e σ) f21a44 J) e σ := runK_seq' (by kernel_rfl) (by kernel_rfl) (by kernel_rfl)
theorem f21r45_f21e22 {R : Type} (call : CallF R) (N : Nat) (y0 : Option (Nat × Nat)) (y1 : Int) (y2 : Nat) (y3 : Nat) (y4 : Option (Nat × Nat)) (y5 : Nat) (y6 : Option Nat) (y7 : Int) (y8 : Int) (J : KF R) (σ : St) :
    runK Try.prog call N f21c45 f21a45 J (f21e22 y0 y1 y2 y3 y4 y5 y6 y7 y8) σ =
Option.bind (St.ld σ y3 (1 : Nat)) fun v0 =>
  Option.bind (AV.toStr v0) fun v1 =>
    call (47 : Nat) [AV.ptr y0, AV.int IntKind.i64 y1, AV.str v1] σ fun v2 v3 =>
      Option.bind (AV.toTuple v2) fun v4 =>
        if List.length v4 = (2 : Nat) then
          Option.bind (List.head? v4) fun v5 =>
            Option.bind (AV.toAgg v5) fun v6 =>
              if List.length v6 = (3 : Nat) then
                Option.bind (List.head? v6) fun v7 =>
                  Option.bind (AV.toStr v7) fun v8 =>
                    Option.bind (List.head? (List.tail v6)) fun v9 =>
                      Option.bind (AV.toInt IntKind.i64 v9) fun v10 =>
                        Option.bind (List.head? (List.tail (List.tail v6))) fun v11 =>
                          Option.bind (AV.toSl (2 : Nat) v11) fun v12 =>
                            Option.bind (List.head? (List.tail v4)) fun v13 =>
                              Option.bind (AV.toBool v13) fun v14 =>
                                Option.bind
                                  (St.st
                                    (St.new v3
                                      (Blk.cells
                                        [AV.str (ByteArray.mk #[]), AV.int IntKind.i64 (0 : Int), AV.slice none (0 : Nat) (some (0 : Nat)) (2 : Nat)]
                                        true))
                                    (St.next v3) (0 : Nat)
                                    [AV.str v8, AV.int IntKind.i64 v10, AV.slice (Sl.o v12) (Sl.len v12) (Sl.cap v12) (2 : Nat)])
                                  fun v15 =>
                                  J Ex.normal
                                    (f21e23 y0 y1 y2 y3 (St.next v3) v14 y4 y5 y6 y7 y8 v8 v10 (Sl.o v12) (Sl.len v12) (Sl.cap v12) v14 y0 y1 y3 v1 v8
                                      v10 (Sl.o v12) (Sl.len v12) (Sl.cap v12) v14 v8 v10 (Sl.o v12) (Sl.len v12) (Sl.cap v12) v14)
                                    v15
              else none
        else none := hide (by kernel_rfl)
theorem f21z44_f21e23 (y0 : Option (Nat × Nat)) (y1 : Int) (y2 : Nat) (y3 : Nat) (y4 : Nat) (y5 : Bool) (y6 : Option (Nat × Nat)) (y7 : Nat) (y8 : Option Nat) (y9 : Int) (y10 : Int) (y11 : ByteArray) (y12 : Int) (y13 : Option (Nat × Nat)) (y14 : Nat) (y15 : Option Nat) (y16 : Bool) (y17 : Option (Nat × Nat)) (y18 : Int) (y19 : Nat) (y20 : ByteArray) (y21 : ByteArray) (y22 : Int) (y23 : Option (Nat × Nat)) (y24 : Nat) (y25 : Option Nat) (y26 : Bool) (y27 : ByteArray) (y28 : Int) (y29 : Option (Nat × Nat)) (y30 : Nat) (y31 : Option Nat) (y32 : Bool) : Ann.clr f21a44 (f21e23 y0 y1 y2 y3 y4 y5 y6 y7 y8 y9 y10 y11 y12 y13 y14 y15 y16 y17 y18 y19 y20 y21 y22 y23 y24 y25 y26 y27 y28 y29 y30 y31 y32) = f21e24 y0 y1 y2 y3 y4 y5 y6 y7 y8 y9 y10 := hide (by kernel_rfl)
theorem f21n46 {R : Type} (call : CallF R) (N : Nat) (J : KF R) (e : Env) (σ : St) : runK Try.prog call N f21c46 f21a46 J e σ = runK Try.prog call N f21c47 f21a47 (seqC (fun K e σ => runK Try.prog call N f21c48 f21a48 K e σ) f21a46 J) e σ := runK_seq' (by kernel_rfl) (by kernel_rfl) (by kernel_rfl)
theorem f21r47_f21e24 {R : Type} (call : CallF R) (N : Nat) (y0 : Option (Nat × Nat)) (y1 : Int) (y2 : Nat) (y3 : Nat) (y4 : Nat) (y5 : Bool) (y6 : Option (Nat × Nat)) (y7 : Nat) (y8 : Option Nat) (y9 : Int) (y10 : Int) (J : KF R) (σ : St) :
    runK Try.prog call N f21c47 f21a47 J (f21e24 y0 y1 y2 y3 y4 y5 y6 y7 y8 y9 y10) σ =
Option.bind (St.ld σ y3 (0 : Nat)) fun v0 =>
  Option.bind (AV.toBool v0) fun v1 =>
    if v1 = true then J Ex.normal (f21e25 y0 y1 y2 y3 y4 y5 y6 y7 y8 y9 y10 y3 v1 true y5 y5) σ
    else J Ex.normal (f21e26 y0 y1 y2 y3 y4 y5 y6 y7 y8 y9 y10 y3 v1 false false) σ := hide (by kernel_rfl)
theorem f21z46_f21e25 (y0 : Option (Nat × Nat)) (y1 : Int) (y2 : Nat) (y3 : Nat) (y4 : Nat) (y5 : Bool) (y6 : Option (Nat × Nat)) (y7 : Nat) (y8 : Option Nat) (y9 : Int) (y10 : Int) (y11 : Nat) (y12 : Bool) (y13 : Bool) (y14 : Bool) (y15 : Bool) : Ann.clr f21a46 (f21e25 y0 y1 y2 y3 y4 y5 y6 y7 y8 y9 y10 y11 y12 y13 y14 y15) = f21e27 y0 y1 y2 y4 y6 y7 y8 y9 y10 y15 := hide (by kernel_rfl)
theorem f21x48_f21e27 {R : Type} (call : CallF R) (N : Nat) (y0 : Option (Nat × Nat)) (y1 : Int) (y2 : Nat) (y3 : Nat) (y4 : Option (Nat × Nat)) (y5 : Nat) (y6 : Option Nat) (y7 : Int) (y8 : Int) (y9 : Bool) (J : KF R) (σ : St) : runK Try.prog call N f21c48 f21a48 J (f21e27 y0 y1 y2 y3 y4 y5 y6 y7 y8 y9) σ = if y9 = true then runK Try.prog call N f21c49 f21a49 (condC f21a48 J) (f21e27 y0 y1 y2 y3 y4 y5 y6 y7 y8 y9) σ else runK Try.prog call N f21c50 f21a50 (condC f21a48 J) (f21e27 y0 y1 y2 y3 y4 y5 y6 y7 y8 y9) σ := runK_cond' (o := Operand.tmp (61 : Nat)) (by kernel_rfl) (by kernel_rfl) (by kernel_rfl) (by kernel_rfl)
theorem f21n49 {R : Type} (call : CallF R) (N : Nat) (J : KF R) (e : Env) (σ : St) : runK Try.prog call N f21c49 f21a49 J e σ = runK Try.prog call N f21c51 f21a51 (seqC (fun K e σ => runK Try.prog call N f21c52 f21a52 K e σ) f21a49 J) e σ := runK_seq' (by kernel_rfl) (by kernel_rfl) (by kernel_rfl)
theorem f21r51_f21e27 {R : Type} (call : CallF R) (N : Nat) (y0 : Option (Nat × Nat)) (y1 : Int) (y2 : Nat) (y3 : Nat) (y4 : Option (Nat × Nat)) (y5 : Nat) (y6 : Option Nat) (y7 : Int) (y8 : Int) (y9 : Bool) (J : KF R) (σ : St) :
    runK Try.prog call N f21c51 f21a51 J (f21e27 y0 y1 y2 y3 y4 y5 y6 y7 y8 y9) σ =
Option.bind (St.ld σ y3 (0 : Nat)) fun v0 =>
  Option.bind (AV.toStr v0) fun v1 =>
    Option.bind (St.ld σ y3 (1 : Nat)) fun v2 =>
      Option.bind (AV.toInt IntKind.i64 v2) fun v3 =>
        Option.bind (St.ld σ y3 (2 : Nat)) fun v4 =>
          Option.bind (AV.toSl (2 : Nat) v4) fun v5 =>
            Option.bind (St.st σ y2 (0 : Nat) [AV.str v1, AV.int IntKind.i64 v3, AV.slice (Sl.o v5) (Sl.len v5) (Sl.cap v5) (2 : Nat)]) fun v6 =>
              J Ex.normal (f21e28 y0 y1 y2 true y3 y4 y5 y6 y7 y8 y9 v1 v3 (Sl.o v5) (Sl.len v5) (Sl.cap v5)) v6 := hide (by kernel_rfl)
theorem f21z49_f21e28 (y0 : Option (Nat × Nat)) (y1 : Int) (y2 : Nat) (y3 : Bool) (y4 : Nat) (y5 : Option (Nat × Nat)) (y6 : Nat) (y7 : Option Nat) (y8 : Int) (y9 : Int) (y10 : Bool) (y11 : ByteArray) (y12 : Int) (y13 : Option (Nat × Nat)) (y14 : Nat) (y15 : Option Nat) : Ann.clr f21a49 (f21e28 y0 y1 y2 y3 y4 y5 y6 y7 y8 y9 y10 y11 y12 y13 y14 y15) = f21e7 y2 y3 := hide (by kernel_rfl)
theorem f21y52_f21e7 {R : Type} (call : CallF R) (N : Nat) (y0 : Nat) (y1 : Bool) (J : KF R) (σ : St) : runK Try.prog call N f21c52 f21a52 J (f21e7 y0 y1) σ = J .ret (f21e7 y0 y1) σ := runK_ret' (by kernel_rfl) (by kernel_rfl)
theorem f21n50 {R : Type} (call : CallF R) (N : Nat) (J : KF R) (e : Env) (σ : St) : runK Try.prog call N f21c50 f21a50 J e σ = J .normal e σ := runK_skip' (by kernel_rfl)
theorem f21z48_f21e27 (y0 : Option (Nat × Nat)) (y1 : Int) (y2 : Nat) (y3 : Nat) (y4 : Option (Nat × Nat)) (y5 : Nat) (y6 : Option Nat) (y7 : Int) (y8 : Int) (y9 : Bool) : Ann.clr f21a48 (f21e27 y0 y1 y2 y3 y4 y5 y6 y7 y8 y9) = f21e18 y0 y1 y2 y4 y5 y6 y7 y8 := hide (by kernel_rfl)
theorem f21z46_f21e26 (y0 : Option (Nat × Nat)) (y1 : Int) (y2 : Nat) (y3 : Nat) (y4 : Nat) (y5 : Bool) (y6 : Option (Nat × Nat)) (y7 : Nat) (y8 : Option Nat) (y9 : Int) (y10 : Int) (y11 : Nat) (y12 : Bool) (y13 : Bool) (y14 : Bool) : Ann.clr f21a46 (f21e26 y0 y1 y2 y3 y4 y5 y6 y7 y8 y9 y10 y11 y12 y13 y14) = f21e27 y0 y1 y2 y4 y6 y7 y8 y9 y10 y14 := hide (by kernel_rfl)
theorem f21z40_f21e18 (y0 : Option (Nat × Nat)) (y1 : Int) (y2 : Nat) (y3 : Option (Nat × Nat)) (y4 : Nat) (y5 : Option Nat) (y6 : Int) (y7 : Int) : Ann.clr f21a40 (f21e18 y0 y1 y2 y3 y4 y5 y6 y7) = f21e18 y0 y1 y2 y3 y4 y5 y6 y7 := hide (by kernel_rfl)
theorem f21z37_f21e18 (y0 : Option (Nat × Nat)) (y1 : Int) (y2 : Nat) (y3 : Option (Nat × Nat)) (y4 : Nat) (y5 : Option Nat) (y6 : Int) (y7 : Int) : Ann.clr f21a37 (f21e18 y0 y1 y2 y3 y4 y5 y6 y7) = f21e18 y0 y1 y2 y3 y4 y5 y6 y7 := hide (by kernel_rfl)
theorem f21r41_f21e18 {R : Type} (call : CallF R) (N : Nat) (y0 : Option (Nat × Nat)) (y1 : Int) (y2 : Nat) (y3 : Option (Nat × Nat)) (y4 : Nat) (y5 : Option Nat) (y6 : Int) (y7 : Int) (J : KF R) (σ : St) :
    runK Try.prog call N f21c41 f21a41 J (f21e18 y0 y1 y2 y3 y4 y5 y6 y7) σ =
J Ex.normal (f21e29 y0 y1 y2 y3 y4 y5 y6 (IntKind.wrap IntKind.i64 (y7 + (1 : Int))) (IntKind.wrap IntKind.i64 (y7 + (1 : Int)))) σ := hide (by kernel_rfl)
theorem f21z32_f21e29 (y0 : Option (Nat × Nat)) (y1 : Int) (y2 : Nat) (y3 : Option (Nat × Nat)) (y4 : Nat) (y5 : Option Nat) (y6 : Int) (y7 : Int) (y8 : Int) : Ann.clr f21a32 (f21e29 y0 y1 y2 y3 y4 y5 y6 y7 y8) = f21e18 y0 y1 y2 y3 y4 y5 y6 y7 := hide (by kernel_rfl)
theorem f21z31_f21e20 (y0 : Nat) : Ann.clr f21a31 (f21e20 y0) = f21e20 y0 := hide (by kernel_rfl)
theorem f21z4_f21e20 (y0 : Nat) : Ann.clr f21a4 (f21e20 y0) = f21e20 y0 := hide (by kernel_rfl)
theorem f21n29 {R : Type} (call : CallF R) (N : Nat) (J : KF R) (e : Env) (σ : St) : runK Try.prog call N f21c29 f21a29 J e σ = runK Try.prog call N f21c53 f21a53 (seqC (fun K e σ => runK Try.prog call N f21c54 f21a54 K e σ) f21a29 J) e σ := runK_seq' (by kernel_rfl) (by kernel_rfl) (by kernel_rfl)
theorem f21r53_f21e20 {R : Type} (call : CallF R) (N : Nat) (y0 : Nat) (J : KF R) (σ : St) :
    runK Try.prog call N f21c53 f21a53 J (f21e20 y0) σ =
Option.bind (St.st σ y0 (0 : Nat) [AV.str (ByteArray.mk #[]), AV.int IntKind.i64 (0 : Int), AV.slice none (0 : Nat) (some (0 : Nat)) (2 : Nat)])
  fun v0 => J Ex.normal (f21e30 y0 false (ByteArray.mk #[]) (0 : Int) none (0 : Nat) (some (0 : Nat))) v0 := hide (by kernel_rfl)
theorem f21z29_f21e30 (y0 : Nat) (y1 : Bool) (y2 : ByteArray) (y3 : Int) (y4 : Option (Nat × Nat)) (y5 : Nat) (y6 : Option Nat) : Ann.clr f21a29 (f21e30 y0 y1 y2 y3 y4 y5 y6) = f21e7 y0 y1 := hide (by kernel_rfl)
theorem f21y54_f21e7 {R : Type} (call : CallF R) (N : Nat) (y0 : Nat) (y1 : Bool) (J : KF R) (σ : St) : runK Try.prog call N f21c54 f21a54 J (f21e7 y0 y1) σ = J .ret (f21e7 y0 y1) σ := runK_ret' (by kernel_rfl) (by kernel_rfl)
theorem f21b_f21e7_r {R : Type} (y0 : Nat) (y1 : Bool) (σ : St) (K : AV → St → Option R) : bodyC Try.prog f21rs K (Ex.ret) (f21e7 y0 y1) σ =
Option.bind (St.ld σ y0 (0 : Nat)) fun v0 =>
  Option.bind (AV.toStr v0) fun v1 =>
    Option.bind (St.ld σ y0 (1 : Nat)) fun v2 =>
      Option.bind (AV.toInt IntKind.i64 v2) fun v3 =>
        Option.bind (St.ld σ y0 (2 : Nat)) fun v4 =>
          Option.bind (AV.toSl (2 : Nat) v4) fun v5 =>
            K (AV.tuple [AV.agg [AV.str v1, AV.int IntKind.i64 v3, AV.slice (Sl.o v5) (Sl.len v5) (Sl.cap v5) (2 : Nat)], AV.bool y1]) σ := hide (by kernel_rfl)
attribute [go_sem] f21_eq f21n0 f21r1_f21e0 f21z0_f21e1 f21n2 f21n3 f21n5 f21r6_f21e2 f21z5_f21e3 f21x7_f21e5 f21n8 f21r10_f21e5 f21z8_f21e6 f21y11_f21e7 f21n9 f21r12_f21e5 f21z9_f21e8 f21x13_f21e9 f21n14 f21r16_f21e9 f21z14_f21e10 f21n17 f21n18 f21r20_f21e11 f21z18_f21e12 f21x21_f21e13 f21n22 f21r24_f21e13 f21z22_f21e14 f21y25_f21e7 f21n23 f21z21_f21e13 f21z17_f21e15 f21n19 f21r26_f21e15 f21z19_f21e16 f21y27_f21e7 f21n15 f21z13_f21e9 f21z7_f21e2 f21z5_f21e4 f21z3_f21e2 f21z2_f21e2 f21n4 f21n28 f21r30_f21e2 f21z28_f21e17 f21n31 f21L32_eq f21z32_f21e18 f21l32_f21e18 f21n33 f21r34_f21e18 f21z33_f21e19 f21n35 f21x36_f21e19 f21n38 f21z36_f21e19 f21y39_f21e19 f21z35_f21e18 f21n37 f21n40 f21n42 f21r43_f21e18 f21z42_f21e21 f21n44 f21r45_f21e22 f21z44_f21e23 f21n46 f21r47_f21e24 f21z46_f21e25 f21x48_f21e27 f21n49 f21r51_f21e27 f21z49_f21e28 f21y52_f21e7 f21n50 f21z48_f21e27 f21z46_f21e26 f21z40_f21e18 f21z37_f21e18 f21r41_f21e18 f21z32_f21e29 f21z31_f21e20 f21z4_f21e20 f21n29 f21r53_f21e20 f21z29_f21e30 f21y54_f21e7 f21b_f21e7_r

end Go.Proofs.Ytmgacgonoodkfaa
