/- What the machine does with each function, in plain text. PRINTED by a program of this workplace; Lean checks it. -/
import Derived.Test.YtdebkakkeaanaaaA27
import Derived.Test.YtdebkakkeaanaaaProg
import Derived.KernelRfl
namespace Go.Proofs.Ytdebkakkeaanaaa
open Go.AM
set_option maxRecDepth 100000
set_option linter.unusedVariables false

def ann7 : Ann := Ann.m (1 : Nat) Ann.o (Ann.m (9 : Nat) Ann.o (Ann.m (41 : Nat) Ann.o (Ann.m (169 : Nat) Ann.o (Ann.m (4 : Nat) Ann.o (Ann.m (4 : Nat) Ann.o Ann.o)))))
def ann10 : Ann := Ann.m (9 : Nat) Ann.o
  (Ann.m (9 : Nat)
    (Ann.m (9 : Nat)
      (Ann.m (41 : Nat) Ann.o
        (Ann.m (9 : Nat) (Ann.m (16 : Nat) Ann.o (Ann.m (16 : Nat) Ann.o Ann.o))
          (Ann.m (2097161 : Nat) Ann.o
            (Ann.m (9 : Nat) (Ann.m (16 : Nat) Ann.o (Ann.m (16 : Nat) Ann.o Ann.o))
              (Ann.m (67108873 : Nat) Ann.o
                (Ann.m (9 : Nat) (Ann.m (16 : Nat) Ann.o (Ann.m (16 : Nat) Ann.o Ann.o))
                  (Ann.m (536870921 : Nat) Ann.o
                    (Ann.m (9 : Nat) (Ann.m (0 : Nat) Ann.o (Ann.m (16 : Nat) Ann.o (Ann.m (16 : Nat) Ann.o Ann.o))) Ann.o))))))))
      Ann.o)
    (Ann.m (0 : Nat) Ann.o (Ann.m (16 : Nat) Ann.o (Ann.m (16 : Nat) Ann.o Ann.o))))
noncomputable def f10K0 {R : Type} (call : CallF R) (N : Nat) (K : AV → St → Option R) : KF R := fun v0 v1 v2 =>
  match v0 with
  | Ex.normal =>
    runK Try.prog call N (subCode [(1 : Nat), (1 : Nat)] (bodyOf Try.prog (10 : Nat)))
      (subAnn [(1 : Nat), (0 : Nat), (0 : Nat), (1 : Nat), (1 : Nat), (1 : Nat), (1 : Nat), (1 : Nat), (1 : Nat), (1 : Nat), (0 : Nat)] ann10)
      (fun v4 v5 v6 =>
        match v4 with
        | Ex.exit v7 => none
        | v7 => resK Try.prog v5 v6 (Array.toList #[ResultVar.tmp (4 : Nat)]) fun v8 => K (packRes v8) v6)
      (Ann.clr (subAnn [(1 : Nat)] ann10) v1) v2
  | v3 =>
    (fun v4 v5 v6 =>
        match v4 with
        | Ex.exit v7 => none
        | v7 => resK Try.prog v5 v6 (Array.toList #[ResultVar.tmp (4 : Nat)]) fun v8 => K (packRes v8) v6)
      v3 v1 v2
noncomputable def f10K1 {R : Type} (call : CallF R) (N : Nat) (K : AV → St → Option R) : KF R := blockC (0 : Nat) (subAnn [(1 : Nat), (0 : Nat)] ann10) (f10K0 call N K)
def f10e0 (y0 : Int) : Env := [AV.undef, AV.undef, AV.undef, AV.undef, AV.int IntKind.i64 y0, AV.undef, AV.undef, AV.undef, AV.undef, AV.undef, AV.undef, AV.undef, AV.undef,
  AV.undef, AV.undef, AV.undef, AV.undef, AV.undef, AV.undef, AV.undef, AV.undef, AV.undef, AV.undef, AV.undef, AV.undef, AV.undef, AV.undef,
  AV.undef, AV.undef, AV.undef, AV.undef, AV.undef, AV.undef, AV.undef, AV.undef, AV.undef, AV.undef, AV.undef, AV.undef, AV.undef, AV.undef,
  AV.undef, AV.undef, AV.undef, AV.undef, AV.undef, AV.undef, AV.undef, AV.undef, AV.undef, AV.undef, AV.undef, AV.undef, AV.undef, AV.undef]
def f10e1 (y0 : Option (Nat × Nat)) (y1 : Nat) : Env := [AV.ptr y0, AV.undef, AV.undef, AV.ptr (some (y1, (0 : Nat))), AV.undef, AV.undef, AV.undef, AV.undef, AV.undef, AV.undef, AV.undef, AV.undef,
  AV.undef, AV.undef, AV.undef, AV.undef, AV.undef, AV.undef, AV.undef, AV.undef, AV.undef, AV.undef, AV.undef, AV.undef, AV.undef, AV.undef,
  AV.undef, AV.undef, AV.undef, AV.undef, AV.undef, AV.undef, AV.undef, AV.undef, AV.undef, AV.undef, AV.undef, AV.undef, AV.undef, AV.undef,
  AV.undef, AV.undef, AV.undef, AV.undef, AV.undef, AV.undef, AV.undef, AV.undef, AV.undef, AV.undef, AV.undef, AV.undef, AV.undef, AV.undef,
  AV.undef]
def ann11 : Ann := Ann.m (19 : Nat) Ann.o
  (Ann.m (211 : Nat) Ann.o
    (Ann.m (208 : Nat) (Ann.m (65747 : Nat) Ann.o (Ann.m (208 : Nat) (Ann.m (465 : Nat) Ann.o (Ann.m (465 : Nat) Ann.o Ann.o)) Ann.o))
      (Ann.m (48 : Nat) Ann.o (Ann.m (48 : Nat) Ann.o Ann.o))))
noncomputable def f11K0 {R : Type} (call : CallF R) (N : Nat) (K : AV → St → Option R) : KF R := fun v0 v1 v2 =>
  match v0 with
  | Ex.normal =>
    runK Try.prog call N (subCode [(1 : Nat), (1 : Nat), (1 : Nat)] (bodyOf Try.prog (11 : Nat))) (subAnn [(1 : Nat), (1 : Nat), (1 : Nat)] ann11)
      (fun v4 v5 v6 =>
        match v4 with
        | Ex.exit v7 => none
        | v7 => resK Try.prog v5 v6 (Array.toList #[ResultVar.cell (4 : Nat) (30 : Nat), ResultVar.tmp (5 : Nat)]) fun v8 => K (packRes v8) v6)
      (Ann.clr (subAnn [(1 : Nat), (1 : Nat)] ann11) v1) v2
  | v3 =>
    (fun v4 v5 v6 =>
        match v4 with
        | Ex.exit v7 => none
        | v7 => resK Try.prog v5 v6 (Array.toList #[ResultVar.cell (4 : Nat) (30 : Nat), ResultVar.tmp (5 : Nat)]) fun v8 => K (packRes v8) v6)
      v3 v1 v2
def f11e0 (y0 : Nat) (y1 : Nat) (y2 : Int) : Env := [AV.undef, AV.undef, AV.undef, AV.undef, AV.ptr (some (y0, (0 : Nat))), AV.undef, AV.ptr (some (y1, (0 : Nat))), AV.int IntKind.i64 y2, AV.undef,
  AV.undef, AV.undef, AV.undef, AV.undef, AV.undef, AV.undef, AV.undef, AV.undef, AV.undef, AV.undef, AV.undef, AV.undef, AV.undef, AV.undef,
  AV.undef, AV.undef, AV.undef, AV.undef, AV.undef, AV.undef, AV.undef, AV.undef, AV.undef, AV.undef, AV.undef, AV.undef, AV.undef, AV.undef,
  AV.undef, AV.undef, AV.undef, AV.undef, AV.undef, AV.undef, AV.undef, AV.undef, AV.undef, AV.undef, AV.undef, AV.undef, AV.undef, AV.undef]
def ann12 : Ann := Ann.m (19 : Nat) Ann.o
  (Ann.m (19 : Nat) (Ann.m (8211 : Nat) Ann.o (Ann.m (19 : Nat) (Ann.m (48 : Nat) Ann.o (Ann.m (48 : Nat) Ann.o Ann.o)) Ann.o))
    (Ann.m (48 : Nat) Ann.o (Ann.m (48 : Nat) Ann.o Ann.o)))
noncomputable def f12K0 {R : Type} (call : CallF R) (N : Nat) (K : AV → St → Option R) : KF R := fun v0 v1 v2 =>
  match v0 with
  | Ex.normal =>
    runK Try.prog call N (subCode [(1 : Nat), (1 : Nat)] (bodyOf Try.prog (12 : Nat))) (subAnn [(1 : Nat), (0 : Nat), (1 : Nat), (0 : Nat)] ann12)
      (fun v4 v5 v6 =>
        match v4 with
        | Ex.exit v7 => none
        | v7 => resK Try.prog v5 v6 (Array.toList #[ResultVar.cell (4 : Nat) (30 : Nat), ResultVar.tmp (5 : Nat)]) fun v8 => K (packRes v8) v6)
      (Ann.clr (subAnn [(1 : Nat)] ann12) v1) v2
  | v3 =>
    (fun v4 v5 v6 =>
        match v4 with
        | Ex.exit v7 => none
        | v7 => resK Try.prog v5 v6 (Array.toList #[ResultVar.cell (4 : Nat) (30 : Nat), ResultVar.tmp (5 : Nat)]) fun v8 => K (packRes v8) v6)
      v3 v1 v2
def f12e0 (y0 : Option (Nat × Nat)) (y1 : Int) (y2 : Nat) : Env := [AV.ptr y0, AV.int IntKind.i64 y1, AV.undef, AV.undef, AV.ptr (some (y2, (0 : Nat))), AV.undef, AV.undef, AV.undef, AV.undef, AV.undef, AV.undef,
  AV.undef, AV.undef, AV.undef, AV.undef, AV.undef, AV.undef, AV.undef, AV.undef, AV.undef, AV.undef, AV.undef]
def ann13 : Ann := Ann.m (1 : Nat) Ann.o
  (Ann.m (1 : Nat) (Ann.m (17 : Nat) Ann.o (Ann.m (1 : Nat) (Ann.m (4 : Nat) Ann.o (Ann.m (4 : Nat) Ann.o Ann.o)) Ann.o))
    (Ann.m (4 : Nat) Ann.o (Ann.m (4 : Nat) Ann.o Ann.o)))
noncomputable def f13K0 {R : Type} (call : CallF R) (N : Nat) (K : AV → St → Option R) : KF R := fun v0 v1 v2 =>
  match v0 with
  | Ex.normal =>
    runK Try.prog call N (subCode [(1 : Nat), (1 : Nat)] (bodyOf Try.prog (13 : Nat))) (subAnn [(1 : Nat), (0 : Nat), (1 : Nat), (0 : Nat)] ann13)
      (fun v4 v5 v6 =>
        match v4 with
        | Ex.exit v7 => none
        | v7 => resK Try.prog v5 v6 (Array.toList #[ResultVar.tmp (2 : Nat)]) fun v8 => K (packRes v8) v6)
      (Ann.clr (subAnn [(1 : Nat)] ann13) v1) v2
  | v3 =>
    (fun v4 v5 v6 =>
        match v4 with
        | Ex.exit v7 => none
        | v7 => resK Try.prog v5 v6 (Array.toList #[ResultVar.tmp (2 : Nat)]) fun v8 => K (packRes v8) v6)
      v3 v1 v2
def f13e0 (y0 : Option (Nat × Nat)) : Env := [AV.ptr y0, AV.undef, AV.undef, AV.undef, AV.undef, AV.undef, AV.undef, AV.undef, AV.undef, AV.undef]
def ann14 : Ann := Ann.m (3 : Nat) Ann.o
  (Ann.m (97 : Nat) Ann.o
    (Ann.m (33 : Nat) (Ann.m (16481 : Nat) Ann.o (Ann.m (33 : Nat) (Ann.m (16 : Nat) Ann.o (Ann.m (16 : Nat) Ann.o Ann.o)) Ann.o))
      (Ann.m (16 : Nat) Ann.o (Ann.m (16 : Nat) Ann.o Ann.o))))
noncomputable def f14K0 {R : Type} (call : CallF R) (N : Nat) (K : AV → St → Option R) : KF R := fun v0 v1 v2 =>
  match v0 with
  | Ex.normal =>
    runK Try.prog call N (subCode [(1 : Nat), (1 : Nat), (1 : Nat)] (bodyOf Try.prog (14 : Nat)))
      (subAnn [(1 : Nat), (1 : Nat), (0 : Nat), (1 : Nat), (0 : Nat)] ann14)
      (fun v4 v5 v6 =>
        match v4 with
        | Ex.exit v7 => none
        | v7 => resK Try.prog v5 v6 (Array.toList #[ResultVar.tmp (4 : Nat)]) fun v8 => K (packRes v8) v6)
      (Ann.clr (subAnn [(1 : Nat), (1 : Nat)] ann14) v1) v2
  | v3 =>
    (fun v4 v5 v6 =>
        match v4 with
        | Ex.exit v7 => none
        | v7 => resK Try.prog v5 v6 (Array.toList #[ResultVar.tmp (4 : Nat)]) fun v8 => K (packRes v8) v6)
      v3 v1 v2
def f14e0 (y0 : Option (Nat × Nat)) (y1 : Nat) : Env := [AV.ptr y0, AV.undef, AV.undef, AV.undef, AV.undef, AV.ptr (some (y1, (0 : Nat))), AV.undef, AV.undef, AV.undef, AV.undef, AV.undef, AV.undef,
  AV.undef, AV.undef, AV.undef, AV.undef, AV.undef, AV.undef, AV.undef]
def ann : FuncId → Ann
  | 7 => ann7
  | 10 => ann10
  | 11 => ann11
  | 12 => ann12
  | 13 => ann13
  | 14 => ann14
  | _ => .o

/- function 7 -/
theorem f7_eq {R : Type} (call : CallF R) (N : Nat) (y0 : Int) (σ : St) (K : AV → St → Option R) :
    bodyK Try.prog call N ann 7 [AV.int IntKind.i64 y0] σ K =
call (11 : Nat) [AV.ptr none, AV.int IntKind.i64 y0] σ fun v0 v1 =>
  Option.bind (AV.toTuple v0) fun v2 =>
    if List.length v2 = (2 : Nat) then
      Option.bind (List.head? v2) fun v3 =>
        Option.bind (AV.toAgg v3) fun v4 =>
          if List.length v4 = (4 : Nat) then
            Option.bind (List.head? v4) fun v5 =>
              Option.bind (AV.toInt IntKind.i64 v5) fun v6 =>
                Option.bind (List.head? (List.tail v4)) fun v7 =>
                  Option.bind (AV.toInt IntKind.i64 v7) fun v8 =>
                    Option.bind (List.head? (List.tail (List.tail v4))) fun v9 =>
                      Option.bind (AV.toInt IntKind.i64 v9) fun v10 =>
                        Option.bind (List.head? (List.tail (List.tail (List.tail v4)))) fun v11 =>
                          Option.bind (AV.toStr v11) fun v12 =>
                            Option.bind (List.head? (List.tail v2)) fun v13 =>
                              Option.bind (AV.toInt IntKind.i64 v13) fun v14 =>
                                Option.bind
                                  (St.st
                                    (St.new v1
                                      (Blk.cells
                                        [AV.int IntKind.i64 (0 : Int), AV.int IntKind.i64 (0 : Int), AV.int IntKind.i64 (0 : Int),
                                          AV.str (ByteArray.mk #[])]
                                        true))
                                    (St.next v1) (0 : Nat) [AV.int IntKind.i64 v6, AV.int IntKind.i64 v8, AV.int IntKind.i64 v10, AV.str v12])
                                  fun v15 =>
                                  call (12 : Nat) [AV.ptr none, AV.int IntKind.i64 y0] v15 fun v16 v17 =>
                                    Option.bind (AV.toTuple v16) fun v18 =>
                                      if List.length v18 = (2 : Nat) then
                                        Option.bind (List.head? v18) fun v19 =>
                                          Option.bind (AV.toAgg v19) fun v20 =>
                                            if List.length v20 = (4 : Nat) then
                                              Option.bind (List.head? v20) fun v21 =>
                                                Option.bind (AV.toInt IntKind.i64 v21) fun v22 =>
                                                  Option.bind (List.head? (List.tail v20)) fun v23 =>
                                                    Option.bind (AV.toInt IntKind.i64 v23) fun v24 =>
                                                      Option.bind (List.head? (List.tail (List.tail v20))) fun v25 =>
                                                        Option.bind (AV.toInt IntKind.i64 v25) fun v26 =>
                                                          Option.bind (List.head? (List.tail (List.tail (List.tail v20)))) fun v27 =>
                                                            Option.bind (AV.toStr v27) fun v28 =>
                                                              Option.bind (List.head? (List.tail v18)) fun v29 =>
                                                                Option.bind (AV.toInt IntKind.i64 v29) fun v30 =>
                                                                  Option.bind
                                                                    (St.st
                                                                      (St.new v17
                                                                        (Blk.cells
                                                                          [AV.int IntKind.i64 (0 : Int), AV.int IntKind.i64 (0 : Int),
                                                                            AV.int IntKind.i64 (0 : Int), AV.str (ByteArray.mk #[])]
                                                                          true))
                                                                      (St.next v17) (0 : Nat)
                                                                      [AV.int IntKind.i64 v22, AV.int IntKind.i64 v24, AV.int IntKind.i64 v26,
                                                                        AV.str v28])
                                                                    fun v31 =>
                                                                    call (10 : Nat)
                                                                      [AV.ptr none,
                                                                        AV.agg
                                                                          [AV.int IntKind.i64 (0 : Int), AV.int IntKind.i64 (0 : Int),
                                                                            AV.int IntKind.i64 (0 : Int), AV.str (ByteArray.mk #[])]]
                                                                      v31 fun v32 v33 =>
                                                                      Option.bind (AV.toInt IntKind.i64 v32) fun v34 =>
                                                                        if (v34 == (5 : Int)) = true then
                                                                          if (v14 == (6 : Int)) = true then
                                                                            if (v30 == (6 : Int)) = true then
                                                                              call (14 : Nat) [AV.ptr none, AV.int IntKind.i64 y0] v33 fun v35 v36 =>
                                                                                Option.bind (AV.toInt IntKind.i64 v35) fun v37 =>
                                                                                  if (v37 == (6 : Int)) = true then
                                                                                    call (16 : Nat)
                                                                                      [AV.ptr none, AV.int IntKind.i64 y0, AV.int IntKind.i64 y0] v36
                                                                                      fun v38 v39 =>
                                                                                      Option.bind (AV.toSl (1 : Nat) v38) fun v40 =>
                                                                                        if ((↑(Sl.len v40) : Int) == (0 : Int)) = true then
                                                                                          call (20 : Nat) [AV.ptr none, AV.int IntKind.i64 y0] v39
                                                                                            fun v41 v42 =>
                                                                                            Option.bind (AV.toInt IntKind.i64 v41) fun v43 =>
                                                                                              if (v43 == (0 : Int)) = true then
                                                                                                call (13 : Nat) [AV.ptr none] v42 fun v44 v45 =>
                                                                                                  Option.bind (AV.toInt IntKind.i64 v44) fun v46 =>
                                                                                                    if (v46 == (0 : Int)) = true then
                                                                                                      call (15 : Nat) [AV.ptr none] v45 fun v47 v48 =>
                                                                                                        Option.bind (AV.toInt IntKind.i64 v47)
                                                                                                          fun v49 =>
                                                                                                          if (v49 == (0 : Int)) = true then
                                                                                                            call (9 : Nat) [] v48 fun v50 v51 =>
                                                                                                              Option.bind (AV.toBool v50) fun v52 =>
                                                                                                                K (AV.bool v52) v51
                                                                                                          else K (AV.bool false) v48
                                                                                                    else K (AV.bool false) v45
                                                                                              else K (AV.bool false) v42
                                                                                        else K (AV.bool false) v39
                                                                                  else K (AV.bool false) v36
                                                                            else K (AV.bool false) v33
                                                                          else K (AV.bool false) v33
                                                                        else K (AV.bool false) v33
                                            else none
                                      else none
          else none
    else none := by kernel_rfl

/- function 10 -/
theorem f10_eq {R : Type} (call : CallF R) (N : Nat) (y0 : Option (Nat × Nat)) (y1 : Int) (y2 : Int) (y3 : Int) (y4 : ByteArray) (σ : St) (K : AV → St → Option R) :
    bodyK Try.prog call N ann 10 [AV.ptr y0, AV.agg [AV.int IntKind.i64 y1, AV.int IntKind.i64 y2, AV.int IntKind.i64 y3, AV.str y4]] σ K =
Option.bind (St.ld (St.new σ (Blk.cells [AV.int IntKind.i64 y1, AV.int IntKind.i64 y2, AV.int IntKind.i64 y3, AV.str y4] true)) (St.next σ) (0 : Nat))
  fun v0 =>
  Option.bind (AV.toInt IntKind.i64 v0) fun v1 =>
    call (21 : Nat) [AV.int IntKind.i64 v1]
      (St.new σ (Blk.cells [AV.int IntKind.i64 y1, AV.int IntKind.i64 y2, AV.int IntKind.i64 y3, AV.str y4] true)) fun v2 v3 =>
      Option.bind (AV.toBool v2) fun v4 =>
        if (!v4) = true then f10K1 call N K Ex.ret (f10e0 (1 : Int)) v3
        else
          Option.bind (St.ld v3 (St.next σ) (1 : Nat)) fun v5 =>
            Option.bind (AV.toInt IntKind.i64 v5) fun v6 =>
              call (21 : Nat) [AV.int IntKind.i64 v6] v3 fun v7 v8 =>
                Option.bind (AV.toBool v7) fun v9 =>
                  if (!v9) = true then f10K1 call N K Ex.ret (f10e0 (1 : Int)) v8
                  else
                    Option.bind (St.ld v8 (St.next σ) (2 : Nat)) fun v10 =>
                      Option.bind (AV.toInt IntKind.i64 v10) fun v11 =>
                        if decide (v11 < (0 : Int)) = true then f10K1 call N K Ex.ret (f10e0 (1 : Int)) v8
                        else
                          Option.bind (St.ld v8 (St.next σ) (3 : Nat)) fun v12 =>
                            Option.bind (AV.toStr v12) fun v13 =>
                              if decide ((↑(ByteArray.size v13) : Int) > (1048576 : Int)) = true then f10K1 call N K Ex.ret (f10e0 (2 : Int)) v8
                              else
                                if Option.isNone y0 = true then f10K1 call N K Ex.ret (f10e0 (5 : Int)) v8
                                else
                                  Option.bind y0 fun v14 =>
                                    Option.bind (St.ld v8 (Prod.fst v14) (Prod.snd v14)) fun v15 =>
                                      Option.bind (AV.toSl (4 : Nat) v15) fun v16 =>
                                        if ((↑(Sl.len v16) : Int) == (4096 : Int)) = true then
                                          Option.bind y0 fun v17 =>
                                            Option.bind (St.ld v8 (Prod.fst v17) (Prod.snd v17 + (1 : Nat))) fun v18 =>
                                              Option.bind (AV.toInt IntKind.i64 v18) fun v19 =>
                                                Option.bind y0 fun v20 =>
                                                  Option.bind
                                                    (St.st v8 (Prod.fst v20) (Prod.snd v20 + (1 : Nat))
                                                      [AV.int IntKind.i64
                                                          (if (1099511627776 : Int) < IntKind.wrap IntKind.i64 (v19 + (1 : Int)) then
                                                            (1099511627776 : Int)
                                                          else IntKind.wrap IntKind.i64 (v19 + (1 : Int)))])
                                                    fun v21 => f10K1 call N K Ex.ret (f10e0 (5 : Int)) v21
                                        else f10K1 call N K Ex.normal (f10e1 y0 (St.next σ)) v8 := by kernel_rfl
theorem f10K1_eq {R : Type} (call : CallF R) (N : Nat) (y0 : Int) (σ : St) (K : AV → St → Option R) :
    f10K1 call N K (Ex.ret) (f10e0 y0) σ =
K (AV.int IntKind.i64 y0) σ :=
  blockC_ret 0 (subAnn [(1 : Nat), (0 : Nat)] ann10) (f10K0 call N K) (f10e0 y0) σ
theorem f10K1_eq1 {R : Type} (call : CallF R) (N : Nat) (y0 : Option (Nat × Nat)) (y1 : Nat) (σ : St) (K : AV → St → Option R) :
    f10K1 call N K (Ex.normal) (f10e1 y0 y1) σ =
f10K0 call N K Ex.normal (f10e1 y0 y1) σ :=
  blockC_normal 0 (subAnn [(1 : Nat), (0 : Nat)] ann10) (f10K0 call N K) (f10e1 y0 y1) σ (by kernel_rfl)
theorem f10K0_eq {R : Type} (call : CallF R) (N : Nat) (y0 : Option (Nat × Nat)) (y1 : Nat) (σ : St) (K : AV → St → Option R) :
    f10K0 call N K (Ex.normal) (f10e1 y0 y1) σ =
Option.bind y0 fun v0 =>
  Option.bind (St.ld σ (Prod.fst v0) (Prod.snd v0)) fun v1 =>
    Option.bind (AV.toSl (4 : Nat) v1) fun v2 =>
      Option.bind (St.ld σ y1 (0 : Nat)) fun v3 =>
        Option.bind (AV.toInt IntKind.i64 v3) fun v4 =>
          Option.bind (St.ld σ y1 (1 : Nat)) fun v5 =>
            Option.bind (AV.toInt IntKind.i64 v5) fun v6 =>
              Option.bind (St.ld σ y1 (2 : Nat)) fun v7 =>
                Option.bind (AV.toInt IntKind.i64 v7) fun v8 =>
                  Option.bind (St.ld σ y1 (3 : Nat)) fun v9 =>
                    Option.bind (AV.toStr v9) fun v10 =>
                      if
                          St.same (St.new σ (Blk.cells [AV.int IntKind.i64 v4, AV.int IntKind.i64 v6, AV.int IntKind.i64 v8, AV.str v10] true))
                              (Prod.fst v0) (Prod.snd v0) [AV.slice (Sl.o v2) (Sl.len v2) (Sl.cap v2) (4 : Nat)] =
                            true then
                        Option.bind
                          (St.elems (St.new σ (Blk.cells [AV.int IntKind.i64 v4, AV.int IntKind.i64 v6, AV.int IntKind.i64 v8, AV.str v10] true))
                            (4 : Nat) (Sl.mk (some (St.next σ, (0 : Nat))) (1 : Nat) (some (1 : Nat))) (1 : Nat))
                          fun v11 =>
                          Option.bind
                            (St.app (St.new σ (Blk.cells [AV.int IntKind.i64 v4, AV.int IntKind.i64 v6, AV.int IntKind.i64 v8, AV.str v10] true))
                              (4 : Nat) (40 : Nat) (Sl.mk (Sl.o v2) (Sl.len v2) (Sl.cap v2)) (1 : Nat) v11)
                            fun v12 =>
                            Option.bind y0 fun v13 =>
                              Option.bind
                                (St.st (Prod.snd v12) (Prod.fst v13) (Prod.snd v13)
                                  [AV.slice (Sl.o (Prod.fst v12)) (Sl.len (Prod.fst v12)) (Sl.cap (Prod.fst v12)) (4 : Nat)])
                                fun v14 => K (AV.int IntKind.i64 (0 : Int)) v14
                      else none := by kernel_rfl

/- function 11 -/
theorem f11_eq {R : Type} (call : CallF R) (N : Nat) (y0 : Option (Nat × Nat)) (y1 : Int) (σ : St) (K : AV → St → Option R) :
    bodyK Try.prog call N ann 11 [AV.ptr y0, AV.int IntKind.i64 y1] σ K =
call (12 : Nat) [AV.ptr y0, AV.int IntKind.i64 y1]
  (St.new σ (Blk.cells [AV.int IntKind.i64 (0 : Int), AV.int IntKind.i64 (0 : Int), AV.int IntKind.i64 (0 : Int), AV.str (ByteArray.mk #[])] true))
  fun v0 v1 =>
  Option.bind (AV.toTuple v0) fun v2 =>
    if List.length v2 = (2 : Nat) then
      Option.bind (List.head? v2) fun v3 =>
        Option.bind (AV.toAgg v3) fun v4 =>
          if List.length v4 = (4 : Nat) then
            Option.bind (List.head? v4) fun v5 =>
              Option.bind (AV.toInt IntKind.i64 v5) fun v6 =>
                Option.bind (List.head? (List.tail v4)) fun v7 =>
                  Option.bind (AV.toInt IntKind.i64 v7) fun v8 =>
                    Option.bind (List.head? (List.tail (List.tail v4))) fun v9 =>
                      Option.bind (AV.toInt IntKind.i64 v9) fun v10 =>
                        Option.bind (List.head? (List.tail (List.tail (List.tail v4)))) fun v11 =>
                          Option.bind (AV.toStr v11) fun v12 =>
                            Option.bind (List.head? (List.tail v2)) fun v13 =>
                              Option.bind (AV.toInt IntKind.i64 v13) fun v14 =>
                                Option.bind
                                  (St.st
                                    (St.new v1
                                      (Blk.cells
                                        [AV.int IntKind.i64 (0 : Int), AV.int IntKind.i64 (0 : Int), AV.int IntKind.i64 (0 : Int),
                                          AV.str (ByteArray.mk #[])]
                                        true))
                                    (St.next v1) (0 : Nat) [AV.int IntKind.i64 v6, AV.int IntKind.i64 v8, AV.int IntKind.i64 v10, AV.str v12])
                                  fun v15 =>
                                  if (v14 == (0 : Int)) = true then
                                    Option.bind y0 fun v16 =>
                                      Option.bind (St.ld v15 (Prod.fst v16) (Prod.snd v16)) fun v17 =>
                                        Option.bind (AV.toSl (4 : Nat) v17) fun v18 =>
                                          Option.bind (Sl.sub (4 : Nat) (Sl.mk (Sl.o v18) (Sl.len v18) (Sl.cap v18)) (some y1) none none) fun v19 =>
                                            Option.bind y0 fun v20 =>
                                              Option.bind (St.ld v15 (Prod.fst v20) (Prod.snd v20)) fun v21 =>
                                                Option.bind (AV.toSl (4 : Nat) v21) fun v22 =>
                                                  Option.bind
                                                    (Sl.sub (4 : Nat) (Sl.mk (Sl.o v22) (Sl.len v22) (Sl.cap v22))
                                                      (some (IntKind.wrap IntKind.i64 (y1 + (1 : Int)))) none none)
                                                    fun v23 =>
                                                    Option.bind
                                                      (St.copy v15 (4 : Nat) (Sl.mk (Sl.o v19) (Sl.len v19) (Sl.cap v19))
                                                        (Sl.mk (Sl.o v23) (Sl.len v23) (Sl.cap v23)))
                                                      fun v24 =>
                                                      Option.bind y0 fun v25 =>
                                                        Option.bind (St.ld (Prod.snd v24) (Prod.fst v25) (Prod.snd v25)) fun v26 =>
                                                          Option.bind (AV.toSl (4 : Nat) v26) fun v27 =>
                                                            if
                                                                (0 : Int) ≤ IntKind.wrap IntKind.i64 (y1 + (↑(Prod.fst v24) : Int)) ∧
                                                                  IntKind.wrap IntKind.i64 (y1 + (↑(Prod.fst v24) : Int)) < (↑(Sl.len v27) : Int) then
                                                              Option.bind (Sl.o v27) fun v28 =>
                                                                Option.bind
                                                                  (St.st (Prod.snd v24) (Prod.fst v28)
                                                                    (Prod.snd v28 +
                                                                      Int.toNat (IntKind.wrap IntKind.i64 (y1 + (↑(Prod.fst v24) : Int))) * (4 : Nat))
                                                                    [AV.int IntKind.i64 (0 : Int), AV.int IntKind.i64 (0 : Int),
                                                                      AV.int IntKind.i64 (0 : Int), AV.str (ByteArray.mk #[])])
                                                                  fun v29 =>
                                                                  Option.bind y0 fun v30 =>
                                                                    Option.bind (St.ld v29 (Prod.fst v30) (Prod.snd v30)) fun v31 =>
                                                                      Option.bind (AV.toSl (4 : Nat) v31) fun v32 =>
                                                                        Option.bind
                                                                          (Sl.sub (4 : Nat) (Sl.mk (Sl.o v32) (Sl.len v32) (Sl.cap v32)) none
                                                                            (some (IntKind.wrap IntKind.i64 (y1 + (↑(Prod.fst v24) : Int)))) none)
                                                                          fun v33 =>
                                                                          Option.bind y0 fun v34 =>
                                                                            Option.bind
                                                                              (St.st v29 (Prod.fst v34) (Prod.snd v34)
                                                                                [AV.slice (Sl.o v33) (Sl.len v33) (Sl.cap v33) (4 : Nat)])
                                                                              fun v35 =>
                                                                              f11K0 call N K Ex.normal (f11e0 (St.next σ) (St.next v1) v14) v35
                                                            else none
                                  else f11K0 call N K Ex.normal (f11e0 (St.next σ) (St.next v1) v14) v15
          else none
    else none := by kernel_rfl
theorem f11K0_eq {R : Type} (call : CallF R) (N : Nat) (y0 : Nat) (y1 : Nat) (y2 : Int) (σ : St) (K : AV → St → Option R) :
    f11K0 call N K (Ex.normal) (f11e0 y0 y1 y2) σ =
Option.bind (St.ld σ y1 (0 : Nat)) fun v0 =>
  Option.bind (AV.toInt IntKind.i64 v0) fun v1 =>
    Option.bind (St.ld σ y1 (1 : Nat)) fun v2 =>
      Option.bind (AV.toInt IntKind.i64 v2) fun v3 =>
        Option.bind (St.ld σ y1 (2 : Nat)) fun v4 =>
          Option.bind (AV.toInt IntKind.i64 v4) fun v5 =>
            Option.bind (St.ld σ y1 (3 : Nat)) fun v6 =>
              Option.bind (AV.toStr v6) fun v7 =>
                Option.bind (St.st σ y0 (0 : Nat) [AV.int IntKind.i64 v1, AV.int IntKind.i64 v3, AV.int IntKind.i64 v5, AV.str v7]) fun v8 =>
                  Option.bind (St.ld v8 y0 (0 : Nat)) fun v9 =>
                    Option.bind (AV.toInt IntKind.i64 v9) fun v10 =>
                      Option.bind (St.ld v8 y0 (1 : Nat)) fun v11 =>
                        Option.bind (AV.toInt IntKind.i64 v11) fun v12 =>
                          Option.bind (St.ld v8 y0 (2 : Nat)) fun v13 =>
                            Option.bind (AV.toInt IntKind.i64 v13) fun v14 =>
                              Option.bind (St.ld v8 y0 (3 : Nat)) fun v15 =>
                                Option.bind (AV.toStr v15) fun v16 =>
                                  K
                                    (AV.tuple
                                      [AV.agg [AV.int IntKind.i64 v10, AV.int IntKind.i64 v12, AV.int IntKind.i64 v14, AV.str v16],
                                        AV.int IntKind.i64 y2])
                                    v8 := by kernel_rfl

/- function 12 -/
theorem f12_eq {R : Type} (call : CallF R) (N : Nat) (y0 : Option (Nat × Nat)) (y1 : Int) (σ : St) (K : AV → St → Option R) :
    bodyK Try.prog call N ann 12 [AV.ptr y0, AV.int IntKind.i64 y1] σ K =
if decide (y1 < (0 : Int)) = true then
  Option.bind
    (St.st
      (St.new σ
        (Blk.cells [AV.int IntKind.i64 (0 : Int), AV.int IntKind.i64 (0 : Int), AV.int IntKind.i64 (0 : Int), AV.str (ByteArray.mk #[])] true))
      (St.next σ) (0 : Nat) [AV.int IntKind.i64 (0 : Int), AV.int IntKind.i64 (0 : Int), AV.int IntKind.i64 (0 : Int), AV.str (ByteArray.mk #[])])
    fun v0 =>
    Option.bind (St.ld v0 (St.next σ) (0 : Nat)) fun v1 =>
      Option.bind (AV.toInt IntKind.i64 v1) fun v2 =>
        Option.bind (St.ld v0 (St.next σ) (1 : Nat)) fun v3 =>
          Option.bind (AV.toInt IntKind.i64 v3) fun v4 =>
            Option.bind (St.ld v0 (St.next σ) (2 : Nat)) fun v5 =>
              Option.bind (AV.toInt IntKind.i64 v5) fun v6 =>
                Option.bind (St.ld v0 (St.next σ) (3 : Nat)) fun v7 =>
                  Option.bind (AV.toStr v7) fun v8 =>
                    K
                      (AV.tuple
                        [AV.agg [AV.int IntKind.i64 v2, AV.int IntKind.i64 v4, AV.int IntKind.i64 v6, AV.str v8], AV.int IntKind.i64 (6 : Int)])
                      v0
else
  call (13 : Nat) [AV.ptr y0]
    (St.new σ (Blk.cells [AV.int IntKind.i64 (0 : Int), AV.int IntKind.i64 (0 : Int), AV.int IntKind.i64 (0 : Int), AV.str (ByteArray.mk #[])] true))
    fun v0 v1 =>
    Option.bind (AV.toInt IntKind.i64 v0) fun v2 =>
      if decide (y1 ≥ v2) = true then
        Option.bind
          (St.st v1 (St.next σ) (0 : Nat)
            [AV.int IntKind.i64 (0 : Int), AV.int IntKind.i64 (0 : Int), AV.int IntKind.i64 (0 : Int), AV.str (ByteArray.mk #[])])
          fun v3 =>
          Option.bind (St.ld v3 (St.next σ) (0 : Nat)) fun v4 =>
            Option.bind (AV.toInt IntKind.i64 v4) fun v5 =>
              Option.bind (St.ld v3 (St.next σ) (1 : Nat)) fun v6 =>
                Option.bind (AV.toInt IntKind.i64 v6) fun v7 =>
                  Option.bind (St.ld v3 (St.next σ) (2 : Nat)) fun v8 =>
                    Option.bind (AV.toInt IntKind.i64 v8) fun v9 =>
                      Option.bind (St.ld v3 (St.next σ) (3 : Nat)) fun v10 =>
                        Option.bind (AV.toStr v10) fun v11 =>
                          K
                            (AV.tuple
                              [AV.agg [AV.int IntKind.i64 v5, AV.int IntKind.i64 v7, AV.int IntKind.i64 v9, AV.str v11],
                                AV.int IntKind.i64 (6 : Int)])
                            v3
      else f12K0 call N K Ex.normal (f12e0 y0 y1 (St.next σ)) v1 := by kernel_rfl
theorem f12K0_eq {R : Type} (call : CallF R) (N : Nat) (y0 : Option (Nat × Nat)) (y1 : Int) (y2 : Nat) (σ : St) (K : AV → St → Option R) :
    f12K0 call N K (Ex.normal) (f12e0 y0 y1 y2) σ =
Option.bind y0 fun v0 =>
  Option.bind (St.ld σ (Prod.fst v0) (Prod.snd v0)) fun v1 =>
    Option.bind (AV.toSl (4 : Nat) v1) fun v2 =>
      if (0 : Int) ≤ y1 ∧ y1 < (↑(Sl.len v2) : Int) then
        Option.bind (Sl.o v2) fun v3 =>
          Option.bind (St.ld σ (Prod.fst v3) (Prod.snd v3 + Int.toNat y1 * (4 : Nat))) fun v4 =>
            Option.bind (AV.toInt IntKind.i64 v4) fun v5 =>
              Option.bind (St.ld σ (Prod.fst v3) (Prod.snd v3 + Int.toNat y1 * (4 : Nat) + (1 : Nat))) fun v6 =>
                Option.bind (AV.toInt IntKind.i64 v6) fun v7 =>
                  Option.bind (St.ld σ (Prod.fst v3) (Prod.snd v3 + Int.toNat y1 * (4 : Nat) + (2 : Nat))) fun v8 =>
                    Option.bind (AV.toInt IntKind.i64 v8) fun v9 =>
                      Option.bind (St.ld σ (Prod.fst v3) (Prod.snd v3 + Int.toNat y1 * (4 : Nat) + (3 : Nat))) fun v10 =>
                        Option.bind (AV.toStr v10) fun v11 =>
                          Option.bind (St.st σ y2 (0 : Nat) [AV.int IntKind.i64 v5, AV.int IntKind.i64 v7, AV.int IntKind.i64 v9, AV.str v11])
                            fun v12 =>
                            Option.bind (St.ld v12 y2 (0 : Nat)) fun v13 =>
                              Option.bind (AV.toInt IntKind.i64 v13) fun v14 =>
                                Option.bind (St.ld v12 y2 (1 : Nat)) fun v15 =>
                                  Option.bind (AV.toInt IntKind.i64 v15) fun v16 =>
                                    Option.bind (St.ld v12 y2 (2 : Nat)) fun v17 =>
                                      Option.bind (AV.toInt IntKind.i64 v17) fun v18 =>
                                        Option.bind (St.ld v12 y2 (3 : Nat)) fun v19 =>
                                          Option.bind (AV.toStr v19) fun v20 =>
                                            K
                                              (AV.tuple
                                                [AV.agg [AV.int IntKind.i64 v14, AV.int IntKind.i64 v16, AV.int IntKind.i64 v18, AV.str v20],
                                                  AV.int IntKind.i64 (0 : Int)])
                                              v12
      else none := by kernel_rfl

/- function 13 -/
theorem f13_eq {R : Type} (call : CallF R) (N : Nat) (y0 : Option (Nat × Nat)) (σ : St) (K : AV → St → Option R) :
    bodyK Try.prog call N ann 13 [AV.ptr y0] σ K =
if Option.isNone y0 = true then K (AV.int IntKind.i64 (0 : Int)) σ else f13K0 call N K Ex.normal (f13e0 y0) σ := by kernel_rfl
theorem f13K0_eq {R : Type} (call : CallF R) (N : Nat) (y0 : Option (Nat × Nat)) (σ : St) (K : AV → St → Option R) :
    f13K0 call N K (Ex.normal) (f13e0 y0) σ =
Option.bind y0 fun v0 =>
  Option.bind (St.ld σ (Prod.fst v0) (Prod.snd v0)) fun v1 =>
    Option.bind (AV.toSl (4 : Nat) v1) fun v2 => K (AV.int IntKind.i64 (↑(Sl.len v2) : Int)) σ := by kernel_rfl

/- function 14 -/
theorem f14_eq {R : Type} (call : CallF R) (N : Nat) (y0 : Option (Nat × Nat)) (y1 : Int) (σ : St) (K : AV → St → Option R) :
    bodyK Try.prog call N ann 14 [AV.ptr y0, AV.int IntKind.i64 y1] σ K =
call (12 : Nat) [AV.ptr y0, AV.int IntKind.i64 y1] σ fun v0 v1 =>
  Option.bind (AV.toTuple v0) fun v2 =>
    if List.length v2 = (2 : Nat) then
      Option.bind (List.head? v2) fun v3 =>
        Option.bind (AV.toAgg v3) fun v4 =>
          if List.length v4 = (4 : Nat) then
            Option.bind (List.head? v4) fun v5 =>
              Option.bind (AV.toInt IntKind.i64 v5) fun v6 =>
                Option.bind (List.head? (List.tail v4)) fun v7 =>
                  Option.bind (AV.toInt IntKind.i64 v7) fun v8 =>
                    Option.bind (List.head? (List.tail (List.tail v4))) fun v9 =>
                      Option.bind (AV.toInt IntKind.i64 v9) fun v10 =>
                        Option.bind (List.head? (List.tail (List.tail (List.tail v4)))) fun v11 =>
                          Option.bind (AV.toStr v11) fun v12 =>
                            Option.bind (List.head? (List.tail v2)) fun v13 =>
                              Option.bind (AV.toInt IntKind.i64 v13) fun v14 =>
                                Option.bind
                                  (St.st
                                    (St.new v1
                                      (Blk.cells
                                        [AV.int IntKind.i64 (0 : Int), AV.int IntKind.i64 (0 : Int), AV.int IntKind.i64 (0 : Int),
                                          AV.str (ByteArray.mk #[])]
                                        true))
                                    (St.next v1) (0 : Nat) [AV.int IntKind.i64 v6, AV.int IntKind.i64 v8, AV.int IntKind.i64 v10, AV.str v12])
                                  fun v15 =>
                                  if (v14 != (0 : Int)) = true then K (AV.int IntKind.i64 v14) v15
                                  else f14K0 call N K Ex.normal (f14e0 y0 (St.next v1)) v15
          else none
    else none := by kernel_rfl
theorem f14K0_eq {R : Type} (call : CallF R) (N : Nat) (y0 : Option (Nat × Nat)) (y1 : Nat) (σ : St) (K : AV → St → Option R) :
    f14K0 call N K (Ex.normal) (f14e0 y0 y1) σ =
Option.bind (St.ld σ y1 (0 : Nat)) fun v0 =>
  Option.bind (AV.toInt IntKind.i64 v0) fun v1 =>
    Option.bind (St.ld σ y1 (1 : Nat)) fun v2 =>
      Option.bind (AV.toInt IntKind.i64 v2) fun v3 =>
        Option.bind (St.ld σ y1 (2 : Nat)) fun v4 =>
          Option.bind (AV.toInt IntKind.i64 v4) fun v5 =>
            Option.bind (St.ld σ y1 (3 : Nat)) fun v6 =>
              Option.bind (AV.toStr v6) fun v7 =>
                call (10 : Nat) [AV.ptr y0, AV.agg [AV.int IntKind.i64 v1, AV.int IntKind.i64 v3, AV.int IntKind.i64 v5, AV.str v7]] σ fun v8 v9 =>
                  Option.bind (AV.toInt IntKind.i64 v8) fun v10 => K (AV.int IntKind.i64 v10) v9 := by kernel_rfl

end Go.Proofs.Ytdebkakkeaanaaa
