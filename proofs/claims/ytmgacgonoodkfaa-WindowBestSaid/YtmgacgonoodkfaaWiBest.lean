/- What the machine does with each piece of code, in plain text. PRINTED by a program of this workplace; Lean checks it. -/
import Derived.Test.YtmgacgonoodkfaaWiAnn
import Derived.Test.YtmgacgonoodkfaaProg
import Derived.KernelRfl
import Derived.Attr
namespace Go.Proofs.Ytmgacgonoodkfaa
open Go.AM
set_option maxRecDepth 100000
set_option linter.unusedVariables false
noncomputable def f9rs : List ResultVar := [ResultVar.tmp (2 : Nat)]
noncomputable def f9c0 : Code := subCode [] (bodyOf Try.prog 9)
def f9a0 : Ann := subAnn [] ann9
noncomputable def f9c1 : Code := subCode [0] (bodyOf Try.prog 9)
def f9a1 : Ann := subAnn [0] ann9
noncomputable def f9c2 : Code := subCode [1] (bodyOf Try.prog 9)
def f9a2 : Ann := subAnn [1] ann9
noncomputable def f9c3 : Code := subCode [1, 0] (bodyOf Try.prog 9)
def f9a3 : Ann := subAnn [1, 0] ann9
noncomputable def f9c4 : Code := subCode [1, 1] (bodyOf Try.prog 9)
def f9a4 : Ann := subAnn [1, 1] ann9
noncomputable def f9c5 : Code := subCode [1, 1, 0] (bodyOf Try.prog 9)
def f9a5 : Ann := subAnn [1, 1, 0] ann9
noncomputable def f9c6 : Code := subCode [1, 1, 1] (bodyOf Try.prog 9)
def f9a6 : Ann := subAnn [1, 1, 1] ann9
noncomputable def f9c7 : Code := subCode [1, 1, 0, 0] (bodyOf Try.prog 9)
def f9a7 : Ann := subAnn [1, 1, 0, 0] ann9
noncomputable def f9c8 : Code := subCode [1, 1, 0, 1] (bodyOf Try.prog 9)
def f9a8 : Ann := subAnn [1, 1, 0, 1] ann9
noncomputable def f9c9 : Code := subCode [1, 1, 0, 1, 0] (bodyOf Try.prog 9)
def f9a9 : Ann := subAnn [1, 1, 0, 1, 0] ann9
noncomputable def f9c10 : Code := subCode [1, 1, 0, 1, 1] (bodyOf Try.prog 9)
def f9a10 : Ann := subAnn [1, 1, 0, 1, 1] ann9
noncomputable def f9c11 : Code := subCode [1, 1, 0, 1, 0, 0] (bodyOf Try.prog 9)
def f9a11 : Ann := subAnn [1, 1, 0, 1, 0, 0] ann9
noncomputable def f9c12 : Code := subCode [1, 1, 0, 1, 0, 1] (bodyOf Try.prog 9)
def f9a12 : Ann := subAnn [1, 1, 0, 1, 0, 1] ann9
noncomputable def f9c13 : Code := subCode [1, 1, 1, 0] (bodyOf Try.prog 9)
def f9a13 : Ann := subAnn [1, 1, 1, 0] ann9
noncomputable def f9c14 : Code := subCode [1, 1, 1, 1] (bodyOf Try.prog 9)
def f9a14 : Ann := subAnn [1, 1, 1, 1] ann9
noncomputable def f9c15 : Code := subCode [1, 1, 1, 1, 0] (bodyOf Try.prog 9)
def f9a15 : Ann := subAnn [1, 1, 1, 1, 0] ann9
noncomputable def f9c16 : Code := subCode [1, 1, 1, 1, 1] (bodyOf Try.prog 9)
def f9a16 : Ann := subAnn [1, 1, 1, 1, 1] ann9
noncomputable def f9c17 : Code := subCode [1, 1, 1, 1, 1, 0] (bodyOf Try.prog 9)
def f9a17 : Ann := subAnn [1, 1, 1, 1, 1, 0] ann9
noncomputable def f9c18 : Code := subCode [1, 1, 1, 1, 1, 1] (bodyOf Try.prog 9)
def f9a18 : Ann := subAnn [1, 1, 1, 1, 1, 1] ann9
noncomputable def f9c19 : Code := subCode [1, 1, 1, 1, 1, 0, 0] (bodyOf Try.prog 9)
def f9a19 : Ann := subAnn [1, 1, 1, 1, 1, 0, 0] ann9
noncomputable def f9c20 : Code := subCode [1, 1, 1, 1, 1, 0, 1] (bodyOf Try.prog 9)
def f9a20 : Ann := subAnn [1, 1, 1, 1, 1, 0, 1] ann9
noncomputable def f9c21 : Code := subCode [1, 1, 1, 1, 1, 0, 1, 0] (bodyOf Try.prog 9)
def f9a21 : Ann := subAnn [1, 1, 1, 1, 1, 0, 1, 0] ann9
noncomputable def f9c22 : Code := subCode [1, 1, 1, 1, 1, 0, 1, 0, 0] (bodyOf Try.prog 9)
def f9a22 : Ann := subAnn [1, 1, 1, 1, 1, 0, 1, 0, 0] ann9
noncomputable def f9c23 : Code := subCode [1, 1, 1, 1, 1, 0, 1, 0, 0, 0] (bodyOf Try.prog 9)
def f9a23 : Ann := subAnn [1, 1, 1, 1, 1, 0, 1, 0, 0, 0] ann9
noncomputable def f9c24 : Code := subCode [1, 1, 1, 1, 1, 0, 1, 0, 0, 1] (bodyOf Try.prog 9)
def f9a24 : Ann := subAnn [1, 1, 1, 1, 1, 0, 1, 0, 0, 1] ann9
noncomputable def f9c25 : Code := subCode [1, 1, 1, 1, 1, 0, 1, 0, 0, 1, 0] (bodyOf Try.prog 9)
def f9a25 : Ann := subAnn [1, 1, 1, 1, 1, 0, 1, 0, 0, 1, 0] ann9
noncomputable def f9c26 : Code := subCode [1, 1, 1, 1, 1, 0, 1, 0, 0, 1, 1] (bodyOf Try.prog 9)
def f9a26 : Ann := subAnn [1, 1, 1, 1, 1, 0, 1, 0, 0, 1, 1] ann9
noncomputable def f9c27 : Code := subCode [1, 1, 1, 1, 1, 0, 1, 0, 0, 1, 0, 0] (bodyOf Try.prog 9)
def f9a27 : Ann := subAnn [1, 1, 1, 1, 1, 0, 1, 0, 0, 1, 0, 0] ann9
noncomputable def f9c28 : Code := subCode [1, 1, 1, 1, 1, 0, 1, 0, 0, 1, 0, 1] (bodyOf Try.prog 9)
def f9a28 : Ann := subAnn [1, 1, 1, 1, 1, 0, 1, 0, 0, 1, 0, 1] ann9
noncomputable def f9c29 : Code := subCode [1, 1, 1, 1, 1, 0, 1, 0, 0, 1, 1, 0] (bodyOf Try.prog 9)
def f9a29 : Ann := subAnn [1, 1, 1, 1, 1, 0, 1, 0, 0, 1, 1, 0] ann9
noncomputable def f9c30 : Code := subCode [1, 1, 1, 1, 1, 0, 1, 0, 0, 1, 1, 1] (bodyOf Try.prog 9)
def f9a30 : Ann := subAnn [1, 1, 1, 1, 1, 0, 1, 0, 0, 1, 1, 1] ann9
noncomputable def f9c31 : Code := subCode [1, 1, 1, 1, 1, 0, 1, 0, 0, 1, 1, 0, 0] (bodyOf Try.prog 9)
def f9a31 : Ann := subAnn [1, 1, 1, 1, 1, 0, 1, 0, 0, 1, 1, 0, 0] ann9
noncomputable def f9c32 : Code := subCode [1, 1, 1, 1, 1, 0, 1, 0, 0, 1, 1, 0, 0, 0] (bodyOf Try.prog 9)
def f9a32 : Ann := subAnn [1, 1, 1, 1, 1, 0, 1, 0, 0, 1, 1, 0, 0, 0] ann9
noncomputable def f9c33 : Code := subCode [1, 1, 1, 1, 1, 0, 1, 0, 0, 1, 1, 0, 0, 1] (bodyOf Try.prog 9)
def f9a33 : Ann := subAnn [1, 1, 1, 1, 1, 0, 1, 0, 0, 1, 1, 0, 0, 1] ann9
noncomputable def f9c34 : Code := subCode [1, 1, 1, 1, 1, 0, 1, 0, 0, 1, 1, 0, 0, 1, 0] (bodyOf Try.prog 9)
def f9a34 : Ann := subAnn [1, 1, 1, 1, 1, 0, 1, 0, 0, 1, 1, 0, 0, 1, 0] ann9
noncomputable def f9c35 : Code := subCode [1, 1, 1, 1, 1, 0, 1, 0, 0, 1, 1, 0, 0, 1, 1] (bodyOf Try.prog 9)
def f9a35 : Ann := subAnn [1, 1, 1, 1, 1, 0, 1, 0, 0, 1, 1, 0, 0, 1, 1] ann9
noncomputable def f9c36 : Code := subCode [1, 1, 1, 1, 1, 0, 1, 0, 0, 1, 1, 0, 0, 1, 1, 0] (bodyOf Try.prog 9)
def f9a36 : Ann := subAnn [1, 1, 1, 1, 1, 0, 1, 0, 0, 1, 1, 0, 0, 1, 1, 0] ann9
noncomputable def f9c37 : Code := subCode [1, 1, 1, 1, 1, 0, 1, 0, 0, 1, 1, 0, 0, 1, 1, 1] (bodyOf Try.prog 9)
def f9a37 : Ann := subAnn [1, 1, 1, 1, 1, 0, 1, 0, 0, 1, 1, 0, 0, 1, 1, 1] ann9
noncomputable def f9c38 : Code := subCode [1, 1, 1, 1, 1, 0, 1, 0, 0, 1, 1, 0, 0, 1, 1, 0, 0] (bodyOf Try.prog 9)
def f9a38 : Ann := subAnn [1, 1, 1, 1, 1, 0, 1, 0, 0, 1, 1, 0, 0, 1, 1, 0, 0] ann9
noncomputable def f9c39 : Code := subCode [1, 1, 1, 1, 1, 0, 1, 0, 0, 1, 1, 0, 0, 1, 1, 0, 1] (bodyOf Try.prog 9)
def f9a39 : Ann := subAnn [1, 1, 1, 1, 1, 0, 1, 0, 0, 1, 1, 0, 0, 1, 1, 0, 1] ann9
noncomputable def f9c40 : Code := subCode [1, 1, 1, 1, 1, 0, 1, 0, 0, 1, 1, 0, 0, 1, 1, 0, 1, 0] (bodyOf Try.prog 9)
def f9a40 : Ann := subAnn [1, 1, 1, 1, 1, 0, 1, 0, 0, 1, 1, 0, 0, 1, 1, 0, 1, 0] ann9
noncomputable def f9c41 : Code := subCode [1, 1, 1, 1, 1, 0, 1, 0, 0, 1, 1, 0, 0, 1, 1, 0, 1, 1] (bodyOf Try.prog 9)
def f9a41 : Ann := subAnn [1, 1, 1, 1, 1, 0, 1, 0, 0, 1, 1, 0, 0, 1, 1, 0, 1, 1] ann9
noncomputable def f9c42 : Code := subCode [1, 1, 1, 1, 1, 0, 1, 0, 0, 1, 1, 0, 0, 1, 1, 0, 1, 0, 0] (bodyOf Try.prog 9)
def f9a42 : Ann := subAnn [1, 1, 1, 1, 1, 0, 1, 0, 0, 1, 1, 0, 0, 1, 1, 0, 1, 0, 0] ann9
noncomputable def f9c43 : Code := subCode [1, 1, 1, 1, 1, 0, 1, 0, 0, 1, 1, 0, 0, 1, 1, 0, 1, 0, 1] (bodyOf Try.prog 9)
def f9a43 : Ann := subAnn [1, 1, 1, 1, 1, 0, 1, 0, 0, 1, 1, 0, 0, 1, 1, 0, 1, 0, 1] ann9
noncomputable def f9c44 : Code := subCode [1, 1, 1, 1, 1, 0, 1, 0, 0, 1, 1, 0, 0, 1, 1, 1, 0] (bodyOf Try.prog 9)
def f9a44 : Ann := subAnn [1, 1, 1, 1, 1, 0, 1, 0, 0, 1, 1, 0, 0, 1, 1, 1, 0] ann9
noncomputable def f9c45 : Code := subCode [1, 1, 1, 1, 1, 0, 1, 0, 0, 1, 1, 0, 0, 1, 1, 1, 1] (bodyOf Try.prog 9)
def f9a45 : Ann := subAnn [1, 1, 1, 1, 1, 0, 1, 0, 0, 1, 1, 0, 0, 1, 1, 1, 1] ann9
noncomputable def f9c46 : Code := subCode [1, 1, 1, 1, 1, 0, 1, 0, 0, 1, 1, 0, 0, 1, 1, 1, 0, 0] (bodyOf Try.prog 9)
def f9a46 : Ann := subAnn [1, 1, 1, 1, 1, 0, 1, 0, 0, 1, 1, 0, 0, 1, 1, 1, 0, 0] ann9
noncomputable def f9c47 : Code := subCode [1, 1, 1, 1, 1, 0, 1, 0, 0, 1, 1, 0, 0, 1, 1, 1, 0, 1] (bodyOf Try.prog 9)
def f9a47 : Ann := subAnn [1, 1, 1, 1, 1, 0, 1, 0, 0, 1, 1, 0, 0, 1, 1, 1, 0, 1] ann9
noncomputable def f9c48 : Code := subCode [1, 1, 1, 1, 1, 0, 1, 0, 0, 1, 1, 0, 0, 1, 1, 1, 0, 1, 0] (bodyOf Try.prog 9)
def f9a48 : Ann := subAnn [1, 1, 1, 1, 1, 0, 1, 0, 0, 1, 1, 0, 0, 1, 1, 1, 0, 1, 0] ann9
noncomputable def f9c49 : Code := subCode [1, 1, 1, 1, 1, 0, 1, 0, 0, 1, 1, 0, 0, 1, 1, 1, 0, 1, 1] (bodyOf Try.prog 9)
def f9a49 : Ann := subAnn [1, 1, 1, 1, 1, 0, 1, 0, 0, 1, 1, 0, 0, 1, 1, 1, 0, 1, 1] ann9
noncomputable def f9c50 : Code := subCode [1, 1, 1, 1, 1, 0, 1, 0, 0, 1, 1, 0, 0, 1, 1, 1, 1, 0] (bodyOf Try.prog 9)
def f9a50 : Ann := subAnn [1, 1, 1, 1, 1, 0, 1, 0, 0, 1, 1, 0, 0, 1, 1, 1, 1, 0] ann9
noncomputable def f9c51 : Code := subCode [1, 1, 1, 1, 1, 0, 1, 0, 0, 1, 1, 0, 0, 1, 1, 1, 1, 1] (bodyOf Try.prog 9)
def f9a51 : Ann := subAnn [1, 1, 1, 1, 1, 0, 1, 0, 0, 1, 1, 0, 0, 1, 1, 1, 1, 1] ann9
noncomputable def f9c52 : Code := subCode [1, 1, 1, 1, 1, 0, 1, 0, 0, 1, 1, 0, 0, 1, 1, 1, 1, 0, 0] (bodyOf Try.prog 9)
def f9a52 : Ann := subAnn [1, 1, 1, 1, 1, 0, 1, 0, 0, 1, 1, 0, 0, 1, 1, 1, 1, 0, 0] ann9
noncomputable def f9c53 : Code := subCode [1, 1, 1, 1, 1, 0, 1, 0, 0, 1, 1, 0, 0, 1, 1, 1, 1, 0, 1] (bodyOf Try.prog 9)
def f9a53 : Ann := subAnn [1, 1, 1, 1, 1, 0, 1, 0, 0, 1, 1, 0, 0, 1, 1, 1, 1, 0, 1] ann9
noncomputable def f9c54 : Code := subCode [1, 1, 1, 1, 1, 0, 1, 0, 0, 1, 1, 0, 0, 1, 1, 1, 1, 0, 1, 0] (bodyOf Try.prog 9)
def f9a54 : Ann := subAnn [1, 1, 1, 1, 1, 0, 1, 0, 0, 1, 1, 0, 0, 1, 1, 1, 1, 0, 1, 0] ann9
noncomputable def f9c55 : Code := subCode [1, 1, 1, 1, 1, 0, 1, 0, 0, 1, 1, 0, 0, 1, 1, 1, 1, 0, 1, 1] (bodyOf Try.prog 9)
def f9a55 : Ann := subAnn [1, 1, 1, 1, 1, 0, 1, 0, 0, 1, 1, 0, 0, 1, 1, 1, 1, 0, 1, 1] ann9
noncomputable def f9c56 : Code := subCode [1, 1, 1, 1, 1, 0, 1, 0, 0, 1, 1, 0, 0, 1, 1, 1, 1, 0, 1, 0, 0] (bodyOf Try.prog 9)
def f9a56 : Ann := subAnn [1, 1, 1, 1, 1, 0, 1, 0, 0, 1, 1, 0, 0, 1, 1, 1, 1, 0, 1, 0, 0] ann9
noncomputable def f9c57 : Code := subCode [1, 1, 1, 1, 1, 0, 1, 0, 0, 1, 1, 0, 0, 1, 1, 1, 1, 0, 1, 0, 1] (bodyOf Try.prog 9)
def f9a57 : Ann := subAnn [1, 1, 1, 1, 1, 0, 1, 0, 0, 1, 1, 0, 0, 1, 1, 1, 1, 0, 1, 0, 1] ann9
noncomputable def f9c58 : Code := subCode [1, 1, 1, 1, 1, 0, 1, 0, 0, 1, 1, 0, 0, 1, 1, 1, 1, 1, 0] (bodyOf Try.prog 9)
def f9a58 : Ann := subAnn [1, 1, 1, 1, 1, 0, 1, 0, 0, 1, 1, 0, 0, 1, 1, 1, 1, 1, 0] ann9
noncomputable def f9c59 : Code := subCode [1, 1, 1, 1, 1, 0, 1, 0, 0, 1, 1, 0, 0, 1, 1, 1, 1, 1, 1] (bodyOf Try.prog 9)
def f9a59 : Ann := subAnn [1, 1, 1, 1, 1, 0, 1, 0, 0, 1, 1, 0, 0, 1, 1, 1, 1, 1, 1] ann9
noncomputable def f9c60 : Code := subCode [1, 1, 1, 1, 1, 0, 1, 0, 0, 1, 1, 0, 0, 1, 1, 1, 1, 1, 0, 0] (bodyOf Try.prog 9)
def f9a60 : Ann := subAnn [1, 1, 1, 1, 1, 0, 1, 0, 0, 1, 1, 0, 0, 1, 1, 1, 1, 1, 0, 0] ann9
noncomputable def f9c61 : Code := subCode [1, 1, 1, 1, 1, 0, 1, 0, 0, 1, 1, 0, 0, 1, 1, 1, 1, 1, 0, 1] (bodyOf Try.prog 9)
def f9a61 : Ann := subAnn [1, 1, 1, 1, 1, 0, 1, 0, 0, 1, 1, 0, 0, 1, 1, 1, 1, 1, 0, 1] ann9
noncomputable def f9c62 : Code := subCode [1, 1, 1, 1, 1, 0, 1, 0, 0, 1, 1, 0, 0, 1, 1, 1, 1, 1, 0, 1, 0] (bodyOf Try.prog 9)
def f9a62 : Ann := subAnn [1, 1, 1, 1, 1, 0, 1, 0, 0, 1, 1, 0, 0, 1, 1, 1, 1, 1, 0, 1, 0] ann9
noncomputable def f9c63 : Code := subCode [1, 1, 1, 1, 1, 0, 1, 0, 0, 1, 1, 0, 0, 1, 1, 1, 1, 1, 0, 1, 1] (bodyOf Try.prog 9)
def f9a63 : Ann := subAnn [1, 1, 1, 1, 1, 0, 1, 0, 0, 1, 1, 0, 0, 1, 1, 1, 1, 1, 0, 1, 1] ann9
noncomputable def f9c64 : Code := subCode [1, 1, 1, 1, 1, 0, 1, 0, 0, 1, 1, 0, 0, 1, 1, 1, 1, 1, 0, 1, 0, 0] (bodyOf Try.prog 9)
def f9a64 : Ann := subAnn [1, 1, 1, 1, 1, 0, 1, 0, 0, 1, 1, 0, 0, 1, 1, 1, 1, 1, 0, 1, 0, 0] ann9
noncomputable def f9c65 : Code := subCode [1, 1, 1, 1, 1, 0, 1, 0, 0, 1, 1, 0, 0, 1, 1, 1, 1, 1, 0, 1, 0, 1] (bodyOf Try.prog 9)
def f9a65 : Ann := subAnn [1, 1, 1, 1, 1, 0, 1, 0, 0, 1, 1, 0, 0, 1, 1, 1, 1, 1, 0, 1, 0, 1] ann9
noncomputable def f9c66 : Code := subCode [1, 1, 1, 1, 1, 0, 1, 0, 0, 1, 1, 0, 0, 1, 1, 1, 1, 1, 1, 0] (bodyOf Try.prog 9)
def f9a66 : Ann := subAnn [1, 1, 1, 1, 1, 0, 1, 0, 0, 1, 1, 0, 0, 1, 1, 1, 1, 1, 1, 0] ann9
noncomputable def f9c67 : Code := subCode [1, 1, 1, 1, 1, 0, 1, 0, 0, 1, 1, 0, 0, 1, 1, 1, 1, 1, 1, 1] (bodyOf Try.prog 9)
def f9a67 : Ann := subAnn [1, 1, 1, 1, 1, 0, 1, 0, 0, 1, 1, 0, 0, 1, 1, 1, 1, 1, 1, 1] ann9
noncomputable def f9c68 : Code := subCode [1, 1, 1, 1, 1, 0, 1, 0, 0, 1, 1, 0, 0, 1, 1, 1, 1, 1, 1, 1, 0] (bodyOf Try.prog 9)
def f9a68 : Ann := subAnn [1, 1, 1, 1, 1, 0, 1, 0, 0, 1, 1, 0, 0, 1, 1, 1, 1, 1, 1, 1, 0] ann9
noncomputable def f9c69 : Code := subCode [1, 1, 1, 1, 1, 0, 1, 0, 0, 1, 1, 0, 0, 1, 1, 1, 1, 1, 1, 1, 1] (bodyOf Try.prog 9)
def f9a69 : Ann := subAnn [1, 1, 1, 1, 1, 0, 1, 0, 0, 1, 1, 0, 0, 1, 1, 1, 1, 1, 1, 1, 1] ann9
noncomputable def f9c70 : Code := subCode [1, 1, 1, 1, 1, 0, 1, 0, 0, 1, 1, 0, 0, 1, 1, 1, 1, 1, 1, 1, 1, 0] (bodyOf Try.prog 9)
def f9a70 : Ann := subAnn [1, 1, 1, 1, 1, 0, 1, 0, 0, 1, 1, 0, 0, 1, 1, 1, 1, 1, 1, 1, 1, 0] ann9
noncomputable def f9c71 : Code := subCode [1, 1, 1, 1, 1, 0, 1, 0, 0, 1, 1, 0, 0, 1, 1, 1, 1, 1, 1, 1, 1, 1] (bodyOf Try.prog 9)
def f9a71 : Ann := subAnn [1, 1, 1, 1, 1, 0, 1, 0, 0, 1, 1, 0, 0, 1, 1, 1, 1, 1, 1, 1, 1, 1] ann9
noncomputable def f9c72 : Code := subCode [1, 1, 1, 1, 1, 0, 1, 0, 0, 1, 1, 0, 0, 1, 1, 1, 1, 1, 1, 1, 1, 0, 0] (bodyOf Try.prog 9)
def f9a72 : Ann := subAnn [1, 1, 1, 1, 1, 0, 1, 0, 0, 1, 1, 0, 0, 1, 1, 1, 1, 1, 1, 1, 1, 0, 0] ann9
noncomputable def f9c73 : Code := subCode [1, 1, 1, 1, 1, 0, 1, 0, 0, 1, 1, 0, 0, 1, 1, 1, 1, 1, 1, 1, 1, 0, 1] (bodyOf Try.prog 9)
def f9a73 : Ann := subAnn [1, 1, 1, 1, 1, 0, 1, 0, 0, 1, 1, 0, 0, 1, 1, 1, 1, 1, 1, 1, 1, 0, 1] ann9
noncomputable def f9c74 : Code := subCode [1, 1, 1, 1, 1, 1, 0] (bodyOf Try.prog 9)
def f9a74 : Ann := subAnn [1, 1, 1, 1, 1, 1, 0] ann9
noncomputable def f9c75 : Code := subCode [1, 1, 1, 1, 1, 1, 1] (bodyOf Try.prog 9)
def f9a75 : Ann := subAnn [1, 1, 1, 1, 1, 1, 1] ann9
noncomputable def f9L21 {R : Type} (call : Bool → CallF R) (dem : Bool) (N : Nat) : KF R → Env → St → Option R := fun K e σ => runK Try.prog call dem N f9c22 f9a22 K e σ
def f9e0 (y0 : Option (Nat × Nat)) (y1 : Nat) (y2 : Option Nat) : Env := AV.slice y0 y1 y2 (1 : Nat) :: Env.sp 100 []
def f9e1 (y0 : Option (Nat × Nat)) (y1 : Nat) (y2 : Option Nat) (y3 : Bool) : Env := AV.slice y0 y1 y2 (1 : Nat) :: Env.sp 1 (AV.bool y3 :: Env.sp 98 [])
def f9e2 (y0 : Option (Nat × Nat)) (y1 : Nat) (y2 : Option Nat) (y3 : Option (Nat × Nat)) (y4 : Int) (y5 : Option (Nat × Nat)) (y6 : Int) (y7 : Option (Nat × Nat)) (y8 : Int) (y9 : Option (Nat × Nat)) (y10 : Int) : Env := AV.slice y0 y1 y2 (1 : Nat) :: Env.sp 2 (AV.ptr y3 :: AV.int IntKind.i64 y4 :: Env.sp 9 (AV.tuple [AV.ptr y5, AV.int IntKind.i64 y6] :: AV.tuple [AV.ptr y7, AV.int IntKind.i64 y8] :: AV.ptr y9 :: AV.int IntKind.i64 y10 :: Env.sp 83 []))
def f9e3 (y0 : Option (Nat × Nat)) (y1 : Nat) (y2 : Option Nat) (y3 : Option (Nat × Nat)) (y4 : Int) : Env := AV.slice y0 y1 y2 (1 : Nat) :: Env.sp 2 (AV.ptr y3 :: AV.int IntKind.i64 y4 :: Env.sp 96 [])
def f9e4 (y0 : Option (Nat × Nat)) (y1 : Nat) (y2 : Option Nat) (y3 : Option (Nat × Nat)) (y4 : Int) (y5 : Int) (y6 : Bool) (y7 : Bool) (y8 : Bool) (y9 : Bool) (y10 : Bool) : Env := AV.slice y0 y1 y2 (1 : Nat) :: Env.sp 2 (AV.ptr y3 :: AV.int IntKind.i64 y4 :: Env.sp 13 (AV.int IntKind.i64 y5 :: AV.bool y6 :: AV.bool y7 :: AV.tuple [] :: AV.tuple [] :: AV.bool y8 :: AV.bool y9 :: AV.tuple [] :: AV.tuple [] :: AV.tuple [] :: AV.bool y10 :: Env.sp 72 []))
def f9e5 (y0 : Option (Nat × Nat)) (y1 : Nat) (y2 : Option Nat) (y3 : Option (Nat × Nat)) (y4 : Int) (y5 : Int) (y6 : Bool) (y7 : Bool) (y8 : Option (Nat × Nat)) (y9 : Bool) (y10 : Bool) (y11 : Bool) (y12 : Bool) : Env := AV.slice y0 y1 y2 (1 : Nat) :: Env.sp 2 (AV.ptr y3 :: AV.int IntKind.i64 y4 :: Env.sp 13 (AV.int IntKind.i64 y5 :: AV.bool y6 :: AV.bool y7 :: AV.ptr y8 :: AV.bool y9 :: AV.bool y10 :: AV.bool y11 :: AV.tuple [] :: AV.tuple [] :: AV.tuple [] :: AV.bool y12 :: Env.sp 72 []))
def f9e6 (y0 : Option (Nat × Nat)) (y1 : Nat) (y2 : Option Nat) (y3 : Option (Nat × Nat)) (y4 : Int) (y5 : Int) (y6 : Bool) (y7 : Bool) (y8 : Option (Nat × Nat)) (y9 : Bool) (y10 : Bool) (y11 : Bool) (y12 : Option (Nat × Nat)) (y13 : Nat) (y14 : Option Nat) (y15 : Int) (y16 : Bool) (y17 : Bool) : Env := AV.slice y0 y1 y2 (1 : Nat) :: Env.sp 2 (AV.ptr y3 :: AV.int IntKind.i64 y4 :: Env.sp 13 (AV.int IntKind.i64 y5 :: AV.bool y6 :: AV.bool y7 :: AV.ptr y8 :: AV.bool y9 :: AV.bool y10 :: AV.bool y11 :: AV.slice y12 y13 y14 (1 : Nat) :: AV.int IntKind.i64 y15 :: AV.bool y16 :: AV.bool y17 :: Env.sp 72 []))
def f9e7 (y0 : Option (Nat × Nat)) (y1 : Nat) (y2 : Option Nat) (y3 : Option (Nat × Nat)) (y4 : Int) (y5 : Bool) : Env := AV.slice y0 y1 y2 (1 : Nat) :: Env.sp 2 (AV.ptr y3 :: AV.int IntKind.i64 y4 :: Env.sp 23 (AV.bool y5 :: Env.sp 72 []))
def f9e8 (y0 : Option (Nat × Nat)) (y1 : Nat) (y2 : Option Nat) (y3 : Bool) (y4 : Option (Nat × Nat)) (y5 : Int) (y6 : Bool) (y7 : Int) (y8 : Bool) (y9 : Bool) (y10 : Option (Nat × Nat)) (y11 : Bool) (y12 : Bool) (y13 : Bool) (y14 : Bool) (y15 : Bool) : Env := AV.slice y0 y1 y2 (1 : Nat) :: Env.sp 1 (AV.bool y3 :: AV.ptr y4 :: AV.int IntKind.i64 y5 :: Env.sp 23 (AV.bool y6 :: AV.int IntKind.i64 y7 :: AV.bool y8 :: AV.bool y9 :: AV.ptr y10 :: AV.bool y11 :: AV.bool y12 :: AV.bool y13 :: AV.bool y14 :: AV.bool y15 :: Env.sp 63 []))
def f9e9 (y0 : Option (Nat × Nat)) (y1 : Nat) (y2 : Option Nat) (y3 : Bool) (y4 : Option (Nat × Nat)) (y5 : Int) (y6 : Bool) (y7 : Int) (y8 : Bool) (y9 : Bool) (y10 : Option (Nat × Nat)) (y11 : Bool) (y12 : Bool) (y13 : Bool) (y14 : Bool) : Env := AV.slice y0 y1 y2 (1 : Nat) :: Env.sp 1 (AV.bool y3 :: AV.ptr y4 :: AV.int IntKind.i64 y5 :: Env.sp 23 (AV.bool y6 :: AV.int IntKind.i64 y7 :: AV.bool y8 :: AV.bool y9 :: AV.ptr y10 :: AV.bool y11 :: AV.bool y12 :: AV.bool y13 :: AV.tuple [] :: AV.bool y14 :: Env.sp 63 []))
def f9e10 (y0 : Option (Nat × Nat)) (y1 : Nat) (y2 : Option Nat) (y3 : Bool) (y4 : Option (Nat × Nat)) (y5 : Int) (y6 : Bool) (y7 : Int) (y8 : Bool) (y9 : Bool) (y10 : Bool) (y11 : Bool) (y12 : Bool) : Env := AV.slice y0 y1 y2 (1 : Nat) :: Env.sp 1 (AV.bool y3 :: AV.ptr y4 :: AV.int IntKind.i64 y5 :: Env.sp 23 (AV.bool y6 :: AV.int IntKind.i64 y7 :: AV.bool y8 :: AV.bool y9 :: AV.tuple [] :: AV.tuple [] :: AV.bool y10 :: AV.bool y11 :: AV.tuple [] :: AV.bool y12 :: Env.sp 63 []))
def f9e11 (y0 : Bool) : Env := Env.sp 2 (AV.bool y0 :: Env.sp 98 [])
def f9e12 (y0 : Option (Nat × Nat)) (y1 : Nat) (y2 : Option Nat) (y3 : Option (Nat × Nat)) : Env := AV.slice y0 y1 y2 (1 : Nat) :: Env.sp 2 (AV.ptr y3 :: Env.sp 97 [])
def f9e13 (y0 : Option (Nat × Nat)) (y1 : Nat) (y2 : Option Nat) (y3 : Option (Nat × Nat)) (y4 : Int) : Env := AV.slice y0 y1 y2 (1 : Nat) :: Env.sp 2 (AV.ptr y3 :: Env.sp 1 (AV.int IntKind.i64 y4 :: Env.sp 95 []))
def f9e14 (y0 : Option (Nat × Nat)) (y1 : Nat) (y2 : Option Nat) (y3 : Option (Nat × Nat)) (y4 : Int) (y5 : Int) : Env := AV.slice y0 y1 y2 (1 : Nat) :: Env.sp 2 (AV.ptr y3 :: Env.sp 1 (AV.int IntKind.i64 y4 :: AV.int IntKind.i64 y5 :: Env.sp 94 []))
def f9e15 (y0 : Option (Nat × Nat)) (y1 : Nat) (y2 : Option Nat) (y3 : Option (Nat × Nat)) (y4 : Int) (y5 : Int) (y6 : Option (Nat × Nat)) (y7 : Nat) (y8 : Option Nat) (y9 : Int) (y10 : Int) : Env := AV.slice y0 y1 y2 (1 : Nat) :: Env.sp 2 (AV.ptr y3 :: Env.sp 1 (AV.int IntKind.i64 y4 :: AV.int IntKind.i64 y5 :: Env.sp 31 (AV.slice y6 y7 y8 (1 : Nat) :: AV.int IntKind.i64 y9 :: AV.int IntKind.i64 y10 :: Env.sp 60 [])))
def f9e16 (y0 : Option (Nat × Nat)) (y1 : Int) (y2 : Int) (y3 : Option (Nat × Nat)) (y4 : Nat) (y5 : Option Nat) (y6 : Int) (y7 : Int) : Env := Env.sp 3 (AV.ptr y0 :: Env.sp 1 (AV.int IntKind.i64 y1 :: AV.int IntKind.i64 y2 :: Env.sp 31 (AV.slice y3 y4 y5 (1 : Nat) :: AV.int IntKind.i64 y6 :: AV.int IntKind.i64 y7 :: Env.sp 60 [])))
def f9e17 (y0 : Option (Nat × Nat)) (y1 : Int) (y2 : Int) (y3 : Option (Nat × Nat)) (y4 : Nat) (y5 : Option Nat) (y6 : Int) (y7 : Int) (y8 : Bool) : Env := Env.sp 3 (AV.ptr y0 :: Env.sp 1 (AV.int IntKind.i64 y1 :: AV.int IntKind.i64 y2 :: Env.sp 31 (AV.slice y3 y4 y5 (1 : Nat) :: AV.int IntKind.i64 y6 :: AV.int IntKind.i64 y7 :: AV.bool y8 :: Env.sp 59 [])))
def f9e18 : Env := Env.sp 101 []
def f9e19 (y0 : Option (Nat × Nat)) (y1 : Int) (y2 : Int) (y3 : Int) (y4 : Int) (y5 : Option (Nat × Nat)) (y6 : Nat) (y7 : Option Nat) (y8 : Int) (y9 : Int) (y10 : Int) (y11 : Option (Nat × Nat)) (y12 : Int) : Env := Env.sp 3 (AV.ptr y0 :: Env.sp 1 (AV.int IntKind.i64 y1 :: AV.int IntKind.i64 y2 :: AV.int IntKind.i64 y3 :: AV.int IntKind.i64 y4 :: Env.sp 29 (AV.slice y5 y6 y7 (1 : Nat) :: AV.int IntKind.i64 y8 :: AV.int IntKind.i64 y9 :: Env.sp 1 (AV.int IntKind.i64 y10 :: AV.ptr y11 :: AV.int IntKind.i64 y12 :: Env.sp 56 []))))
def f9e20 (y0 : Option (Nat × Nat)) (y1 : Int) (y2 : Int) (y3 : Int) (y4 : Int) (y5 : Option (Nat × Nat)) (y6 : Nat) (y7 : Option Nat) (y8 : Int) (y9 : Int) : Env := Env.sp 3 (AV.ptr y0 :: Env.sp 1 (AV.int IntKind.i64 y1 :: AV.int IntKind.i64 y2 :: AV.int IntKind.i64 y3 :: AV.int IntKind.i64 y4 :: Env.sp 29 (AV.slice y5 y6 y7 (1 : Nat) :: AV.int IntKind.i64 y8 :: AV.int IntKind.i64 y9 :: Env.sp 60 [])))
def f9e21 (y0 : Option (Nat × Nat)) (y1 : Int) (y2 : Int) (y3 : Int) (y4 : Int) (y5 : Bool) (y6 : Int) (y7 : Option (Nat × Nat)) (y8 : Nat) (y9 : Option Nat) (y10 : Int) (y11 : Int) (y12 : Bool) (y13 : Int) (y14 : Option (Nat × Nat)) (y15 : Int) (y16 : Int) (y17 : Int) (y18 : Option (Nat × Nat)) (y19 : Nat) (y20 : Option Nat) (y21 : ByteArray) (y22 : ByteArray) (y23 : Int) (y24 : Option (Nat × Nat)) (y25 : Nat) (y26 : Option Nat) (y27 : Bool) (y28 : Int) (y29 : Bool) (y30 : Int) : Env := Env.sp 3 (AV.ptr y0 :: Env.sp 1 (AV.int IntKind.i64 y1 :: AV.int IntKind.i64 y2 :: AV.int IntKind.i64 y3 :: AV.int IntKind.i64 y4 :: AV.bool y5 :: AV.int IntKind.i64 y6 :: Env.sp 27 (AV.slice y7 y8 y9 (1 : Nat) :: AV.int IntKind.i64 y10 :: AV.int IntKind.i64 y11 :: Env.sp 4 (AV.tuple [AV.bool y12, AV.int IntKind.i64 y13] :: AV.ptr y14 :: AV.int IntKind.i64 y15 :: AV.int IntKind.i64 y16 :: AV.int IntKind.u8 y17 :: AV.slice y18 y19 y20 (1 : Nat) :: AV.str y21 :: AV.agg [AV.str y22, AV.int IntKind.i64 y23, AV.slice y24 y25 y26 (2 : Nat)] :: AV.tuple [AV.bool y27, AV.int IntKind.i64 y28] :: AV.bool y29 :: AV.int IntKind.i64 y30 :: Env.sp 45 []))))
def f9e22 (y0 : Option (Nat × Nat)) (y1 : Int) (y2 : Int) (y3 : Int) (y4 : Int) (y5 : Bool) (y6 : Int) (y7 : Option (Nat × Nat)) (y8 : Nat) (y9 : Option Nat) (y10 : Int) (y11 : Int) : Env := Env.sp 3 (AV.ptr y0 :: Env.sp 1 (AV.int IntKind.i64 y1 :: AV.int IntKind.i64 y2 :: AV.int IntKind.i64 y3 :: AV.int IntKind.i64 y4 :: AV.bool y5 :: AV.int IntKind.i64 y6 :: Env.sp 27 (AV.slice y7 y8 y9 (1 : Nat) :: AV.int IntKind.i64 y10 :: AV.int IntKind.i64 y11 :: Env.sp 60 [])))
def f9e23 (y0 : Option (Nat × Nat)) (y1 : Int) (y2 : Int) (y3 : Int) (y4 : Int) (y5 : Bool) (y6 : Int) (y7 : Option (Nat × Nat)) (y8 : Nat) (y9 : Option Nat) (y10 : Int) (y11 : Int) (y12 : Int) (y13 : Bool) (y14 : Int) (y15 : Bool) (y16 : Bool) (y17 : Int) (y18 : Bool) (y19 : Bool) (y20 : Bool) : Env := Env.sp 3 (AV.ptr y0 :: Env.sp 1 (AV.int IntKind.i64 y1 :: AV.int IntKind.i64 y2 :: AV.int IntKind.i64 y3 :: AV.int IntKind.i64 y4 :: AV.bool y5 :: AV.int IntKind.i64 y6 :: Env.sp 27 (AV.slice y7 y8 y9 (1 : Nat) :: AV.int IntKind.i64 y10 :: AV.int IntKind.i64 y11 :: Env.sp 15 (AV.int IntKind.i64 y12 :: AV.bool y13 :: AV.int IntKind.i64 y14 :: AV.bool y15 :: AV.bool y16 :: AV.int IntKind.i64 y17 :: AV.bool y18 :: AV.bool y19 :: AV.bool y20 :: Env.sp 36 []))))
def f9e24 (y0 : Option (Nat × Nat)) (y1 : Int) (y2 : Int) (y3 : Int) (y4 : Int) (y5 : Bool) (y6 : Int) (y7 : Option (Nat × Nat)) (y8 : Nat) (y9 : Option Nat) (y10 : Int) (y11 : Int) (y12 : Int) (y13 : Bool) (y14 : Int) (y15 : Bool) (y16 : Bool) (y17 : Bool) (y18 : Bool) : Env := Env.sp 3 (AV.ptr y0 :: Env.sp 1 (AV.int IntKind.i64 y1 :: AV.int IntKind.i64 y2 :: AV.int IntKind.i64 y3 :: AV.int IntKind.i64 y4 :: AV.bool y5 :: AV.int IntKind.i64 y6 :: Env.sp 27 (AV.slice y7 y8 y9 (1 : Nat) :: AV.int IntKind.i64 y10 :: AV.int IntKind.i64 y11 :: Env.sp 15 (AV.int IntKind.i64 y12 :: AV.bool y13 :: AV.int IntKind.i64 y14 :: AV.bool y15 :: AV.bool y16 :: AV.tuple [] :: AV.tuple [] :: AV.bool y17 :: AV.bool y18 :: Env.sp 36 []))))
def f9e25 (y0 : Option (Nat × Nat)) (y1 : Int) (y2 : Int) (y3 : Int) (y4 : Int) (y5 : Bool) (y6 : Int) (y7 : Option (Nat × Nat)) (y8 : Nat) (y9 : Option Nat) (y10 : Int) (y11 : Int) (y12 : Bool) : Env := Env.sp 3 (AV.ptr y0 :: Env.sp 1 (AV.int IntKind.i64 y1 :: AV.int IntKind.i64 y2 :: AV.int IntKind.i64 y3 :: AV.int IntKind.i64 y4 :: AV.bool y5 :: AV.int IntKind.i64 y6 :: Env.sp 27 (AV.slice y7 y8 y9 (1 : Nat) :: AV.int IntKind.i64 y10 :: AV.int IntKind.i64 y11 :: Env.sp 23 (AV.bool y12 :: Env.sp 36 []))))
def f9e26 (y0 : Bool) (y1 : Option (Nat × Nat)) (y2 : Int) (y3 : Int) (y4 : Int) (y5 : Int) (y6 : Bool) (y7 : Int) (y8 : Option (Nat × Nat)) (y9 : Nat) (y10 : Option Nat) (y11 : Int) (y12 : Int) (y13 : Bool) : Env := Env.sp 2 (AV.bool y0 :: AV.ptr y1 :: Env.sp 1 (AV.int IntKind.i64 y2 :: AV.int IntKind.i64 y3 :: AV.int IntKind.i64 y4 :: AV.int IntKind.i64 y5 :: AV.bool y6 :: AV.int IntKind.i64 y7 :: Env.sp 27 (AV.slice y8 y9 y10 (1 : Nat) :: AV.int IntKind.i64 y11 :: AV.int IntKind.i64 y12 :: Env.sp 23 (AV.bool y13 :: Env.sp 36 []))))
def f9e27 (y0 : Option (Nat × Nat)) (y1 : Int) (y2 : Int) (y3 : Int) (y4 : Int) (y5 : Bool) (y6 : Int) (y7 : Option (Nat × Nat)) (y8 : Nat) (y9 : Option Nat) (y10 : Int) (y11 : Int) (y12 : Int) (y13 : Bool) : Env := Env.sp 3 (AV.ptr y0 :: Env.sp 1 (AV.int IntKind.i64 y1 :: AV.int IntKind.i64 y2 :: AV.int IntKind.i64 y3 :: AV.int IntKind.i64 y4 :: AV.bool y5 :: AV.int IntKind.i64 y6 :: Env.sp 27 (AV.slice y7 y8 y9 (1 : Nat) :: AV.int IntKind.i64 y10 :: AV.int IntKind.i64 y11 :: Env.sp 24 (AV.int IntKind.i64 y12 :: AV.bool y13 :: Env.sp 34 []))))
def f9e28 (y0 : Option (Nat × Nat)) (y1 : Int) (y2 : Int) (y3 : Int) (y4 : Int) (y5 : Bool) (y6 : Option (Nat × Nat)) (y7 : Nat) (y8 : Option Nat) (y9 : Int) (y10 : Int) (y11 : Bool) : Env := Env.sp 3 (AV.ptr y0 :: Env.sp 1 (AV.int IntKind.i64 y1 :: AV.int IntKind.i64 y2 :: AV.int IntKind.i64 y3 :: AV.int IntKind.i64 y4 :: AV.bool y5 :: Env.sp 28 (AV.slice y6 y7 y8 (1 : Nat) :: AV.int IntKind.i64 y9 :: AV.int IntKind.i64 y10 :: Env.sp 25 (AV.bool y11 :: Env.sp 34 []))))
def f9e29 (y0 : Option (Nat × Nat)) (y1 : Int) (y2 : Int) (y3 : Int) (y4 : Int) (y5 : Bool) (y6 : Option (Nat × Nat)) (y7 : Nat) (y8 : Option Nat) (y9 : Int) (y10 : Int) : Env := Env.sp 3 (AV.ptr y0 :: Env.sp 1 (AV.int IntKind.i64 y1 :: AV.int IntKind.i64 y2 :: AV.int IntKind.i64 y3 :: AV.int IntKind.i64 y4 :: AV.bool y5 :: Env.sp 28 (AV.slice y6 y7 y8 (1 : Nat) :: AV.int IntKind.i64 y9 :: AV.int IntKind.i64 y10 :: Env.sp 60 [])))
def f9e30 (y0 : Option (Nat × Nat)) (y1 : Int) (y2 : Int) (y3 : Int) (y4 : Int) (y5 : Bool) (y6 : Option (Nat × Nat)) (y7 : Nat) (y8 : Option Nat) (y9 : Int) (y10 : Int) (y11 : Bool) (y12 : Int) (y13 : Int) (y14 : Bool) (y15 : Bool) : Env := Env.sp 3 (AV.ptr y0 :: Env.sp 1 (AV.int IntKind.i64 y1 :: AV.int IntKind.i64 y2 :: AV.int IntKind.i64 y3 :: AV.int IntKind.i64 y4 :: AV.bool y5 :: Env.sp 28 (AV.slice y6 y7 y8 (1 : Nat) :: AV.int IntKind.i64 y9 :: AV.int IntKind.i64 y10 :: Env.sp 26 (AV.bool y11 :: AV.int IntKind.i64 y12 :: AV.int IntKind.i64 y13 :: AV.bool y14 :: AV.bool y15 :: Env.sp 29 []))))
def f9e31 (y0 : Option (Nat × Nat)) (y1 : Int) (y2 : Int) (y3 : Int) (y4 : Int) (y5 : Option (Nat × Nat)) (y6 : Nat) (y7 : Option Nat) (y8 : Int) (y9 : Int) (y10 : Bool) : Env := Env.sp 3 (AV.ptr y0 :: Env.sp 1 (AV.int IntKind.i64 y1 :: AV.int IntKind.i64 y2 :: AV.int IntKind.i64 y3 :: AV.int IntKind.i64 y4 :: Env.sp 29 (AV.slice y5 y6 y7 (1 : Nat) :: AV.int IntKind.i64 y8 :: AV.int IntKind.i64 y9 :: Env.sp 30 (AV.bool y10 :: Env.sp 29 []))))
def f9e32 (y0 : Bool) (y1 : Option (Nat × Nat)) (y2 : Int) (y3 : Int) (y4 : Int) (y5 : Int) (y6 : Option (Nat × Nat)) (y7 : Nat) (y8 : Option Nat) (y9 : Int) (y10 : Int) (y11 : Bool) : Env := Env.sp 2 (AV.bool y0 :: AV.ptr y1 :: Env.sp 1 (AV.int IntKind.i64 y2 :: AV.int IntKind.i64 y3 :: AV.int IntKind.i64 y4 :: AV.int IntKind.i64 y5 :: Env.sp 29 (AV.slice y6 y7 y8 (1 : Nat) :: AV.int IntKind.i64 y9 :: AV.int IntKind.i64 y10 :: Env.sp 30 (AV.bool y11 :: Env.sp 29 []))))
def f9e33 (y0 : Option (Nat × Nat)) (y1 : Int) (y2 : Int) (y3 : Int) (y4 : Int) (y5 : Option (Nat × Nat)) (y6 : Nat) (y7 : Option Nat) (y8 : Int) (y9 : Int) (y10 : Int) (y11 : Int) (y12 : Bool) : Env := Env.sp 3 (AV.ptr y0 :: Env.sp 1 (AV.int IntKind.i64 y1 :: AV.int IntKind.i64 y2 :: AV.int IntKind.i64 y3 :: AV.int IntKind.i64 y4 :: Env.sp 29 (AV.slice y5 y6 y7 (1 : Nat) :: AV.int IntKind.i64 y8 :: AV.int IntKind.i64 y9 :: Env.sp 31 (AV.int IntKind.i64 y10 :: AV.int IntKind.i64 y11 :: AV.bool y12 :: Env.sp 26 []))))
def f9e34 (y0 : Option (Nat × Nat)) (y1 : Int) (y2 : Int) (y3 : Int) (y4 : Int) (y5 : Option (Nat × Nat)) (y6 : Nat) (y7 : Option Nat) (y8 : Int) (y9 : Int) (y10 : Bool) : Env := Env.sp 3 (AV.ptr y0 :: Env.sp 1 (AV.int IntKind.i64 y1 :: AV.int IntKind.i64 y2 :: AV.int IntKind.i64 y3 :: AV.int IntKind.i64 y4 :: Env.sp 29 (AV.slice y5 y6 y7 (1 : Nat) :: AV.int IntKind.i64 y8 :: AV.int IntKind.i64 y9 :: Env.sp 33 (AV.bool y10 :: Env.sp 26 []))))
def f9e35 (y0 : Option (Nat × Nat)) (y1 : Int) (y2 : Int) (y3 : Int) (y4 : Int) (y5 : Option (Nat × Nat)) (y6 : Nat) (y7 : Option Nat) (y8 : Int) (y9 : Int) (y10 : Bool) (y11 : Int) : Env := Env.sp 3 (AV.ptr y0 :: Env.sp 1 (AV.int IntKind.i64 y1 :: AV.int IntKind.i64 y2 :: AV.int IntKind.i64 y3 :: AV.int IntKind.i64 y4 :: Env.sp 29 (AV.slice y5 y6 y7 (1 : Nat) :: AV.int IntKind.i64 y8 :: AV.int IntKind.i64 y9 :: Env.sp 33 (AV.bool y10 :: AV.int IntKind.i64 y11 :: Env.sp 25 []))))
def f9e36 (y0 : Option (Nat × Nat)) (y1 : Int) (y2 : Int) (y3 : Option (Nat × Nat)) (y4 : Nat) (y5 : Option Nat) (y6 : Int) (y7 : Int) : Env := Env.sp 3 (AV.ptr y0 :: Env.sp 1 (AV.int IntKind.i64 y1 :: Env.sp 1 (AV.int IntKind.i64 y2 :: Env.sp 30 (AV.slice y3 y4 y5 (1 : Nat) :: AV.int IntKind.i64 y6 :: AV.int IntKind.i64 y7 :: Env.sp 60 []))))
def f9e37 (y0 : Option (Nat × Nat)) (y1 : Int) (y2 : Int) (y3 : Int) (y4 : Option (Nat × Nat)) (y5 : Nat) (y6 : Option Nat) (y7 : Int) (y8 : Int) (y9 : Int) : Env := Env.sp 3 (AV.ptr y0 :: Env.sp 1 (AV.int IntKind.i64 y1 :: AV.int IntKind.i64 y2 :: AV.int IntKind.i64 y3 :: Env.sp 30 (AV.slice y4 y5 y6 (1 : Nat) :: AV.int IntKind.i64 y7 :: AV.int IntKind.i64 y8 :: Env.sp 35 (AV.int IntKind.i64 y9 :: Env.sp 24 []))))
def f9e38 (y0 : Option (Nat × Nat)) (y1 : Int) (y2 : Int) (y3 : Int) (y4 : Nat) (y5 : Bool) (y6 : Option (Nat × Nat)) (y7 : Nat) (y8 : Option Nat) (y9 : Int) (y10 : Int) (y11 : Int) (y12 : ByteArray) (y13 : Int) (y14 : Option (Nat × Nat)) (y15 : Nat) (y16 : Option Nat) (y17 : Bool) (y18 : Option (Nat × Nat)) (y19 : Int) (y20 : ByteArray) (y21 : Int) (y22 : Option (Nat × Nat)) (y23 : Nat) (y24 : Option Nat) (y25 : Bool) (y26 : Int) (y27 : ByteArray) (y28 : Int) (y29 : Option (Nat × Nat)) (y30 : Nat) (y31 : Option Nat) (y32 : Bool) : Env := Env.sp 3 (AV.ptr y0 :: Env.sp 1 (AV.int IntKind.i64 y1 :: AV.int IntKind.i64 y2 :: Env.sp 4 (AV.int IntKind.i64 y3 :: AV.ptr (some (y4, (0 : Nat))) :: AV.bool y5 :: Env.sp 24 (AV.slice y6 y7 y8 (1 : Nat) :: AV.int IntKind.i64 y9 :: AV.int IntKind.i64 y10 :: Env.sp 36 (AV.tuple [AV.int IntKind.i64 y11, AV.agg [AV.str y12, AV.int IntKind.i64 y13, AV.slice y14 y15 y16 (2 : Nat)], AV.bool y17] :: AV.ptr y18 :: AV.tuple [AV.int IntKind.i64 y19, AV.agg [AV.str y20, AV.int IntKind.i64 y21, AV.slice y22 y23 y24 (2 : Nat)], AV.bool y25] :: AV.int IntKind.i64 y26 :: AV.agg [AV.str y27, AV.int IntKind.i64 y28, AV.slice y29 y30 y31 (2 : Nat)] :: AV.bool y32 :: Env.sp 18 [])))))
def f9e39 (y0 : Option (Nat × Nat)) (y1 : Int) (y2 : Int) (y3 : Int) (y4 : Nat) (y5 : Bool) (y6 : Option (Nat × Nat)) (y7 : Nat) (y8 : Option Nat) (y9 : Int) (y10 : Int) : Env := Env.sp 3 (AV.ptr y0 :: Env.sp 1 (AV.int IntKind.i64 y1 :: AV.int IntKind.i64 y2 :: Env.sp 4 (AV.int IntKind.i64 y3 :: AV.ptr (some (y4, (0 : Nat))) :: AV.bool y5 :: Env.sp 24 (AV.slice y6 y7 y8 (1 : Nat) :: AV.int IntKind.i64 y9 :: AV.int IntKind.i64 y10 :: Env.sp 60 []))))
def f9e40 (y0 : Option (Nat × Nat)) (y1 : Int) (y2 : Int) (y3 : Int) (y4 : Nat) (y5 : Bool) (y6 : Option (Nat × Nat)) (y7 : Nat) (y8 : Option Nat) (y9 : Int) (y10 : Int) (y11 : Bool) (y12 : Bool) (y13 : Bool) (y14 : Bool) (y15 : Bool) (y16 : Bool) : Env := Env.sp 3 (AV.ptr y0 :: Env.sp 1 (AV.int IntKind.i64 y1 :: AV.int IntKind.i64 y2 :: Env.sp 4 (AV.int IntKind.i64 y3 :: AV.ptr (some (y4, (0 : Nat))) :: AV.bool y5 :: Env.sp 24 (AV.slice y6 y7 y8 (1 : Nat) :: AV.int IntKind.i64 y9 :: AV.int IntKind.i64 y10 :: Env.sp 42 (AV.bool y11 :: AV.bool y12 :: AV.bool y13 :: AV.tuple [] :: AV.tuple [] :: AV.tuple [] :: AV.bool y14 :: AV.bool y15 :: AV.tuple [] :: AV.tuple [] :: AV.tuple [] :: AV.tuple [] :: AV.tuple [] :: AV.tuple [] :: AV.tuple [] :: AV.bool y16 :: Env.sp 2 [])))))
def f9e41 (y0 : Option (Nat × Nat)) (y1 : Int) (y2 : Int) (y3 : Int) (y4 : Nat) (y5 : Bool) (y6 : Option (Nat × Nat)) (y7 : Nat) (y8 : Option Nat) (y9 : Int) (y10 : Int) (y11 : Bool) (y12 : Bool) (y13 : Bool) (y14 : Int) (y15 : Int) (y16 : Bool) (y17 : Bool) (y18 : Bool) (y19 : Bool) : Env := Env.sp 3 (AV.ptr y0 :: Env.sp 1 (AV.int IntKind.i64 y1 :: AV.int IntKind.i64 y2 :: Env.sp 4 (AV.int IntKind.i64 y3 :: AV.ptr (some (y4, (0 : Nat))) :: AV.bool y5 :: Env.sp 24 (AV.slice y6 y7 y8 (1 : Nat) :: AV.int IntKind.i64 y9 :: AV.int IntKind.i64 y10 :: Env.sp 42 (AV.bool y11 :: AV.bool y12 :: AV.bool y13 :: AV.int IntKind.i64 y14 :: AV.int IntKind.i64 y15 :: AV.bool y16 :: AV.bool y17 :: AV.bool y18 :: AV.tuple [] :: AV.tuple [] :: AV.tuple [] :: AV.tuple [] :: AV.tuple [] :: AV.tuple [] :: AV.tuple [] :: AV.bool y19 :: Env.sp 2 [])))))
def f9e42 (y0 : Option (Nat × Nat)) (y1 : Int) (y2 : Int) (y3 : Int) (y4 : Nat) (y5 : Bool) (y6 : Option (Nat × Nat)) (y7 : Nat) (y8 : Option Nat) (y9 : Int) (y10 : Int) (y11 : Bool) (y12 : Bool) (y13 : Bool) (y14 : Int) (y15 : Int) (y16 : Bool) (y17 : Bool) (y18 : Bool) (y19 : Nat) (y20 : ByteArray) (y21 : Int) (y22 : Int) (y23 : Option (Nat × Nat)) (y24 : Nat) (y25 : Option Nat) (y26 : ByteArray) (y27 : Bool) (y28 : Bool) : Env := Env.sp 3 (AV.ptr y0 :: Env.sp 1 (AV.int IntKind.i64 y1 :: AV.int IntKind.i64 y2 :: Env.sp 4 (AV.int IntKind.i64 y3 :: AV.ptr (some (y4, (0 : Nat))) :: AV.bool y5 :: Env.sp 24 (AV.slice y6 y7 y8 (1 : Nat) :: AV.int IntKind.i64 y9 :: AV.int IntKind.i64 y10 :: Env.sp 42 (AV.bool y11 :: AV.bool y12 :: AV.bool y13 :: AV.int IntKind.i64 y14 :: AV.int IntKind.i64 y15 :: AV.bool y16 :: AV.bool y17 :: AV.bool y18 :: AV.ptr (some (y19, (0 : Nat))) :: AV.str y20 :: AV.int IntKind.i64 y21 :: AV.int IntKind.u8 y22 :: AV.slice y23 y24 y25 (1 : Nat) :: AV.str y26 :: AV.bool y27 :: AV.bool y28 :: Env.sp 2 [])))))
def f9e43 (y0 : Option (Nat × Nat)) (y1 : Int) (y2 : Int) (y3 : Option (Nat × Nat)) (y4 : Nat) (y5 : Option Nat) (y6 : Int) (y7 : Int) (y8 : Bool) : Env := Env.sp 3 (AV.ptr y0 :: Env.sp 1 (AV.int IntKind.i64 y1 :: AV.int IntKind.i64 y2 :: Env.sp 31 (AV.slice y3 y4 y5 (1 : Nat) :: AV.int IntKind.i64 y6 :: AV.int IntKind.i64 y7 :: Env.sp 57 (AV.bool y8 :: Env.sp 2 []))))
def f9e44 (y0 : Bool) (y1 : Option (Nat × Nat)) (y2 : Int) (y3 : Int) (y4 : Option (Nat × Nat)) (y5 : Nat) (y6 : Option Nat) (y7 : Int) (y8 : Int) (y9 : Bool) : Env := Env.sp 2 (AV.bool y0 :: AV.ptr y1 :: Env.sp 1 (AV.int IntKind.i64 y2 :: AV.int IntKind.i64 y3 :: Env.sp 31 (AV.slice y4 y5 y6 (1 : Nat) :: AV.int IntKind.i64 y7 :: AV.int IntKind.i64 y8 :: Env.sp 57 (AV.bool y9 :: Env.sp 2 []))))
def f9e45 (y0 : Option (Nat × Nat)) (y1 : Int) (y2 : Int) (y3 : Option (Nat × Nat)) (y4 : Nat) (y5 : Option Nat) (y6 : Int) (y7 : Int) (y8 : Int) : Env := Env.sp 3 (AV.ptr y0 :: Env.sp 1 (AV.int IntKind.i64 y1 :: AV.int IntKind.i64 y2 :: Env.sp 31 (AV.slice y3 y4 y5 (1 : Nat) :: AV.int IntKind.i64 y6 :: AV.int IntKind.i64 y7 :: Env.sp 58 (AV.int IntKind.i64 y8 :: Env.sp 1 []))))
def f9e46 (y0 : Bool) (y1 : Bool) : Env := Env.sp 2 (AV.bool y0 :: Env.sp 97 (AV.bool y1 :: []))

/- function 9 -/
theorem f9_eq {R : Type} (call : Bool → CallF R) (dem : Bool) (N : Nat) (y0 : Option (Nat × Nat)) (y1 : Nat) (y2 : Option Nat) (σ : St) (K : AV → St → Option R) :
    bodyK Try.prog call dem N ann 9 [AV.slice y0 y1 y2 (1 : Nat)] σ K = runK Try.prog call dem N f9c0 f9a0 (bodyC Try.prog f9rs K) (f9e0 y0 y1 y2) σ := bodyK_of (fn := ((Try.prog.funcs[9]?).get rfl)) (by kernel_rfl) (by kernel_rfl) (by kernel_rfl) (by kernel_rfl) (by kernel_rfl) (by kernel_rfl)
theorem f9n0 {R : Type} (call : Bool → CallF R) (dem : Bool) (N : Nat) (J : KF R) (e : Env) (σ : St) : runK Try.prog call dem N f9c0 f9a0 J e σ = runK Try.prog call dem N f9c1 f9a1 (seqC (fun K e σ => runK Try.prog call dem N f9c2 f9a2 K e σ) f9a0 J) e σ := runK_seq' (by kernel_rfl) (by kernel_rfl) (by kernel_rfl)
theorem f9r1_f9e0 {R : Type} (call : Bool → CallF R) (dem : Bool) (N : Nat) (y0 : Option (Nat × Nat)) (y1 : Nat) (y2 : Option Nat) (J : KF R) (σ : St) :
    runK Try.prog call dem N f9c1 f9a1 J (f9e0 y0 y1 y2) σ =
J Ex.normal (f9e1 y0 y1 y2 false) σ := hide (by kernel_rfl)
theorem f9z0_f9e1 (y0 : Option (Nat × Nat)) (y1 : Nat) (y2 : Option Nat) (y3 : Bool) : Ann.clr f9a0 (f9e1 y0 y1 y2 y3) = f9e0 y0 y1 y2 := hide (by kernel_rfl)
theorem f9n2 {R : Type} (call : Bool → CallF R) (dem : Bool) (N : Nat) (J : KF R) (e : Env) (σ : St) : runK Try.prog call dem N f9c2 f9a2 J e σ = runK Try.prog call dem N f9c3 f9a3 (seqC (fun K e σ => runK Try.prog call dem N f9c4 f9a4 K e σ) f9a2 J) e σ := runK_seq' (by kernel_rfl) (by kernel_rfl) (by kernel_rfl)
theorem f9r3_f9e0 {R : Type} (call : Bool → CallF R) (dem : Bool) (N : Nat) (y0 : Option (Nat × Nat)) (y1 : Nat) (y2 : Option Nat) (J : KF R) (σ : St) :
    runK Try.prog call dem N f9c3 f9a3 J (f9e0 y0 y1 y2) σ =
call dem (13 : Nat) [AV.int IntKind.i64 (1 : Int), AV.int IntKind.i64 (1 : Int)] σ fun v0 v1 =>
  Option.bind (AV.toTuple v0) fun v2 =>
    if List.length v2 = (2 : Nat) then
      Option.bind (List.head? v2) fun v3 =>
        Option.bind (AV.toPtr v3) fun v4 =>
          Option.bind (List.head? (List.tail v2)) fun v5 =>
            Option.bind (AV.toInt IntKind.i64 v5) fun v6 => J Ex.normal (f9e2 y0 y1 y2 v4 v6 v4 v6 v4 v6 v4 v6) v1
    else none := hide (by kernel_rfl)
theorem f9z2_f9e2 (y0 : Option (Nat × Nat)) (y1 : Nat) (y2 : Option Nat) (y3 : Option (Nat × Nat)) (y4 : Int) (y5 : Option (Nat × Nat)) (y6 : Int) (y7 : Option (Nat × Nat)) (y8 : Int) (y9 : Option (Nat × Nat)) (y10 : Int) : Ann.clr f9a2 (f9e2 y0 y1 y2 y3 y4 y5 y6 y7 y8 y9 y10) = f9e3 y0 y1 y2 y3 y4 := hide (by kernel_rfl)
theorem f9n4 {R : Type} (call : Bool → CallF R) (dem : Bool) (N : Nat) (J : KF R) (e : Env) (σ : St) : runK Try.prog call dem N f9c4 f9a4 J e σ = runK Try.prog call dem N f9c5 f9a5 (seqC (fun K e σ => runK Try.prog call dem N f9c6 f9a6 K e σ) f9a4 J) e σ := runK_seq' (by kernel_rfl) (by kernel_rfl) (by kernel_rfl)
theorem f9n5 {R : Type} (call : Bool → CallF R) (dem : Bool) (N : Nat) (J : KF R) (e : Env) (σ : St) : runK Try.prog call dem N f9c5 f9a5 J e σ = runK Try.prog call dem N f9c7 f9a7 (seqC (fun K e σ => runK Try.prog call dem N f9c8 f9a8 K e σ) f9a5 J) e σ := runK_seq' (by kernel_rfl) (by kernel_rfl) (by kernel_rfl)
theorem f9r7_f9e3 {R : Type} (call : Bool → CallF R) (dem : Bool) (N : Nat) (y0 : Option (Nat × Nat)) (y1 : Nat) (y2 : Option Nat) (y3 : Option (Nat × Nat)) (y4 : Int) (J : KF R) (σ : St) :
    runK Try.prog call dem N f9c7 f9a7 J (f9e3 y0 y1 y2 y3 y4) σ =
if (y4 != (0 : Int)) = true then J Ex.normal (f9e4 y0 y1 y2 y3 y4 y4 (y4 != (0 : Int)) true true true true) σ
else
  if Option.isNone y3 = true then J Ex.normal (f9e5 y0 y1 y2 y3 y4 y4 (y4 != (0 : Int)) false y3 (Option.isNone y3) (Option.isNone y3) true true) σ
  else
    J Ex.normal
      (f9e6 y0 y1 y2 y3 y4 y4 (y4 != (0 : Int)) false y3 (Option.isNone y3) (Option.isNone y3) false y0 y1 y2 (↑y1 : Int)
        (decide ((↑y1 : Int) > (200 : Int))) (decide ((↑y1 : Int) > (200 : Int))))
      σ := hide (by kernel_rfl)
theorem f9z5_f9e4 (y0 : Option (Nat × Nat)) (y1 : Nat) (y2 : Option Nat) (y3 : Option (Nat × Nat)) (y4 : Int) (y5 : Int) (y6 : Bool) (y7 : Bool) (y8 : Bool) (y9 : Bool) (y10 : Bool) : Ann.clr f9a5 (f9e4 y0 y1 y2 y3 y4 y5 y6 y7 y8 y9 y10) = f9e7 y0 y1 y2 y3 y4 y10 := hide (by kernel_rfl)
theorem f9x8_f9e7 {R : Type} (call : Bool → CallF R) (dem : Bool) (N : Nat) (y0 : Option (Nat × Nat)) (y1 : Nat) (y2 : Option Nat) (y3 : Option (Nat × Nat)) (y4 : Int) (y5 : Bool) (J : KF R) (σ : St) : runK Try.prog call dem N f9c8 f9a8 J (f9e7 y0 y1 y2 y3 y4 y5) σ = if y5 = true then runK Try.prog call dem N f9c9 f9a9 (condC f9a8 J) (f9e7 y0 y1 y2 y3 y4 y5) σ else runK Try.prog call dem N f9c10 f9a10 (condC f9a8 J) (f9e7 y0 y1 y2 y3 y4 y5) σ := runK_cond' (o := Operand.tmp (28 : Nat)) (by kernel_rfl) (by kernel_rfl) (by kernel_rfl) (by kernel_rfl)
theorem f9n9 {R : Type} (call : Bool → CallF R) (dem : Bool) (N : Nat) (J : KF R) (e : Env) (σ : St) : runK Try.prog call dem N f9c9 f9a9 J e σ = runK Try.prog call dem N f9c11 f9a11 (seqC (fun K e σ => runK Try.prog call dem N f9c12 f9a12 K e σ) f9a9 J) e σ := runK_seq' (by kernel_rfl) (by kernel_rfl) (by kernel_rfl)
theorem f9r11_f9e7 {R : Type} (call : Bool → CallF R) (dem : Bool) (N : Nat) (y0 : Option (Nat × Nat)) (y1 : Nat) (y2 : Option Nat) (y3 : Option (Nat × Nat)) (y4 : Int) (y5 : Bool) (J : KF R) (σ : St) :
    runK Try.prog call dem N f9c11 f9a11 J (f9e7 y0 y1 y2 y3 y4 y5) σ =
if (y4 == (0 : Int)) = true then
  if (!Option.isNone y3) = true then
    call dem (15 : Nat) [] σ fun v0 v1 =>
      Option.bind (AV.toBool v0) fun v2 =>
        J Ex.normal (f9e8 y0 y1 y2 v2 y3 y4 y5 y4 (y4 == (0 : Int)) true y3 (!Option.isNone y3) (!Option.isNone y3) true v2 v2) v1
  else J Ex.normal (f9e9 y0 y1 y2 false y3 y4 y5 y4 (y4 == (0 : Int)) true y3 (!Option.isNone y3) (!Option.isNone y3) false false) σ
else J Ex.normal (f9e10 y0 y1 y2 false y3 y4 y5 y4 (y4 == (0 : Int)) false false false false) σ := hide (by kernel_rfl)
theorem f9z9_f9e8 (y0 : Option (Nat × Nat)) (y1 : Nat) (y2 : Option Nat) (y3 : Bool) (y4 : Option (Nat × Nat)) (y5 : Int) (y6 : Bool) (y7 : Int) (y8 : Bool) (y9 : Bool) (y10 : Option (Nat × Nat)) (y11 : Bool) (y12 : Bool) (y13 : Bool) (y14 : Bool) (y15 : Bool) : Ann.clr f9a9 (f9e8 y0 y1 y2 y3 y4 y5 y6 y7 y8 y9 y10 y11 y12 y13 y14 y15) = f9e11 y3 := hide (by kernel_rfl)
theorem f9y12_f9e11 {R : Type} (call : Bool → CallF R) (dem : Bool) (N : Nat) (y0 : Bool) (J : KF R) (σ : St) : runK Try.prog call dem N f9c12 f9a12 J (f9e11 y0) σ = J .ret (f9e11 y0) σ := runK_ret' (by kernel_rfl) (by kernel_rfl)
theorem f9z9_f9e9 (y0 : Option (Nat × Nat)) (y1 : Nat) (y2 : Option Nat) (y3 : Bool) (y4 : Option (Nat × Nat)) (y5 : Int) (y6 : Bool) (y7 : Int) (y8 : Bool) (y9 : Bool) (y10 : Option (Nat × Nat)) (y11 : Bool) (y12 : Bool) (y13 : Bool) (y14 : Bool) : Ann.clr f9a9 (f9e9 y0 y1 y2 y3 y4 y5 y6 y7 y8 y9 y10 y11 y12 y13 y14) = f9e11 y3 := hide (by kernel_rfl)
theorem f9z9_f9e10 (y0 : Option (Nat × Nat)) (y1 : Nat) (y2 : Option Nat) (y3 : Bool) (y4 : Option (Nat × Nat)) (y5 : Int) (y6 : Bool) (y7 : Int) (y8 : Bool) (y9 : Bool) (y10 : Bool) (y11 : Bool) (y12 : Bool) : Ann.clr f9a9 (f9e10 y0 y1 y2 y3 y4 y5 y6 y7 y8 y9 y10 y11 y12) = f9e11 y3 := hide (by kernel_rfl)
theorem f9n10 {R : Type} (call : Bool → CallF R) (dem : Bool) (N : Nat) (J : KF R) (e : Env) (σ : St) : runK Try.prog call dem N f9c10 f9a10 J e σ = J .normal e σ := runK_skip' (by kernel_rfl)
theorem f9z8_f9e7 (y0 : Option (Nat × Nat)) (y1 : Nat) (y2 : Option Nat) (y3 : Option (Nat × Nat)) (y4 : Int) (y5 : Bool) : Ann.clr f9a8 (f9e7 y0 y1 y2 y3 y4 y5) = f9e12 y0 y1 y2 y3 := hide (by kernel_rfl)
theorem f9z5_f9e5 (y0 : Option (Nat × Nat)) (y1 : Nat) (y2 : Option Nat) (y3 : Option (Nat × Nat)) (y4 : Int) (y5 : Int) (y6 : Bool) (y7 : Bool) (y8 : Option (Nat × Nat)) (y9 : Bool) (y10 : Bool) (y11 : Bool) (y12 : Bool) : Ann.clr f9a5 (f9e5 y0 y1 y2 y3 y4 y5 y6 y7 y8 y9 y10 y11 y12) = f9e7 y0 y1 y2 y3 y4 y12 := hide (by kernel_rfl)
theorem f9z5_f9e6 (y0 : Option (Nat × Nat)) (y1 : Nat) (y2 : Option Nat) (y3 : Option (Nat × Nat)) (y4 : Int) (y5 : Int) (y6 : Bool) (y7 : Bool) (y8 : Option (Nat × Nat)) (y9 : Bool) (y10 : Bool) (y11 : Bool) (y12 : Option (Nat × Nat)) (y13 : Nat) (y14 : Option Nat) (y15 : Int) (y16 : Bool) (y17 : Bool) : Ann.clr f9a5 (f9e6 y0 y1 y2 y3 y4 y5 y6 y7 y8 y9 y10 y11 y12 y13 y14 y15 y16 y17) = f9e7 y0 y1 y2 y3 y4 y17 := hide (by kernel_rfl)
theorem f9z4_f9e12 (y0 : Option (Nat × Nat)) (y1 : Nat) (y2 : Option Nat) (y3 : Option (Nat × Nat)) : Ann.clr f9a4 (f9e12 y0 y1 y2 y3) = f9e12 y0 y1 y2 y3 := hide (by kernel_rfl)
theorem f9n6 {R : Type} (call : Bool → CallF R) (dem : Bool) (N : Nat) (J : KF R) (e : Env) (σ : St) : runK Try.prog call dem N f9c6 f9a6 J e σ = runK Try.prog call dem N f9c13 f9a13 (seqC (fun K e σ => runK Try.prog call dem N f9c14 f9a14 K e σ) f9a6 J) e σ := runK_seq' (by kernel_rfl) (by kernel_rfl) (by kernel_rfl)
theorem f9r13_f9e12 {R : Type} (call : Bool → CallF R) (dem : Bool) (N : Nat) (y0 : Option (Nat × Nat)) (y1 : Nat) (y2 : Option Nat) (y3 : Option (Nat × Nat)) (J : KF R) (σ : St) :
    runK Try.prog call dem N f9c13 f9a13 J (f9e12 y0 y1 y2 y3) σ =
J Ex.normal (f9e13 y0 y1 y2 y3 (-1 : Int)) σ := hide (by kernel_rfl)
theorem f9z6_f9e13 (y0 : Option (Nat × Nat)) (y1 : Nat) (y2 : Option Nat) (y3 : Option (Nat × Nat)) (y4 : Int) : Ann.clr f9a6 (f9e13 y0 y1 y2 y3 y4) = f9e13 y0 y1 y2 y3 y4 := hide (by kernel_rfl)
theorem f9n14 {R : Type} (call : Bool → CallF R) (dem : Bool) (N : Nat) (J : KF R) (e : Env) (σ : St) : runK Try.prog call dem N f9c14 f9a14 J e σ = runK Try.prog call dem N f9c15 f9a15 (seqC (fun K e σ => runK Try.prog call dem N f9c16 f9a16 K e σ) f9a14 J) e σ := runK_seq' (by kernel_rfl) (by kernel_rfl) (by kernel_rfl)
theorem f9r15_f9e13 {R : Type} (call : Bool → CallF R) (dem : Bool) (N : Nat) (y0 : Option (Nat × Nat)) (y1 : Nat) (y2 : Option Nat) (y3 : Option (Nat × Nat)) (y4 : Int) (J : KF R) (σ : St) :
    runK Try.prog call dem N f9c15 f9a15 J (f9e13 y0 y1 y2 y3 y4) σ =
J Ex.normal (f9e14 y0 y1 y2 y3 y4 (0 : Int)) σ := hide (by kernel_rfl)
theorem f9z14_f9e14 (y0 : Option (Nat × Nat)) (y1 : Nat) (y2 : Option Nat) (y3 : Option (Nat × Nat)) (y4 : Int) (y5 : Int) : Ann.clr f9a14 (f9e14 y0 y1 y2 y3 y4 y5) = f9e14 y0 y1 y2 y3 y4 y5 := hide (by kernel_rfl)
theorem f9n16 {R : Type} (call : Bool → CallF R) (dem : Bool) (N : Nat) (J : KF R) (e : Env) (σ : St) : runK Try.prog call dem N f9c16 f9a16 J e σ = runK Try.prog call dem N f9c17 f9a17 (seqC (fun K e σ => runK Try.prog call dem N f9c18 f9a18 K e σ) f9a16 J) e σ := runK_seq' (by kernel_rfl) (by kernel_rfl) (by kernel_rfl)
theorem f9n17 {R : Type} (call : Bool → CallF R) (dem : Bool) (N : Nat) (J : KF R) (e : Env) (σ : St) : runK Try.prog call dem N f9c17 f9a17 J e σ = runK Try.prog call dem N f9c19 f9a19 (seqC (fun K e σ => runK Try.prog call dem N f9c20 f9a20 K e σ) f9a17 J) e σ := runK_seq' (by kernel_rfl) (by kernel_rfl) (by kernel_rfl)
theorem f9r19_f9e14 {R : Type} (call : Bool → CallF R) (dem : Bool) (N : Nat) (y0 : Option (Nat × Nat)) (y1 : Nat) (y2 : Option Nat) (y3 : Option (Nat × Nat)) (y4 : Int) (y5 : Int) (J : KF R) (σ : St) :
    runK Try.prog call dem N f9c19 f9a19 J (f9e14 y0 y1 y2 y3 y4 y5) σ =
J Ex.normal (f9e15 y0 y1 y2 y3 y4 y5 y0 y1 y2 (↑y1 : Int) (0 : Int)) σ := hide (by kernel_rfl)
theorem f9z17_f9e15 (y0 : Option (Nat × Nat)) (y1 : Nat) (y2 : Option Nat) (y3 : Option (Nat × Nat)) (y4 : Int) (y5 : Int) (y6 : Option (Nat × Nat)) (y7 : Nat) (y8 : Option Nat) (y9 : Int) (y10 : Int) : Ann.clr f9a17 (f9e15 y0 y1 y2 y3 y4 y5 y6 y7 y8 y9 y10) = f9e16 y3 y4 y5 y6 y7 y8 y9 y10 := hide (by kernel_rfl)
theorem f9n20 {R : Type} (call : Bool → CallF R) (dem : Bool) (N : Nat) (J : KF R) (e : Env) (σ : St) : runK Try.prog call dem N f9c20 f9a20 J e σ = runK Try.prog call dem N f9c21 f9a21 (blockC 0 f9a20 J) e σ := runK_block' (by kernel_rfl) (by kernel_rfl)
theorem f9L21_eq {R : Type} (call : Bool → CallF R) (dem : Bool) (N : Nat) (J : KF R) (e : Env) (σ : St) : f9L21 call dem N J e σ = runK Try.prog call dem N f9c22 f9a22 J e σ := hide rfl
theorem f9z21_f9e16 (y0 : Option (Nat × Nat)) (y1 : Int) (y2 : Int) (y3 : Option (Nat × Nat)) (y4 : Nat) (y5 : Option Nat) (y6 : Int) (y7 : Int) : Ann.clr f9a21 (f9e16 y0 y1 y2 y3 y4 y5 y6 y7) = f9e16 y0 y1 y2 y3 y4 y5 y6 y7 := hide (by kernel_rfl)
theorem f9l21_f9e16 {R : Type} (call : Bool → CallF R) (dem : Bool) (N : Nat) (y0 : Option (Nat × Nat)) (y1 : Int) (y2 : Int) (y3 : Option (Nat × Nat)) (y4 : Nat) (y5 : Option Nat) (y6 : Int) (y7 : Int) (J : KF R) (σ : St) : runK Try.prog call dem N f9c21 f9a21 J (f9e16 y0 y1 y2 y3 y4 y5 y6 y7) σ = loopK (f9L21 call dem N) f9a21 N J (f9e16 y0 y1 y2 y3 y4 y5 y6 y7) σ := runK_loop' (by kernel_rfl) (by kernel_rfl) (by kernel_rfl)
theorem f9n22 {R : Type} (call : Bool → CallF R) (dem : Bool) (N : Nat) (J : KF R) (e : Env) (σ : St) : runK Try.prog call dem N f9c22 f9a22 J e σ = runK Try.prog call dem N f9c23 f9a23 (seqC (fun K e σ => runK Try.prog call dem N f9c24 f9a24 K e σ) f9a22 J) e σ := runK_seq' (by kernel_rfl) (by kernel_rfl) (by kernel_rfl)
theorem f9r23_f9e16 {R : Type} (call : Bool → CallF R) (dem : Bool) (N : Nat) (y0 : Option (Nat × Nat)) (y1 : Int) (y2 : Int) (y3 : Option (Nat × Nat)) (y4 : Nat) (y5 : Option Nat) (y6 : Int) (y7 : Int) (J : KF R) (σ : St) :
    runK Try.prog call dem N f9c23 f9a23 J (f9e16 y0 y1 y2 y3 y4 y5 y6 y7) σ =
J Ex.normal (f9e17 y0 y1 y2 y3 y4 y5 y6 y7 (decide (y7 < y6))) σ := hide (by kernel_rfl)
theorem f9z22_f9e17 (y0 : Option (Nat × Nat)) (y1 : Int) (y2 : Int) (y3 : Option (Nat × Nat)) (y4 : Nat) (y5 : Option Nat) (y6 : Int) (y7 : Int) (y8 : Bool) : Ann.clr f9a22 (f9e17 y0 y1 y2 y3 y4 y5 y6 y7 y8) = f9e17 y0 y1 y2 y3 y4 y5 y6 y7 y8 := hide (by kernel_rfl)
theorem f9n24 {R : Type} (call : Bool → CallF R) (dem : Bool) (N : Nat) (J : KF R) (e : Env) (σ : St) : runK Try.prog call dem N f9c24 f9a24 J e σ = runK Try.prog call dem N f9c25 f9a25 (seqC (fun K e σ => runK Try.prog call dem N f9c26 f9a26 K e σ) f9a24 J) e σ := runK_seq' (by kernel_rfl) (by kernel_rfl) (by kernel_rfl)
theorem f9x25_f9e17 {R : Type} (call : Bool → CallF R) (dem : Bool) (N : Nat) (y0 : Option (Nat × Nat)) (y1 : Int) (y2 : Int) (y3 : Option (Nat × Nat)) (y4 : Nat) (y5 : Option Nat) (y6 : Int) (y7 : Int) (y8 : Bool) (J : KF R) (σ : St) : runK Try.prog call dem N f9c25 f9a25 J (f9e17 y0 y1 y2 y3 y4 y5 y6 y7 y8) σ = if y8 = true then runK Try.prog call dem N f9c27 f9a27 (condC f9a25 J) (f9e17 y0 y1 y2 y3 y4 y5 y6 y7 y8) σ else runK Try.prog call dem N f9c28 f9a28 (condC f9a25 J) (f9e17 y0 y1 y2 y3 y4 y5 y6 y7 y8) σ := runK_cond' (o := Operand.tmp (41 : Nat)) (by kernel_rfl) (by kernel_rfl) (by kernel_rfl) (by kernel_rfl)
theorem f9n27 {R : Type} (call : Bool → CallF R) (dem : Bool) (N : Nat) (J : KF R) (e : Env) (σ : St) : runK Try.prog call dem N f9c27 f9a27 J e σ = J .normal e σ := runK_skip' (by kernel_rfl)
theorem f9z25_f9e17 (y0 : Option (Nat × Nat)) (y1 : Int) (y2 : Int) (y3 : Option (Nat × Nat)) (y4 : Nat) (y5 : Option Nat) (y6 : Int) (y7 : Int) (y8 : Bool) : Ann.clr f9a25 (f9e17 y0 y1 y2 y3 y4 y5 y6 y7 y8) = f9e16 y0 y1 y2 y3 y4 y5 y6 y7 := hide (by kernel_rfl)
theorem f9y28_f9e17 {R : Type} (call : Bool → CallF R) (dem : Bool) (N : Nat) (y0 : Option (Nat × Nat)) (y1 : Int) (y2 : Int) (y3 : Option (Nat × Nat)) (y4 : Nat) (y5 : Option Nat) (y6 : Int) (y7 : Int) (y8 : Bool) (J : KF R) (σ : St) : runK Try.prog call dem N f9c28 f9a28 J (f9e17 y0 y1 y2 y3 y4 y5 y6 y7 y8) σ = J (.exit 0) (f9e18) σ := runK_exit' (by kernel_rfl) (by kernel_rfl)
theorem f9z24_f9e16 (y0 : Option (Nat × Nat)) (y1 : Int) (y2 : Int) (y3 : Option (Nat × Nat)) (y4 : Nat) (y5 : Option Nat) (y6 : Int) (y7 : Int) : Ann.clr f9a24 (f9e16 y0 y1 y2 y3 y4 y5 y6 y7) = f9e16 y0 y1 y2 y3 y4 y5 y6 y7 := hide (by kernel_rfl)
theorem f9n26 {R : Type} (call : Bool → CallF R) (dem : Bool) (N : Nat) (J : KF R) (e : Env) (σ : St) : runK Try.prog call dem N f9c26 f9a26 J e σ = runK Try.prog call dem N f9c29 f9a29 (seqC (fun K e σ => runK Try.prog call dem N f9c30 f9a30 K e σ) f9a26 J) e σ := runK_seq' (by kernel_rfl) (by kernel_rfl) (by kernel_rfl)
theorem f9n29 {R : Type} (call : Bool → CallF R) (dem : Bool) (N : Nat) (J : KF R) (e : Env) (σ : St) : runK Try.prog call dem N f9c29 f9a29 J e σ = runK Try.prog call dem N f9c31 f9a31 (blockC 1 f9a29 J) e σ := runK_block' (by kernel_rfl) (by kernel_rfl)
theorem f9n31 {R : Type} (call : Bool → CallF R) (dem : Bool) (N : Nat) (J : KF R) (e : Env) (σ : St) : runK Try.prog call dem N f9c31 f9a31 J e σ = runK Try.prog call dem N f9c32 f9a32 (seqC (fun K e σ => runK Try.prog call dem N f9c33 f9a33 K e σ) f9a31 J) e σ := runK_seq' (by kernel_rfl) (by kernel_rfl) (by kernel_rfl)
theorem f9r32_f9e16 {R : Type} (call : Bool → CallF R) (dem : Bool) (N : Nat) (y0 : Option (Nat × Nat)) (y1 : Int) (y2 : Int) (y3 : Option (Nat × Nat)) (y4 : Nat) (y5 : Option Nat) (y6 : Int) (y7 : Int) (J : KF R) (σ : St) :
    runK Try.prog call dem N f9c32 f9a32 J (f9e16 y0 y1 y2 y3 y4 y5 y6 y7) σ =
if (0 : Int) ≤ y7 ∧ y7 < (↑y4 : Int) then
  Option.bind y3 fun v0 =>
    Option.bind (St.ld σ (Prod.fst v0) (Prod.snd v0 + Int.toNat y7 * (1 : Nat))) fun v1 =>
      Option.bind (AV.toInt IntKind.i64 v1) fun v2 =>
        J Ex.normal (f9e19 y0 y1 y2 y7 v2 y3 y4 y5 y6 y7 y7 (some (Prod.fst v0, Prod.snd v0 + Int.toNat y7 * (1 : Nat))) v2) σ
else none := hide (by kernel_rfl)
theorem f9z31_f9e19 (y0 : Option (Nat × Nat)) (y1 : Int) (y2 : Int) (y3 : Int) (y4 : Int) (y5 : Option (Nat × Nat)) (y6 : Nat) (y7 : Option Nat) (y8 : Int) (y9 : Int) (y10 : Int) (y11 : Option (Nat × Nat)) (y12 : Int) : Ann.clr f9a31 (f9e19 y0 y1 y2 y3 y4 y5 y6 y7 y8 y9 y10 y11 y12) = f9e20 y0 y1 y2 y3 y4 y5 y6 y7 y8 y9 := hide (by kernel_rfl)
theorem f9n33 {R : Type} (call : Bool → CallF R) (dem : Bool) (N : Nat) (J : KF R) (e : Env) (σ : St) : runK Try.prog call dem N f9c33 f9a33 J e σ = runK Try.prog call dem N f9c34 f9a34 (seqC (fun K e σ => runK Try.prog call dem N f9c35 f9a35 K e σ) f9a33 J) e σ := runK_seq' (by kernel_rfl) (by kernel_rfl) (by kernel_rfl)
theorem f9r34_f9e20 {R : Type} (call : Bool → CallF R) (dem : Bool) (N : Nat) (y0 : Option (Nat × Nat)) (y1 : Int) (y2 : Int) (y3 : Int) (y4 : Int) (y5 : Option (Nat × Nat)) (y6 : Nat) (y7 : Option Nat) (y8 : Int) (y9 : Int) (J : KF R) (σ : St) :
    runK Try.prog call dem N f9c34 f9a34 J (f9e20 y0 y1 y2 y3 y4 y5 y6 y7 y8 y9) σ =
Option.bind
  (St.elems (St.new σ (Blk.cells [AV.int IntKind.u8 (IntKind.wrap IntKind.u8 y3)] true)) (1 : Nat)
    (Sl.mk (some (St.next σ, (0 : Nat))) (1 : Nat) (some (1 : Nat))) (1 : Nat))
  fun v0 =>
  Option.bind (bytesOf v0 ByteArray.empty) fun v1 =>
    call dem (33 : Nat)
      [AV.ptr y0, AV.int IntKind.i64 y4, AV.int IntKind.i64 (5 : Int),
        AV.agg [AV.str v1, AV.int IntKind.i64 (0 : Int), AV.slice none (0 : Nat) (some (0 : Nat)) (2 : Nat)]]
      (St.new σ (Blk.cells [AV.int IntKind.u8 (IntKind.wrap IntKind.u8 y3)] true)) fun v2 v3 =>
      Option.bind (AV.toTuple v2) fun v4 =>
        if List.length v4 = (2 : Nat) then
          Option.bind (List.head? v4) fun v5 =>
            Option.bind (AV.toBool v5) fun v6 =>
              Option.bind (List.head? (List.tail v4)) fun v7 =>
                Option.bind (AV.toInt IntKind.i64 v7) fun v8 =>
                  J Ex.normal
                    (f9e21 y0 y1 y2 y3 y4 v6 v8 y5 y6 y7 y8 y9 v6 v8 y0 y4 y3 (IntKind.wrap IntKind.u8 y3) (some (St.next σ, (0 : Nat))) (1 : Nat)
                      (some (1 : Nat)) v1 v1 (0 : Int) none (0 : Nat) (some (0 : Nat)) v6 v8 v6 v8)
                    v3
        else none := hide (by kernel_rfl)
theorem f9z33_f9e21 (y0 : Option (Nat × Nat)) (y1 : Int) (y2 : Int) (y3 : Int) (y4 : Int) (y5 : Bool) (y6 : Int) (y7 : Option (Nat × Nat)) (y8 : Nat) (y9 : Option Nat) (y10 : Int) (y11 : Int) (y12 : Bool) (y13 : Int) (y14 : Option (Nat × Nat)) (y15 : Int) (y16 : Int) (y17 : Int) (y18 : Option (Nat × Nat)) (y19 : Nat) (y20 : Option Nat) (y21 : ByteArray) (y22 : ByteArray) (y23 : Int) (y24 : Option (Nat × Nat)) (y25 : Nat) (y26 : Option Nat) (y27 : Bool) (y28 : Int) (y29 : Bool) (y30 : Int) : Ann.clr f9a33 (f9e21 y0 y1 y2 y3 y4 y5 y6 y7 y8 y9 y10 y11 y12 y13 y14 y15 y16 y17 y18 y19 y20 y21 y22 y23 y24 y25 y26 y27 y28 y29 y30) = f9e22 y0 y1 y2 y3 y4 y5 y6 y7 y8 y9 y10 y11 := hide (by kernel_rfl)
theorem f9n35 {R : Type} (call : Bool → CallF R) (dem : Bool) (N : Nat) (J : KF R) (e : Env) (σ : St) : runK Try.prog call dem N f9c35 f9a35 J e σ = runK Try.prog call dem N f9c36 f9a36 (seqC (fun K e σ => runK Try.prog call dem N f9c37 f9a37 K e σ) f9a35 J) e σ := runK_seq' (by kernel_rfl) (by kernel_rfl) (by kernel_rfl)
theorem f9n36 {R : Type} (call : Bool → CallF R) (dem : Bool) (N : Nat) (J : KF R) (e : Env) (σ : St) : runK Try.prog call dem N f9c36 f9a36 J e σ = runK Try.prog call dem N f9c38 f9a38 (seqC (fun K e σ => runK Try.prog call dem N f9c39 f9a39 K e σ) f9a36 J) e σ := runK_seq' (by kernel_rfl) (by kernel_rfl) (by kernel_rfl)
theorem f9r38_f9e22 {R : Type} (call : Bool → CallF R) (dem : Bool) (N : Nat) (y0 : Option (Nat × Nat)) (y1 : Int) (y2 : Int) (y3 : Int) (y4 : Int) (y5 : Bool) (y6 : Int) (y7 : Option (Nat × Nat)) (y8 : Nat) (y9 : Option Nat) (y10 : Int) (y11 : Int) (J : KF R) (σ : St) :
    runK Try.prog call dem N f9c38 f9a38 J (f9e22 y0 y1 y2 y3 y4 y5 y6 y7 y8 y9 y10 y11) σ =
if decide (y4 ≥ (0 : Int)) = true then
  J Ex.normal
    (f9e23 y0 y1 y2 y3 y4 y5 y6 y7 y8 y9 y10 y11 y6 (y6 == (0 : Int)) y4 (decide (y4 ≥ (0 : Int))) true y4 (decide (y4 ≤ (1099511627776 : Int)))
      (decide (y4 ≤ (1099511627776 : Int))) !(y6 == (0 : Int)) == decide (y4 ≤ (1099511627776 : Int)))
    σ
else
  J Ex.normal (f9e24 y0 y1 y2 y3 y4 y5 y6 y7 y8 y9 y10 y11 y6 (y6 == (0 : Int)) y4 (decide (y4 ≥ (0 : Int))) false false !(y6 == (0 : Int)) == false)
    σ := hide (by kernel_rfl)
theorem f9z36_f9e23 (y0 : Option (Nat × Nat)) (y1 : Int) (y2 : Int) (y3 : Int) (y4 : Int) (y5 : Bool) (y6 : Int) (y7 : Option (Nat × Nat)) (y8 : Nat) (y9 : Option Nat) (y10 : Int) (y11 : Int) (y12 : Int) (y13 : Bool) (y14 : Int) (y15 : Bool) (y16 : Bool) (y17 : Int) (y18 : Bool) (y19 : Bool) (y20 : Bool) : Ann.clr f9a36 (f9e23 y0 y1 y2 y3 y4 y5 y6 y7 y8 y9 y10 y11 y12 y13 y14 y15 y16 y17 y18 y19 y20) = f9e25 y0 y1 y2 y3 y4 y5 y6 y7 y8 y9 y10 y11 y20 := hide (by kernel_rfl)
theorem f9x39_f9e25 {R : Type} (call : Bool → CallF R) (dem : Bool) (N : Nat) (y0 : Option (Nat × Nat)) (y1 : Int) (y2 : Int) (y3 : Int) (y4 : Int) (y5 : Bool) (y6 : Int) (y7 : Option (Nat × Nat)) (y8 : Nat) (y9 : Option Nat) (y10 : Int) (y11 : Int) (y12 : Bool) (J : KF R) (σ : St) : runK Try.prog call dem N f9c39 f9a39 J (f9e25 y0 y1 y2 y3 y4 y5 y6 y7 y8 y9 y10 y11 y12) σ = if y12 = true then runK Try.prog call dem N f9c40 f9a40 (condC f9a39 J) (f9e25 y0 y1 y2 y3 y4 y5 y6 y7 y8 y9 y10 y11 y12) σ else runK Try.prog call dem N f9c41 f9a41 (condC f9a39 J) (f9e25 y0 y1 y2 y3 y4 y5 y6 y7 y8 y9 y10 y11 y12) σ := runK_cond' (o := Operand.tmp (64 : Nat)) (by kernel_rfl) (by kernel_rfl) (by kernel_rfl) (by kernel_rfl)
theorem f9n40 {R : Type} (call : Bool → CallF R) (dem : Bool) (N : Nat) (J : KF R) (e : Env) (σ : St) : runK Try.prog call dem N f9c40 f9a40 J e σ = runK Try.prog call dem N f9c42 f9a42 (seqC (fun K e σ => runK Try.prog call dem N f9c43 f9a43 K e σ) f9a40 J) e σ := runK_seq' (by kernel_rfl) (by kernel_rfl) (by kernel_rfl)
theorem f9r42_f9e25 {R : Type} (call : Bool → CallF R) (dem : Bool) (N : Nat) (y0 : Option (Nat × Nat)) (y1 : Int) (y2 : Int) (y3 : Int) (y4 : Int) (y5 : Bool) (y6 : Int) (y7 : Option (Nat × Nat)) (y8 : Nat) (y9 : Option Nat) (y10 : Int) (y11 : Int) (y12 : Bool) (J : KF R) (σ : St) :
    runK Try.prog call dem N f9c42 f9a42 J (f9e25 y0 y1 y2 y3 y4 y5 y6 y7 y8 y9 y10 y11 y12) σ =
J Ex.normal (f9e26 false y0 y1 y2 y3 y4 y5 y6 y7 y8 y9 y10 y11 y12) σ := hide (by kernel_rfl)
theorem f9z40_f9e26 (y0 : Bool) (y1 : Option (Nat × Nat)) (y2 : Int) (y3 : Int) (y4 : Int) (y5 : Int) (y6 : Bool) (y7 : Int) (y8 : Option (Nat × Nat)) (y9 : Nat) (y10 : Option Nat) (y11 : Int) (y12 : Int) (y13 : Bool) : Ann.clr f9a40 (f9e26 y0 y1 y2 y3 y4 y5 y6 y7 y8 y9 y10 y11 y12 y13) = f9e11 y0 := hide (by kernel_rfl)
theorem f9y43_f9e11 {R : Type} (call : Bool → CallF R) (dem : Bool) (N : Nat) (y0 : Bool) (J : KF R) (σ : St) : runK Try.prog call dem N f9c43 f9a43 J (f9e11 y0) σ = J .ret (f9e11 y0) σ := runK_ret' (by kernel_rfl) (by kernel_rfl)
theorem f9n41 {R : Type} (call : Bool → CallF R) (dem : Bool) (N : Nat) (J : KF R) (e : Env) (σ : St) : runK Try.prog call dem N f9c41 f9a41 J e σ = J .normal e σ := runK_skip' (by kernel_rfl)
theorem f9z39_f9e25 (y0 : Option (Nat × Nat)) (y1 : Int) (y2 : Int) (y3 : Int) (y4 : Int) (y5 : Bool) (y6 : Int) (y7 : Option (Nat × Nat)) (y8 : Nat) (y9 : Option Nat) (y10 : Int) (y11 : Int) (y12 : Bool) : Ann.clr f9a39 (f9e25 y0 y1 y2 y3 y4 y5 y6 y7 y8 y9 y10 y11 y12) = f9e22 y0 y1 y2 y3 y4 y5 y6 y7 y8 y9 y10 y11 := hide (by kernel_rfl)
theorem f9z36_f9e24 (y0 : Option (Nat × Nat)) (y1 : Int) (y2 : Int) (y3 : Int) (y4 : Int) (y5 : Bool) (y6 : Int) (y7 : Option (Nat × Nat)) (y8 : Nat) (y9 : Option Nat) (y10 : Int) (y11 : Int) (y12 : Int) (y13 : Bool) (y14 : Int) (y15 : Bool) (y16 : Bool) (y17 : Bool) (y18 : Bool) : Ann.clr f9a36 (f9e24 y0 y1 y2 y3 y4 y5 y6 y7 y8 y9 y10 y11 y12 y13 y14 y15 y16 y17 y18) = f9e25 y0 y1 y2 y3 y4 y5 y6 y7 y8 y9 y10 y11 y18 := hide (by kernel_rfl)
theorem f9z35_f9e22 (y0 : Option (Nat × Nat)) (y1 : Int) (y2 : Int) (y3 : Int) (y4 : Int) (y5 : Bool) (y6 : Int) (y7 : Option (Nat × Nat)) (y8 : Nat) (y9 : Option Nat) (y10 : Int) (y11 : Int) : Ann.clr f9a35 (f9e22 y0 y1 y2 y3 y4 y5 y6 y7 y8 y9 y10 y11) = f9e22 y0 y1 y2 y3 y4 y5 y6 y7 y8 y9 y10 y11 := hide (by kernel_rfl)
theorem f9n37 {R : Type} (call : Bool → CallF R) (dem : Bool) (N : Nat) (J : KF R) (e : Env) (σ : St) : runK Try.prog call dem N f9c37 f9a37 J e σ = runK Try.prog call dem N f9c44 f9a44 (seqC (fun K e σ => runK Try.prog call dem N f9c45 f9a45 K e σ) f9a37 J) e σ := runK_seq' (by kernel_rfl) (by kernel_rfl) (by kernel_rfl)
theorem f9n44 {R : Type} (call : Bool → CallF R) (dem : Bool) (N : Nat) (J : KF R) (e : Env) (σ : St) : runK Try.prog call dem N f9c44 f9a44 J e σ = runK Try.prog call dem N f9c46 f9a46 (seqC (fun K e σ => runK Try.prog call dem N f9c47 f9a47 K e σ) f9a44 J) e σ := runK_seq' (by kernel_rfl) (by kernel_rfl) (by kernel_rfl)
theorem f9r46_f9e22 {R : Type} (call : Bool → CallF R) (dem : Bool) (N : Nat) (y0 : Option (Nat × Nat)) (y1 : Int) (y2 : Int) (y3 : Int) (y4 : Int) (y5 : Bool) (y6 : Int) (y7 : Option (Nat × Nat)) (y8 : Nat) (y9 : Option Nat) (y10 : Int) (y11 : Int) (J : KF R) (σ : St) :
    runK Try.prog call dem N f9c46 f9a46 J (f9e22 y0 y1 y2 y3 y4 y5 y6 y7 y8 y9 y10 y11) σ =
J Ex.normal (f9e27 y0 y1 y2 y3 y4 y5 y6 y7 y8 y9 y10 y11 y6 (y6 != (0 : Int))) σ := hide (by kernel_rfl)
theorem f9z44_f9e27 (y0 : Option (Nat × Nat)) (y1 : Int) (y2 : Int) (y3 : Int) (y4 : Int) (y5 : Bool) (y6 : Int) (y7 : Option (Nat × Nat)) (y8 : Nat) (y9 : Option Nat) (y10 : Int) (y11 : Int) (y12 : Int) (y13 : Bool) : Ann.clr f9a44 (f9e27 y0 y1 y2 y3 y4 y5 y6 y7 y8 y9 y10 y11 y12 y13) = f9e28 y0 y1 y2 y3 y4 y5 y7 y8 y9 y10 y11 y13 := hide (by kernel_rfl)
theorem f9x47_f9e28 {R : Type} (call : Bool → CallF R) (dem : Bool) (N : Nat) (y0 : Option (Nat × Nat)) (y1 : Int) (y2 : Int) (y3 : Int) (y4 : Int) (y5 : Bool) (y6 : Option (Nat × Nat)) (y7 : Nat) (y8 : Option Nat) (y9 : Int) (y10 : Int) (y11 : Bool) (J : KF R) (σ : St) : runK Try.prog call dem N f9c47 f9a47 J (f9e28 y0 y1 y2 y3 y4 y5 y6 y7 y8 y9 y10 y11) σ = if y11 = true then runK Try.prog call dem N f9c48 f9a48 (condC f9a47 J) (f9e28 y0 y1 y2 y3 y4 y5 y6 y7 y8 y9 y10 y11) σ else runK Try.prog call dem N f9c49 f9a49 (condC f9a47 J) (f9e28 y0 y1 y2 y3 y4 y5 y6 y7 y8 y9 y10 y11) σ := runK_cond' (o := Operand.tmp (66 : Nat)) (by kernel_rfl) (by kernel_rfl) (by kernel_rfl) (by kernel_rfl)
theorem f9y48_f9e28 {R : Type} (call : Bool → CallF R) (dem : Bool) (N : Nat) (y0 : Option (Nat × Nat)) (y1 : Int) (y2 : Int) (y3 : Int) (y4 : Int) (y5 : Bool) (y6 : Option (Nat × Nat)) (y7 : Nat) (y8 : Option Nat) (y9 : Int) (y10 : Int) (y11 : Bool) (J : KF R) (σ : St) : runK Try.prog call dem N f9c48 f9a48 J (f9e28 y0 y1 y2 y3 y4 y5 y6 y7 y8 y9 y10 y11) σ = J (.exit 1) (f9e16 y0 y1 y2 y6 y7 y8 y9 y10) σ := runK_exit' (by kernel_rfl) (by kernel_rfl)
theorem f9n49 {R : Type} (call : Bool → CallF R) (dem : Bool) (N : Nat) (J : KF R) (e : Env) (σ : St) : runK Try.prog call dem N f9c49 f9a49 J e σ = J .normal e σ := runK_skip' (by kernel_rfl)
theorem f9z47_f9e28 (y0 : Option (Nat × Nat)) (y1 : Int) (y2 : Int) (y3 : Int) (y4 : Int) (y5 : Bool) (y6 : Option (Nat × Nat)) (y7 : Nat) (y8 : Option Nat) (y9 : Int) (y10 : Int) (y11 : Bool) : Ann.clr f9a47 (f9e28 y0 y1 y2 y3 y4 y5 y6 y7 y8 y9 y10 y11) = f9e29 y0 y1 y2 y3 y4 y5 y6 y7 y8 y9 y10 := hide (by kernel_rfl)
theorem f9z37_f9e29 (y0 : Option (Nat × Nat)) (y1 : Int) (y2 : Int) (y3 : Int) (y4 : Int) (y5 : Bool) (y6 : Option (Nat × Nat)) (y7 : Nat) (y8 : Option Nat) (y9 : Int) (y10 : Int) : Ann.clr f9a37 (f9e29 y0 y1 y2 y3 y4 y5 y6 y7 y8 y9 y10) = f9e29 y0 y1 y2 y3 y4 y5 y6 y7 y8 y9 y10 := hide (by kernel_rfl)
theorem f9n45 {R : Type} (call : Bool → CallF R) (dem : Bool) (N : Nat) (J : KF R) (e : Env) (σ : St) : runK Try.prog call dem N f9c45 f9a45 J e σ = runK Try.prog call dem N f9c50 f9a50 (seqC (fun K e σ => runK Try.prog call dem N f9c51 f9a51 K e σ) f9a45 J) e σ := runK_seq' (by kernel_rfl) (by kernel_rfl) (by kernel_rfl)
theorem f9n50 {R : Type} (call : Bool → CallF R) (dem : Bool) (N : Nat) (J : KF R) (e : Env) (σ : St) : runK Try.prog call dem N f9c50 f9a50 J e σ = runK Try.prog call dem N f9c52 f9a52 (seqC (fun K e σ => runK Try.prog call dem N f9c53 f9a53 K e σ) f9a50 J) e σ := runK_seq' (by kernel_rfl) (by kernel_rfl) (by kernel_rfl)
theorem f9r52_f9e29 {R : Type} (call : Bool → CallF R) (dem : Bool) (N : Nat) (y0 : Option (Nat × Nat)) (y1 : Int) (y2 : Int) (y3 : Int) (y4 : Int) (y5 : Bool) (y6 : Option (Nat × Nat)) (y7 : Nat) (y8 : Option Nat) (y9 : Int) (y10 : Int) (J : KF R) (σ : St) :
    runK Try.prog call dem N f9c52 f9a52 J (f9e29 y0 y1 y2 y3 y4 y5 y6 y7 y8 y9 y10) σ =
J Ex.normal (f9e30 y0 y1 y2 y3 y4 y5 y6 y7 y8 y9 y10 y5 y4 y1 (decide (y4 > y1)) !y5 == decide (y4 > y1)) σ := hide (by kernel_rfl)
theorem f9z50_f9e30 (y0 : Option (Nat × Nat)) (y1 : Int) (y2 : Int) (y3 : Int) (y4 : Int) (y5 : Bool) (y6 : Option (Nat × Nat)) (y7 : Nat) (y8 : Option Nat) (y9 : Int) (y10 : Int) (y11 : Bool) (y12 : Int) (y13 : Int) (y14 : Bool) (y15 : Bool) : Ann.clr f9a50 (f9e30 y0 y1 y2 y3 y4 y5 y6 y7 y8 y9 y10 y11 y12 y13 y14 y15) = f9e31 y0 y1 y2 y3 y4 y6 y7 y8 y9 y10 y15 := hide (by kernel_rfl)
theorem f9x53_f9e31 {R : Type} (call : Bool → CallF R) (dem : Bool) (N : Nat) (y0 : Option (Nat × Nat)) (y1 : Int) (y2 : Int) (y3 : Int) (y4 : Int) (y5 : Option (Nat × Nat)) (y6 : Nat) (y7 : Option Nat) (y8 : Int) (y9 : Int) (y10 : Bool) (J : KF R) (σ : St) : runK Try.prog call dem N f9c53 f9a53 J (f9e31 y0 y1 y2 y3 y4 y5 y6 y7 y8 y9 y10) σ = if y10 = true then runK Try.prog call dem N f9c54 f9a54 (condC f9a53 J) (f9e31 y0 y1 y2 y3 y4 y5 y6 y7 y8 y9 y10) σ else runK Try.prog call dem N f9c55 f9a55 (condC f9a53 J) (f9e31 y0 y1 y2 y3 y4 y5 y6 y7 y8 y9 y10) σ := runK_cond' (o := Operand.tmp (71 : Nat)) (by kernel_rfl) (by kernel_rfl) (by kernel_rfl) (by kernel_rfl)
theorem f9n54 {R : Type} (call : Bool → CallF R) (dem : Bool) (N : Nat) (J : KF R) (e : Env) (σ : St) : runK Try.prog call dem N f9c54 f9a54 J e σ = runK Try.prog call dem N f9c56 f9a56 (seqC (fun K e σ => runK Try.prog call dem N f9c57 f9a57 K e σ) f9a54 J) e σ := runK_seq' (by kernel_rfl) (by kernel_rfl) (by kernel_rfl)
theorem f9r56_f9e31 {R : Type} (call : Bool → CallF R) (dem : Bool) (N : Nat) (y0 : Option (Nat × Nat)) (y1 : Int) (y2 : Int) (y3 : Int) (y4 : Int) (y5 : Option (Nat × Nat)) (y6 : Nat) (y7 : Option Nat) (y8 : Int) (y9 : Int) (y10 : Bool) (J : KF R) (σ : St) :
    runK Try.prog call dem N f9c56 f9a56 J (f9e31 y0 y1 y2 y3 y4 y5 y6 y7 y8 y9 y10) σ =
J Ex.normal (f9e32 false y0 y1 y2 y3 y4 y5 y6 y7 y8 y9 y10) σ := hide (by kernel_rfl)
theorem f9z54_f9e32 (y0 : Bool) (y1 : Option (Nat × Nat)) (y2 : Int) (y3 : Int) (y4 : Int) (y5 : Int) (y6 : Option (Nat × Nat)) (y7 : Nat) (y8 : Option Nat) (y9 : Int) (y10 : Int) (y11 : Bool) : Ann.clr f9a54 (f9e32 y0 y1 y2 y3 y4 y5 y6 y7 y8 y9 y10 y11) = f9e11 y0 := hide (by kernel_rfl)
theorem f9y57_f9e11 {R : Type} (call : Bool → CallF R) (dem : Bool) (N : Nat) (y0 : Bool) (J : KF R) (σ : St) : runK Try.prog call dem N f9c57 f9a57 J (f9e11 y0) σ = J .ret (f9e11 y0) σ := runK_ret' (by kernel_rfl) (by kernel_rfl)
theorem f9n55 {R : Type} (call : Bool → CallF R) (dem : Bool) (N : Nat) (J : KF R) (e : Env) (σ : St) : runK Try.prog call dem N f9c55 f9a55 J e σ = J .normal e σ := runK_skip' (by kernel_rfl)
theorem f9z53_f9e31 (y0 : Option (Nat × Nat)) (y1 : Int) (y2 : Int) (y3 : Int) (y4 : Int) (y5 : Option (Nat × Nat)) (y6 : Nat) (y7 : Option Nat) (y8 : Int) (y9 : Int) (y10 : Bool) : Ann.clr f9a53 (f9e31 y0 y1 y2 y3 y4 y5 y6 y7 y8 y9 y10) = f9e20 y0 y1 y2 y3 y4 y5 y6 y7 y8 y9 := hide (by kernel_rfl)
theorem f9z45_f9e20 (y0 : Option (Nat × Nat)) (y1 : Int) (y2 : Int) (y3 : Int) (y4 : Int) (y5 : Option (Nat × Nat)) (y6 : Nat) (y7 : Option Nat) (y8 : Int) (y9 : Int) : Ann.clr f9a45 (f9e20 y0 y1 y2 y3 y4 y5 y6 y7 y8 y9) = f9e20 y0 y1 y2 y3 y4 y5 y6 y7 y8 y9 := hide (by kernel_rfl)
theorem f9n51 {R : Type} (call : Bool → CallF R) (dem : Bool) (N : Nat) (J : KF R) (e : Env) (σ : St) : runK Try.prog call dem N f9c51 f9a51 J e σ = runK Try.prog call dem N f9c58 f9a58 (seqC (fun K e σ => runK Try.prog call dem N f9c59 f9a59 K e σ) f9a51 J) e σ := runK_seq' (by kernel_rfl) (by kernel_rfl) (by kernel_rfl)
theorem f9n58 {R : Type} (call : Bool → CallF R) (dem : Bool) (N : Nat) (J : KF R) (e : Env) (σ : St) : runK Try.prog call dem N f9c58 f9a58 J e σ = runK Try.prog call dem N f9c60 f9a60 (seqC (fun K e σ => runK Try.prog call dem N f9c61 f9a61 K e σ) f9a58 J) e σ := runK_seq' (by kernel_rfl) (by kernel_rfl) (by kernel_rfl)
theorem f9r60_f9e20 {R : Type} (call : Bool → CallF R) (dem : Bool) (N : Nat) (y0 : Option (Nat × Nat)) (y1 : Int) (y2 : Int) (y3 : Int) (y4 : Int) (y5 : Option (Nat × Nat)) (y6 : Nat) (y7 : Option Nat) (y8 : Int) (y9 : Int) (J : KF R) (σ : St) :
    runK Try.prog call dem N f9c60 f9a60 J (f9e20 y0 y1 y2 y3 y4 y5 y6 y7 y8 y9) σ =
J Ex.normal (f9e33 y0 y1 y2 y3 y4 y5 y6 y7 y8 y9 y4 y1 (decide (y4 > y1))) σ := hide (by kernel_rfl)
theorem f9z58_f9e33 (y0 : Option (Nat × Nat)) (y1 : Int) (y2 : Int) (y3 : Int) (y4 : Int) (y5 : Option (Nat × Nat)) (y6 : Nat) (y7 : Option Nat) (y8 : Int) (y9 : Int) (y10 : Int) (y11 : Int) (y12 : Bool) : Ann.clr f9a58 (f9e33 y0 y1 y2 y3 y4 y5 y6 y7 y8 y9 y10 y11 y12) = f9e34 y0 y1 y2 y3 y4 y5 y6 y7 y8 y9 y12 := hide (by kernel_rfl)
theorem f9x61_f9e34 {R : Type} (call : Bool → CallF R) (dem : Bool) (N : Nat) (y0 : Option (Nat × Nat)) (y1 : Int) (y2 : Int) (y3 : Int) (y4 : Int) (y5 : Option (Nat × Nat)) (y6 : Nat) (y7 : Option Nat) (y8 : Int) (y9 : Int) (y10 : Bool) (J : KF R) (σ : St) : runK Try.prog call dem N f9c61 f9a61 J (f9e34 y0 y1 y2 y3 y4 y5 y6 y7 y8 y9 y10) σ = if y10 = true then runK Try.prog call dem N f9c62 f9a62 (condC f9a61 J) (f9e34 y0 y1 y2 y3 y4 y5 y6 y7 y8 y9 y10) σ else runK Try.prog call dem N f9c63 f9a63 (condC f9a61 J) (f9e34 y0 y1 y2 y3 y4 y5 y6 y7 y8 y9 y10) σ := runK_cond' (o := Operand.tmp (74 : Nat)) (by kernel_rfl) (by kernel_rfl) (by kernel_rfl) (by kernel_rfl)
theorem f9n62 {R : Type} (call : Bool → CallF R) (dem : Bool) (N : Nat) (J : KF R) (e : Env) (σ : St) : runK Try.prog call dem N f9c62 f9a62 J e σ = runK Try.prog call dem N f9c64 f9a64 (seqC (fun K e σ => runK Try.prog call dem N f9c65 f9a65 K e σ) f9a62 J) e σ := runK_seq' (by kernel_rfl) (by kernel_rfl) (by kernel_rfl)
theorem f9r64_f9e34 {R : Type} (call : Bool → CallF R) (dem : Bool) (N : Nat) (y0 : Option (Nat × Nat)) (y1 : Int) (y2 : Int) (y3 : Int) (y4 : Int) (y5 : Option (Nat × Nat)) (y6 : Nat) (y7 : Option Nat) (y8 : Int) (y9 : Int) (y10 : Bool) (J : KF R) (σ : St) :
    runK Try.prog call dem N f9c64 f9a64 J (f9e34 y0 y1 y2 y3 y4 y5 y6 y7 y8 y9 y10) σ =
J Ex.normal (f9e35 y0 y4 y2 y3 y4 y5 y6 y7 y8 y9 y10 y4) σ := hide (by kernel_rfl)
theorem f9z62_f9e35 (y0 : Option (Nat × Nat)) (y1 : Int) (y2 : Int) (y3 : Int) (y4 : Int) (y5 : Option (Nat × Nat)) (y6 : Nat) (y7 : Option Nat) (y8 : Int) (y9 : Int) (y10 : Bool) (y11 : Int) : Ann.clr f9a62 (f9e35 y0 y1 y2 y3 y4 y5 y6 y7 y8 y9 y10 y11) = f9e36 y0 y1 y3 y5 y6 y7 y8 y9 := hide (by kernel_rfl)
theorem f9r65_f9e36 {R : Type} (call : Bool → CallF R) (dem : Bool) (N : Nat) (y0 : Option (Nat × Nat)) (y1 : Int) (y2 : Int) (y3 : Option (Nat × Nat)) (y4 : Nat) (y5 : Option Nat) (y6 : Int) (y7 : Int) (J : KF R) (σ : St) :
    runK Try.prog call dem N f9c65 f9a65 J (f9e36 y0 y1 y2 y3 y4 y5 y6 y7) σ =
J Ex.normal (f9e37 y0 y1 y2 y2 y3 y4 y5 y6 y7 y2) σ := hide (by kernel_rfl)
theorem f9z61_f9e37 (y0 : Option (Nat × Nat)) (y1 : Int) (y2 : Int) (y3 : Int) (y4 : Option (Nat × Nat)) (y5 : Nat) (y6 : Option Nat) (y7 : Int) (y8 : Int) (y9 : Int) : Ann.clr f9a61 (f9e37 y0 y1 y2 y3 y4 y5 y6 y7 y8 y9) = f9e16 y0 y1 y2 y4 y5 y6 y7 y8 := hide (by kernel_rfl)
theorem f9n63 {R : Type} (call : Bool → CallF R) (dem : Bool) (N : Nat) (J : KF R) (e : Env) (σ : St) : runK Try.prog call dem N f9c63 f9a63 J e σ = J .normal e σ := runK_skip' (by kernel_rfl)
theorem f9z61_f9e34 (y0 : Option (Nat × Nat)) (y1 : Int) (y2 : Int) (y3 : Int) (y4 : Int) (y5 : Option (Nat × Nat)) (y6 : Nat) (y7 : Option Nat) (y8 : Int) (y9 : Int) (y10 : Bool) : Ann.clr f9a61 (f9e34 y0 y1 y2 y3 y4 y5 y6 y7 y8 y9 y10) = f9e16 y0 y1 y2 y5 y6 y7 y8 y9 := hide (by kernel_rfl)
theorem f9z51_f9e16 (y0 : Option (Nat × Nat)) (y1 : Int) (y2 : Int) (y3 : Option (Nat × Nat)) (y4 : Nat) (y5 : Option Nat) (y6 : Int) (y7 : Int) : Ann.clr f9a51 (f9e16 y0 y1 y2 y3 y4 y5 y6 y7) = f9e16 y0 y1 y2 y3 y4 y5 y6 y7 := hide (by kernel_rfl)
theorem f9n59 {R : Type} (call : Bool → CallF R) (dem : Bool) (N : Nat) (J : KF R) (e : Env) (σ : St) : runK Try.prog call dem N f9c59 f9a59 J e σ = runK Try.prog call dem N f9c66 f9a66 (seqC (fun K e σ => runK Try.prog call dem N f9c67 f9a67 K e σ) f9a59 J) e σ := runK_seq' (by kernel_rfl) (by kernel_rfl) (by kernel_rfl)
theorem f9r66_f9e16 {R : Type} (call : Bool → CallF R) (dem : Bool) (N : Nat) (y0 : Option (Nat × Nat)) (y1 : Int) (y2 : Int) (y3 : Option (Nat × Nat)) (y4 : Nat) (y5 : Option Nat) (y6 : Int) (y7 : Int) (J : KF R) (σ : St) :
    runK Try.prog call dem N f9c66 f9a66 J (f9e16 y0 y1 y2 y3 y4 y5 y6 y7) σ =
call dem (34 : Nat) [AV.ptr y0, AV.int IntKind.i64 (5 : Int)] σ fun v0 v1 =>
  Option.bind (AV.toTuple v0) fun v2 =>
    if List.length v2 = (3 : Nat) then
      Option.bind (List.head? v2) fun v3 =>
        Option.bind (AV.toInt IntKind.i64 v3) fun v4 =>
          Option.bind (List.head? (List.tail v2)) fun v5 =>
            Option.bind (AV.toAgg v5) fun v6 =>
              if List.length v6 = (3 : Nat) then
                Option.bind (List.head? v6) fun v7 =>
                  Option.bind (AV.toStr v7) fun v8 =>
                    Option.bind (List.head? (List.tail v6)) fun v9 =>
                      Option.bind (AV.toInt IntKind.i64 v9) fun v10 =>
                        Option.bind (List.head? (List.tail (List.tail v6))) fun v11 =>
                          Option.bind (AV.toSl (2 : Nat) v11) fun v12 =>
                            Option.bind (List.head? (List.tail (List.tail v2))) fun v13 =>
                              Option.bind (AV.toBool v13) fun v14 =>
                                Option.bind
                                  (St.st
                                    (St.new v1
                                      (Blk.cells
                                        [AV.str (ByteArray.mk #[]), AV.int IntKind.i64 (0 : Int), AV.slice none (0 : Nat) (some (0 : Nat)) (2 : Nat)]
                                        true))
                                    (St.next v1) (0 : Nat)
                                    [AV.str v8, AV.int IntKind.i64 v10, AV.slice (Sl.o v12) (Sl.len v12) (Sl.cap v12) (2 : Nat)])
                                  fun v15 =>
                                  J Ex.normal
                                    (f9e38 y0 y1 y2 v4 (St.next v1) v14 y3 y4 y5 y6 y7 v4 v8 v10 (Sl.o v12) (Sl.len v12) (Sl.cap v12) v14 y0 v4 v8 v10
                                      (Sl.o v12) (Sl.len v12) (Sl.cap v12) v14 v4 v8 v10 (Sl.o v12) (Sl.len v12) (Sl.cap v12) v14)
                                    v15
              else none
    else none := hide (by kernel_rfl)
theorem f9z59_f9e38 (y0 : Option (Nat × Nat)) (y1 : Int) (y2 : Int) (y3 : Int) (y4 : Nat) (y5 : Bool) (y6 : Option (Nat × Nat)) (y7 : Nat) (y8 : Option Nat) (y9 : Int) (y10 : Int) (y11 : Int) (y12 : ByteArray) (y13 : Int) (y14 : Option (Nat × Nat)) (y15 : Nat) (y16 : Option Nat) (y17 : Bool) (y18 : Option (Nat × Nat)) (y19 : Int) (y20 : ByteArray) (y21 : Int) (y22 : Option (Nat × Nat)) (y23 : Nat) (y24 : Option Nat) (y25 : Bool) (y26 : Int) (y27 : ByteArray) (y28 : Int) (y29 : Option (Nat × Nat)) (y30 : Nat) (y31 : Option Nat) (y32 : Bool) : Ann.clr f9a59 (f9e38 y0 y1 y2 y3 y4 y5 y6 y7 y8 y9 y10 y11 y12 y13 y14 y15 y16 y17 y18 y19 y20 y21 y22 y23 y24 y25 y26 y27 y28 y29 y30 y31 y32) = f9e39 y0 y1 y2 y3 y4 y5 y6 y7 y8 y9 y10 := hide (by kernel_rfl)
theorem f9n67 {R : Type} (call : Bool → CallF R) (dem : Bool) (N : Nat) (J : KF R) (e : Env) (σ : St) : runK Try.prog call dem N f9c67 f9a67 J e σ = runK Try.prog call dem N f9c68 f9a68 (seqC (fun K e σ => runK Try.prog call dem N f9c69 f9a69 K e σ) f9a67 J) e σ := runK_seq' (by kernel_rfl) (by kernel_rfl) (by kernel_rfl)
theorem f9r68_f9e39 {R : Type} (call : Bool → CallF R) (dem : Bool) (N : Nat) (y0 : Option (Nat × Nat)) (y1 : Int) (y2 : Int) (y3 : Int) (y4 : Nat) (y5 : Bool) (y6 : Option (Nat × Nat)) (y7 : Nat) (y8 : Option Nat) (y9 : Int) (y10 : Int) (J : KF R) (σ : St) :
    runK Try.prog call dem N f9c68 f9a68 J (f9e39 y0 y1 y2 y3 y4 y5 y6 y7 y8 y9 y10) σ =
if (!y5) = true then J Ex.normal (f9e40 y0 y1 y2 y3 y4 y5 y6 y7 y8 y9 y10 y5 (!y5) true true true true) σ
else
  if (y3 != y1) = true then J Ex.normal (f9e41 y0 y1 y2 y3 y4 y5 y6 y7 y8 y9 y10 y5 (!y5) false y3 y1 (y3 != y1) (y3 != y1) true true) σ
  else
    Option.bind (St.ld σ y4 (0 : Nat)) fun v0 =>
      Option.bind (AV.toStr v0) fun v1 =>
        Option.bind
          (St.elems (St.new σ (Blk.cells [AV.int IntKind.u8 (IntKind.wrap IntKind.u8 y2)] true)) (1 : Nat)
            (Sl.mk (some (St.next σ, (0 : Nat))) (1 : Nat) (some (1 : Nat))) (1 : Nat))
          fun v2 =>
          Option.bind (bytesOf v2 ByteArray.empty) fun v3 =>
            J Ex.normal
              (f9e42 y0 y1 y2 y3 y4 y5 y6 y7 y8 y9 y10 y5 (!y5) false y3 y1 (y3 != y1) (y3 != y1) false y4 v1 y2 (IntKind.wrap IntKind.u8 y2)
                (some (St.next σ, (0 : Nat))) (1 : Nat) (some (1 : Nat)) v3 (!decide (v1 = v3)) !decide (v1 = v3))
              (St.new σ (Blk.cells [AV.int IntKind.u8 (IntKind.wrap IntKind.u8 y2)] true)) := hide (by kernel_rfl)
theorem f9z67_f9e40 (y0 : Option (Nat × Nat)) (y1 : Int) (y2 : Int) (y3 : Int) (y4 : Nat) (y5 : Bool) (y6 : Option (Nat × Nat)) (y7 : Nat) (y8 : Option Nat) (y9 : Int) (y10 : Int) (y11 : Bool) (y12 : Bool) (y13 : Bool) (y14 : Bool) (y15 : Bool) (y16 : Bool) : Ann.clr f9a67 (f9e40 y0 y1 y2 y3 y4 y5 y6 y7 y8 y9 y10 y11 y12 y13 y14 y15 y16) = f9e43 y0 y1 y2 y6 y7 y8 y9 y10 y16 := hide (by kernel_rfl)
theorem f9x69_f9e43 {R : Type} (call : Bool → CallF R) (dem : Bool) (N : Nat) (y0 : Option (Nat × Nat)) (y1 : Int) (y2 : Int) (y3 : Option (Nat × Nat)) (y4 : Nat) (y5 : Option Nat) (y6 : Int) (y7 : Int) (y8 : Bool) (J : KF R) (σ : St) : runK Try.prog call dem N f9c69 f9a69 J (f9e43 y0 y1 y2 y3 y4 y5 y6 y7 y8) σ = if y8 = true then runK Try.prog call dem N f9c70 f9a70 (condC f9a69 J) (f9e43 y0 y1 y2 y3 y4 y5 y6 y7 y8) σ else runK Try.prog call dem N f9c71 f9a71 (condC f9a69 J) (f9e43 y0 y1 y2 y3 y4 y5 y6 y7 y8) σ := runK_cond' (o := Operand.tmp (98 : Nat)) (by kernel_rfl) (by kernel_rfl) (by kernel_rfl) (by kernel_rfl)
theorem f9n70 {R : Type} (call : Bool → CallF R) (dem : Bool) (N : Nat) (J : KF R) (e : Env) (σ : St) : runK Try.prog call dem N f9c70 f9a70 J e σ = runK Try.prog call dem N f9c72 f9a72 (seqC (fun K e σ => runK Try.prog call dem N f9c73 f9a73 K e σ) f9a70 J) e σ := runK_seq' (by kernel_rfl) (by kernel_rfl) (by kernel_rfl)
theorem f9r72_f9e43 {R : Type} (call : Bool → CallF R) (dem : Bool) (N : Nat) (y0 : Option (Nat × Nat)) (y1 : Int) (y2 : Int) (y3 : Option (Nat × Nat)) (y4 : Nat) (y5 : Option Nat) (y6 : Int) (y7 : Int) (y8 : Bool) (J : KF R) (σ : St) :
    runK Try.prog call dem N f9c72 f9a72 J (f9e43 y0 y1 y2 y3 y4 y5 y6 y7 y8) σ =
J Ex.normal (f9e44 false y0 y1 y2 y3 y4 y5 y6 y7 y8) σ := hide (by kernel_rfl)
theorem f9z70_f9e44 (y0 : Bool) (y1 : Option (Nat × Nat)) (y2 : Int) (y3 : Int) (y4 : Option (Nat × Nat)) (y5 : Nat) (y6 : Option Nat) (y7 : Int) (y8 : Int) (y9 : Bool) : Ann.clr f9a70 (f9e44 y0 y1 y2 y3 y4 y5 y6 y7 y8 y9) = f9e11 y0 := hide (by kernel_rfl)
theorem f9y73_f9e11 {R : Type} (call : Bool → CallF R) (dem : Bool) (N : Nat) (y0 : Bool) (J : KF R) (σ : St) : runK Try.prog call dem N f9c73 f9a73 J (f9e11 y0) σ = J .ret (f9e11 y0) σ := runK_ret' (by kernel_rfl) (by kernel_rfl)
theorem f9n71 {R : Type} (call : Bool → CallF R) (dem : Bool) (N : Nat) (J : KF R) (e : Env) (σ : St) : runK Try.prog call dem N f9c71 f9a71 J e σ = J .normal e σ := runK_skip' (by kernel_rfl)
theorem f9z69_f9e43 (y0 : Option (Nat × Nat)) (y1 : Int) (y2 : Int) (y3 : Option (Nat × Nat)) (y4 : Nat) (y5 : Option Nat) (y6 : Int) (y7 : Int) (y8 : Bool) : Ann.clr f9a69 (f9e43 y0 y1 y2 y3 y4 y5 y6 y7 y8) = f9e16 y0 y1 y2 y3 y4 y5 y6 y7 := hide (by kernel_rfl)
theorem f9z67_f9e41 (y0 : Option (Nat × Nat)) (y1 : Int) (y2 : Int) (y3 : Int) (y4 : Nat) (y5 : Bool) (y6 : Option (Nat × Nat)) (y7 : Nat) (y8 : Option Nat) (y9 : Int) (y10 : Int) (y11 : Bool) (y12 : Bool) (y13 : Bool) (y14 : Int) (y15 : Int) (y16 : Bool) (y17 : Bool) (y18 : Bool) (y19 : Bool) : Ann.clr f9a67 (f9e41 y0 y1 y2 y3 y4 y5 y6 y7 y8 y9 y10 y11 y12 y13 y14 y15 y16 y17 y18 y19) = f9e43 y0 y1 y2 y6 y7 y8 y9 y10 y19 := hide (by kernel_rfl)
theorem f9z67_f9e42 (y0 : Option (Nat × Nat)) (y1 : Int) (y2 : Int) (y3 : Int) (y4 : Nat) (y5 : Bool) (y6 : Option (Nat × Nat)) (y7 : Nat) (y8 : Option Nat) (y9 : Int) (y10 : Int) (y11 : Bool) (y12 : Bool) (y13 : Bool) (y14 : Int) (y15 : Int) (y16 : Bool) (y17 : Bool) (y18 : Bool) (y19 : Nat) (y20 : ByteArray) (y21 : Int) (y22 : Int) (y23 : Option (Nat × Nat)) (y24 : Nat) (y25 : Option Nat) (y26 : ByteArray) (y27 : Bool) (y28 : Bool) : Ann.clr f9a67 (f9e42 y0 y1 y2 y3 y4 y5 y6 y7 y8 y9 y10 y11 y12 y13 y14 y15 y16 y17 y18 y19 y20 y21 y22 y23 y24 y25 y26 y27 y28) = f9e43 y0 y1 y2 y6 y7 y8 y9 y10 y28 := hide (by kernel_rfl)
theorem f9z29_f9e16 (y0 : Option (Nat × Nat)) (y1 : Int) (y2 : Int) (y3 : Option (Nat × Nat)) (y4 : Nat) (y5 : Option Nat) (y6 : Int) (y7 : Int) : Ann.clr f9a29 (f9e16 y0 y1 y2 y3 y4 y5 y6 y7) = f9e16 y0 y1 y2 y3 y4 y5 y6 y7 := hide (by kernel_rfl)
theorem f9z26_f9e16 (y0 : Option (Nat × Nat)) (y1 : Int) (y2 : Int) (y3 : Option (Nat × Nat)) (y4 : Nat) (y5 : Option Nat) (y6 : Int) (y7 : Int) : Ann.clr f9a26 (f9e16 y0 y1 y2 y3 y4 y5 y6 y7) = f9e16 y0 y1 y2 y3 y4 y5 y6 y7 := hide (by kernel_rfl)
theorem f9r30_f9e16 {R : Type} (call : Bool → CallF R) (dem : Bool) (N : Nat) (y0 : Option (Nat × Nat)) (y1 : Int) (y2 : Int) (y3 : Option (Nat × Nat)) (y4 : Nat) (y5 : Option Nat) (y6 : Int) (y7 : Int) (J : KF R) (σ : St) :
    runK Try.prog call dem N f9c30 f9a30 J (f9e16 y0 y1 y2 y3 y4 y5 y6 y7) σ =
J Ex.normal (f9e45 y0 y1 y2 y3 y4 y5 y6 (IntKind.wrap IntKind.i64 (y7 + (1 : Int))) (IntKind.wrap IntKind.i64 (y7 + (1 : Int)))) σ := hide (by kernel_rfl)
theorem f9z21_f9e45 (y0 : Option (Nat × Nat)) (y1 : Int) (y2 : Int) (y3 : Option (Nat × Nat)) (y4 : Nat) (y5 : Option Nat) (y6 : Int) (y7 : Int) (y8 : Int) : Ann.clr f9a21 (f9e45 y0 y1 y2 y3 y4 y5 y6 y7 y8) = f9e16 y0 y1 y2 y3 y4 y5 y6 y7 := hide (by kernel_rfl)
theorem f9z20_f9e18 : Ann.clr f9a20 (f9e18) = f9e18 := hide (by kernel_rfl)
theorem f9z16_f9e18 : Ann.clr f9a16 (f9e18) = f9e18 := hide (by kernel_rfl)
theorem f9n18 {R : Type} (call : Bool → CallF R) (dem : Bool) (N : Nat) (J : KF R) (e : Env) (σ : St) : runK Try.prog call dem N f9c18 f9a18 J e σ = runK Try.prog call dem N f9c74 f9a74 (seqC (fun K e σ => runK Try.prog call dem N f9c75 f9a75 K e σ) f9a18 J) e σ := runK_seq' (by kernel_rfl) (by kernel_rfl) (by kernel_rfl)
theorem f9r74_f9e18 {R : Type} (call : Bool → CallF R) (dem : Bool) (N : Nat) (J : KF R) (σ : St) :
    runK Try.prog call dem N f9c74 f9a74 J (f9e18) σ =
call dem (15 : Nat) [] σ fun v0 v1 => Option.bind (AV.toBool v0) fun v2 => J Ex.normal (f9e46 v2 v2) v1 := hide (by kernel_rfl)
theorem f9z18_f9e46 (y0 : Bool) (y1 : Bool) : Ann.clr f9a18 (f9e46 y0 y1) = f9e11 y0 := hide (by kernel_rfl)
theorem f9y75_f9e11 {R : Type} (call : Bool → CallF R) (dem : Bool) (N : Nat) (y0 : Bool) (J : KF R) (σ : St) : runK Try.prog call dem N f9c75 f9a75 J (f9e11 y0) σ = J .ret (f9e11 y0) σ := runK_ret' (by kernel_rfl) (by kernel_rfl)
theorem f9b_f9e11_r {R : Type} (y0 : Bool) (σ : St) (K : AV → St → Option R) : bodyC Try.prog f9rs K (Ex.ret) (f9e11 y0) σ =
K (AV.bool y0) σ := hide (by kernel_rfl)
attribute [go_sem] f9_eq f9n0 f9r1_f9e0 f9z0_f9e1 f9n2 f9r3_f9e0 f9z2_f9e2 f9n4 f9n5 f9r7_f9e3 f9z5_f9e4 f9x8_f9e7 f9n9 f9r11_f9e7 f9z9_f9e8 f9y12_f9e11 f9z9_f9e9 f9z9_f9e10 f9n10 f9z8_f9e7 f9z5_f9e5 f9z5_f9e6 f9z4_f9e12 f9n6 f9r13_f9e12 f9z6_f9e13 f9n14 f9r15_f9e13 f9z14_f9e14 f9n16 f9n17 f9r19_f9e14 f9z17_f9e15 f9n20 f9L21_eq f9z21_f9e16 f9l21_f9e16 f9n22 f9r23_f9e16 f9z22_f9e17 f9n24 f9x25_f9e17 f9n27 f9z25_f9e17 f9y28_f9e17 f9z24_f9e16 f9n26 f9n29 f9n31 f9r32_f9e16 f9z31_f9e19 f9n33 f9r34_f9e20 f9z33_f9e21 f9n35 f9n36 f9r38_f9e22 f9z36_f9e23 f9x39_f9e25 f9n40 f9r42_f9e25 f9z40_f9e26 f9y43_f9e11 f9n41 f9z39_f9e25 f9z36_f9e24 f9z35_f9e22 f9n37 f9n44 f9r46_f9e22 f9z44_f9e27 f9x47_f9e28 f9y48_f9e28 f9n49 f9z47_f9e28 f9z37_f9e29 f9n45 f9n50 f9r52_f9e29 f9z50_f9e30 f9x53_f9e31 f9n54 f9r56_f9e31 f9z54_f9e32 f9y57_f9e11 f9n55 f9z53_f9e31 f9z45_f9e20 f9n51 f9n58 f9r60_f9e20 f9z58_f9e33 f9x61_f9e34 f9n62 f9r64_f9e34 f9z62_f9e35 f9r65_f9e36 f9z61_f9e37 f9n63 f9z61_f9e34 f9z51_f9e16 f9n59 f9r66_f9e16 f9z59_f9e38 f9n67 f9r68_f9e39 f9z67_f9e40 f9x69_f9e43 f9n70 f9r72_f9e43 f9z70_f9e44 f9y73_f9e11 f9n71 f9z69_f9e43 f9z67_f9e41 f9z67_f9e42 f9z29_f9e16 f9z26_f9e16 f9r30_f9e16 f9z21_f9e45 f9z20_f9e18 f9z16_f9e18 f9n18 f9r74_f9e18 f9z18_f9e46 f9y75_f9e11 f9b_f9e11_r

end Go.Proofs.Ytmgacgonoodkfaa
