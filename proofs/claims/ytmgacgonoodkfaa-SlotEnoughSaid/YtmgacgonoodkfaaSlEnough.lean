/- What the machine does with each piece of code, in plain text. PRINTED by a program of this workplace; Lean checks it. -/
import Derived.Test.YtmgacgonoodkfaaSlAnn
import Derived.Test.YtmgacgonoodkfaaProg
import Derived.KernelRfl
import Derived.Attr
namespace Go.Proofs.Ytmgacgonoodkfaa
open Go.AM
set_option maxRecDepth 100000
set_option linter.unusedVariables false
noncomputable def f8rs : List ResultVar := [ResultVar.tmp (4 : Nat)]
noncomputable def f8c0 : Code := subCode [] (bodyOf Try.prog 8)
def f8a0 : Ann := subAnn [] ann8
noncomputable def f8c1 : Code := subCode [0] (bodyOf Try.prog 8)
def f8a1 : Ann := subAnn [0] ann8
noncomputable def f8c2 : Code := subCode [1] (bodyOf Try.prog 8)
def f8a2 : Ann := subAnn [1] ann8
noncomputable def f8c3 : Code := subCode [1, 0] (bodyOf Try.prog 8)
def f8a3 : Ann := subAnn [1, 0] ann8
noncomputable def f8c4 : Code := subCode [1, 1] (bodyOf Try.prog 8)
def f8a4 : Ann := subAnn [1, 1] ann8
noncomputable def f8c5 : Code := subCode [1, 1, 0] (bodyOf Try.prog 8)
def f8a5 : Ann := subAnn [1, 1, 0] ann8
noncomputable def f8c6 : Code := subCode [1, 1, 1] (bodyOf Try.prog 8)
def f8a6 : Ann := subAnn [1, 1, 1] ann8
noncomputable def f8c7 : Code := subCode [1, 1, 0, 0] (bodyOf Try.prog 8)
def f8a7 : Ann := subAnn [1, 1, 0, 0] ann8
noncomputable def f8c8 : Code := subCode [1, 1, 0, 1] (bodyOf Try.prog 8)
def f8a8 : Ann := subAnn [1, 1, 0, 1] ann8
noncomputable def f8c9 : Code := subCode [1, 1, 0, 1, 0] (bodyOf Try.prog 8)
def f8a9 : Ann := subAnn [1, 1, 0, 1, 0] ann8
noncomputable def f8c10 : Code := subCode [1, 1, 0, 1, 1] (bodyOf Try.prog 8)
def f8a10 : Ann := subAnn [1, 1, 0, 1, 1] ann8
noncomputable def f8c11 : Code := subCode [1, 1, 0, 1, 0, 0] (bodyOf Try.prog 8)
def f8a11 : Ann := subAnn [1, 1, 0, 1, 0, 0] ann8
noncomputable def f8c12 : Code := subCode [1, 1, 0, 1, 0, 1] (bodyOf Try.prog 8)
def f8a12 : Ann := subAnn [1, 1, 0, 1, 0, 1] ann8
noncomputable def f8c13 : Code := subCode [1, 1, 1, 0] (bodyOf Try.prog 8)
def f8a13 : Ann := subAnn [1, 1, 1, 0] ann8
noncomputable def f8c14 : Code := subCode [1, 1, 1, 1] (bodyOf Try.prog 8)
def f8a14 : Ann := subAnn [1, 1, 1, 1] ann8
noncomputable def f8c15 : Code := subCode [1, 1, 1, 0, 0] (bodyOf Try.prog 8)
def f8a15 : Ann := subAnn [1, 1, 1, 0, 0] ann8
noncomputable def f8c16 : Code := subCode [1, 1, 1, 0, 1] (bodyOf Try.prog 8)
def f8a16 : Ann := subAnn [1, 1, 1, 0, 1] ann8
noncomputable def f8c17 : Code := subCode [1, 1, 1, 0, 1, 0] (bodyOf Try.prog 8)
def f8a17 : Ann := subAnn [1, 1, 1, 0, 1, 0] ann8
noncomputable def f8c18 : Code := subCode [1, 1, 1, 0, 1, 0, 0] (bodyOf Try.prog 8)
def f8a18 : Ann := subAnn [1, 1, 1, 0, 1, 0, 0] ann8
noncomputable def f8c19 : Code := subCode [1, 1, 1, 0, 1, 0, 0, 0] (bodyOf Try.prog 8)
def f8a19 : Ann := subAnn [1, 1, 1, 0, 1, 0, 0, 0] ann8
noncomputable def f8c20 : Code := subCode [1, 1, 1, 0, 1, 0, 0, 1] (bodyOf Try.prog 8)
def f8a20 : Ann := subAnn [1, 1, 1, 0, 1, 0, 0, 1] ann8
noncomputable def f8c21 : Code := subCode [1, 1, 1, 0, 1, 0, 0, 1, 0] (bodyOf Try.prog 8)
def f8a21 : Ann := subAnn [1, 1, 1, 0, 1, 0, 0, 1, 0] ann8
noncomputable def f8c22 : Code := subCode [1, 1, 1, 0, 1, 0, 0, 1, 1] (bodyOf Try.prog 8)
def f8a22 : Ann := subAnn [1, 1, 1, 0, 1, 0, 0, 1, 1] ann8
noncomputable def f8c23 : Code := subCode [1, 1, 1, 0, 1, 0, 0, 1, 0, 0] (bodyOf Try.prog 8)
def f8a23 : Ann := subAnn [1, 1, 1, 0, 1, 0, 0, 1, 0, 0] ann8
noncomputable def f8c24 : Code := subCode [1, 1, 1, 0, 1, 0, 0, 1, 0, 1] (bodyOf Try.prog 8)
def f8a24 : Ann := subAnn [1, 1, 1, 0, 1, 0, 0, 1, 0, 1] ann8
noncomputable def f8c25 : Code := subCode [1, 1, 1, 0, 1, 0, 0, 1, 1, 0] (bodyOf Try.prog 8)
def f8a25 : Ann := subAnn [1, 1, 1, 0, 1, 0, 0, 1, 1, 0] ann8
noncomputable def f8c26 : Code := subCode [1, 1, 1, 0, 1, 0, 0, 1, 1, 1] (bodyOf Try.prog 8)
def f8a26 : Ann := subAnn [1, 1, 1, 0, 1, 0, 0, 1, 1, 1] ann8
noncomputable def f8c27 : Code := subCode [1, 1, 1, 0, 1, 0, 0, 1, 1, 0, 0] (bodyOf Try.prog 8)
def f8a27 : Ann := subAnn [1, 1, 1, 0, 1, 0, 0, 1, 1, 0, 0] ann8
noncomputable def f8c28 : Code := subCode [1, 1, 1, 0, 1, 0, 0, 1, 1, 0, 0, 0] (bodyOf Try.prog 8)
def f8a28 : Ann := subAnn [1, 1, 1, 0, 1, 0, 0, 1, 1, 0, 0, 0] ann8
noncomputable def f8c29 : Code := subCode [1, 1, 1, 0, 1, 0, 0, 1, 1, 0, 0, 1] (bodyOf Try.prog 8)
def f8a29 : Ann := subAnn [1, 1, 1, 0, 1, 0, 0, 1, 1, 0, 0, 1] ann8
noncomputable def f8c30 : Code := subCode [1, 1, 1, 1, 0] (bodyOf Try.prog 8)
def f8a30 : Ann := subAnn [1, 1, 1, 1, 0] ann8
noncomputable def f8c31 : Code := subCode [1, 1, 1, 1, 1] (bodyOf Try.prog 8)
def f8a31 : Ann := subAnn [1, 1, 1, 1, 1] ann8
noncomputable def f8c32 : Code := subCode [1, 1, 1, 1, 0, 0] (bodyOf Try.prog 8)
def f8a32 : Ann := subAnn [1, 1, 1, 1, 0, 0] ann8
noncomputable def f8c33 : Code := subCode [1, 1, 1, 1, 0, 1] (bodyOf Try.prog 8)
def f8a33 : Ann := subAnn [1, 1, 1, 1, 0, 1] ann8
noncomputable def f8c34 : Code := subCode [1, 1, 1, 1, 0, 1, 0] (bodyOf Try.prog 8)
def f8a34 : Ann := subAnn [1, 1, 1, 1, 0, 1, 0] ann8
noncomputable def f8c35 : Code := subCode [1, 1, 1, 1, 0, 1, 0, 0] (bodyOf Try.prog 8)
def f8a35 : Ann := subAnn [1, 1, 1, 1, 0, 1, 0, 0] ann8
noncomputable def f8c36 : Code := subCode [1, 1, 1, 1, 0, 1, 0, 0, 0] (bodyOf Try.prog 8)
def f8a36 : Ann := subAnn [1, 1, 1, 1, 0, 1, 0, 0, 0] ann8
noncomputable def f8c37 : Code := subCode [1, 1, 1, 1, 0, 1, 0, 0, 1] (bodyOf Try.prog 8)
def f8a37 : Ann := subAnn [1, 1, 1, 1, 0, 1, 0, 0, 1] ann8
noncomputable def f8c38 : Code := subCode [1, 1, 1, 1, 0, 1, 0, 0, 0, 0] (bodyOf Try.prog 8)
def f8a38 : Ann := subAnn [1, 1, 1, 1, 0, 1, 0, 0, 0, 0] ann8
noncomputable def f8c39 : Code := subCode [1, 1, 1, 1, 0, 1, 0, 0, 0, 1] (bodyOf Try.prog 8)
def f8a39 : Ann := subAnn [1, 1, 1, 1, 0, 1, 0, 0, 0, 1] ann8
noncomputable def f8c40 : Code := subCode [1, 1, 1, 1, 0, 1, 0, 0, 0, 1, 0] (bodyOf Try.prog 8)
def f8a40 : Ann := subAnn [1, 1, 1, 1, 0, 1, 0, 0, 0, 1, 0] ann8
noncomputable def f8c41 : Code := subCode [1, 1, 1, 1, 0, 1, 0, 0, 0, 1, 1] (bodyOf Try.prog 8)
def f8a41 : Ann := subAnn [1, 1, 1, 1, 0, 1, 0, 0, 0, 1, 1] ann8
noncomputable def f8c42 : Code := subCode [1, 1, 1, 1, 0, 1, 0, 0, 1, 0] (bodyOf Try.prog 8)
def f8a42 : Ann := subAnn [1, 1, 1, 1, 0, 1, 0, 0, 1, 0] ann8
noncomputable def f8c43 : Code := subCode [1, 1, 1, 1, 0, 1, 0, 0, 1, 1] (bodyOf Try.prog 8)
def f8a43 : Ann := subAnn [1, 1, 1, 1, 0, 1, 0, 0, 1, 1] ann8
noncomputable def f8c44 : Code := subCode [1, 1, 1, 1, 0, 1, 0, 0, 1, 0, 0] (bodyOf Try.prog 8)
def f8a44 : Ann := subAnn [1, 1, 1, 1, 0, 1, 0, 0, 1, 0, 0] ann8
noncomputable def f8c45 : Code := subCode [1, 1, 1, 1, 0, 1, 0, 0, 1, 0, 0, 0] (bodyOf Try.prog 8)
def f8a45 : Ann := subAnn [1, 1, 1, 1, 0, 1, 0, 0, 1, 0, 0, 0] ann8
noncomputable def f8c46 : Code := subCode [1, 1, 1, 1, 0, 1, 0, 0, 1, 0, 0, 1] (bodyOf Try.prog 8)
def f8a46 : Ann := subAnn [1, 1, 1, 1, 0, 1, 0, 0, 1, 0, 0, 1] ann8
noncomputable def f8c47 : Code := subCode [1, 1, 1, 1, 0, 1, 0, 0, 1, 0, 0, 1, 0] (bodyOf Try.prog 8)
def f8a47 : Ann := subAnn [1, 1, 1, 1, 0, 1, 0, 0, 1, 0, 0, 1, 0] ann8
noncomputable def f8c48 : Code := subCode [1, 1, 1, 1, 0, 1, 0, 0, 1, 0, 0, 1, 1] (bodyOf Try.prog 8)
def f8a48 : Ann := subAnn [1, 1, 1, 1, 0, 1, 0, 0, 1, 0, 0, 1, 1] ann8
noncomputable def f8c49 : Code := subCode [1, 1, 1, 1, 0, 1, 0, 0, 1, 0, 0, 1, 0, 0] (bodyOf Try.prog 8)
def f8a49 : Ann := subAnn [1, 1, 1, 1, 0, 1, 0, 0, 1, 0, 0, 1, 0, 0] ann8
noncomputable def f8c50 : Code := subCode [1, 1, 1, 1, 0, 1, 0, 0, 1, 0, 0, 1, 0, 1] (bodyOf Try.prog 8)
def f8a50 : Ann := subAnn [1, 1, 1, 1, 0, 1, 0, 0, 1, 0, 0, 1, 0, 1] ann8
noncomputable def f8c51 : Code := subCode [1, 1, 1, 1, 0, 1, 0, 0, 1, 0, 0, 1, 0, 1, 0] (bodyOf Try.prog 8)
def f8a51 : Ann := subAnn [1, 1, 1, 1, 0, 1, 0, 0, 1, 0, 0, 1, 0, 1, 0] ann8
noncomputable def f8c52 : Code := subCode [1, 1, 1, 1, 0, 1, 0, 0, 1, 0, 0, 1, 0, 1, 1] (bodyOf Try.prog 8)
def f8a52 : Ann := subAnn [1, 1, 1, 1, 0, 1, 0, 0, 1, 0, 0, 1, 0, 1, 1] ann8
noncomputable def f8c53 : Code := subCode [1, 1, 1, 1, 0, 1, 0, 0, 1, 0, 0, 1, 1, 0] (bodyOf Try.prog 8)
def f8a53 : Ann := subAnn [1, 1, 1, 1, 0, 1, 0, 0, 1, 0, 0, 1, 1, 0] ann8
noncomputable def f8c54 : Code := subCode [1, 1, 1, 1, 0, 1, 0, 0, 1, 0, 0, 1, 1, 1] (bodyOf Try.prog 8)
def f8a54 : Ann := subAnn [1, 1, 1, 1, 0, 1, 0, 0, 1, 0, 0, 1, 1, 1] ann8
noncomputable def f8c55 : Code := subCode [1, 1, 1, 1, 0, 1, 0, 0, 1, 0, 0, 1, 1, 1, 0] (bodyOf Try.prog 8)
def f8a55 : Ann := subAnn [1, 1, 1, 1, 0, 1, 0, 0, 1, 0, 0, 1, 1, 1, 0] ann8
noncomputable def f8c56 : Code := subCode [1, 1, 1, 1, 0, 1, 0, 0, 1, 0, 0, 1, 1, 1, 1] (bodyOf Try.prog 8)
def f8a56 : Ann := subAnn [1, 1, 1, 1, 0, 1, 0, 0, 1, 0, 0, 1, 1, 1, 1] ann8
noncomputable def f8c57 : Code := subCode [1, 1, 1, 1, 0, 1, 0, 0, 1, 0, 0, 1, 1, 1, 0, 0] (bodyOf Try.prog 8)
def f8a57 : Ann := subAnn [1, 1, 1, 1, 0, 1, 0, 0, 1, 0, 0, 1, 1, 1, 0, 0] ann8
noncomputable def f8c58 : Code := subCode [1, 1, 1, 1, 0, 1, 0, 0, 1, 0, 0, 1, 1, 1, 0, 1] (bodyOf Try.prog 8)
def f8a58 : Ann := subAnn [1, 1, 1, 1, 0, 1, 0, 0, 1, 0, 0, 1, 1, 1, 0, 1] ann8
noncomputable def f8c59 : Code := subCode [1, 1, 1, 1, 0, 1, 0, 0, 1, 0, 0, 1, 1, 1, 0, 1, 0] (bodyOf Try.prog 8)
def f8a59 : Ann := subAnn [1, 1, 1, 1, 0, 1, 0, 0, 1, 0, 0, 1, 1, 1, 0, 1, 0] ann8
noncomputable def f8c60 : Code := subCode [1, 1, 1, 1, 0, 1, 0, 0, 1, 0, 0, 1, 1, 1, 0, 1, 0, 0] (bodyOf Try.prog 8)
def f8a60 : Ann := subAnn [1, 1, 1, 1, 0, 1, 0, 0, 1, 0, 0, 1, 1, 1, 0, 1, 0, 0] ann8
noncomputable def f8c61 : Code := subCode [1, 1, 1, 1, 0, 1, 0, 0, 1, 0, 0, 1, 1, 1, 0, 1, 0, 0, 0] (bodyOf Try.prog 8)
def f8a61 : Ann := subAnn [1, 1, 1, 1, 0, 1, 0, 0, 1, 0, 0, 1, 1, 1, 0, 1, 0, 0, 0] ann8
noncomputable def f8c62 : Code := subCode [1, 1, 1, 1, 0, 1, 0, 0, 1, 0, 0, 1, 1, 1, 0, 1, 0, 0, 1] (bodyOf Try.prog 8)
def f8a62 : Ann := subAnn [1, 1, 1, 1, 0, 1, 0, 0, 1, 0, 0, 1, 1, 1, 0, 1, 0, 0, 1] ann8
noncomputable def f8c63 : Code := subCode [1, 1, 1, 1, 0, 1, 0, 0, 1, 0, 0, 1, 1, 1, 0, 1, 0, 0, 1, 0] (bodyOf Try.prog 8)
def f8a63 : Ann := subAnn [1, 1, 1, 1, 0, 1, 0, 0, 1, 0, 0, 1, 1, 1, 0, 1, 0, 0, 1, 0] ann8
noncomputable def f8c64 : Code := subCode [1, 1, 1, 1, 0, 1, 0, 0, 1, 0, 0, 1, 1, 1, 0, 1, 0, 0, 1, 1] (bodyOf Try.prog 8)
def f8a64 : Ann := subAnn [1, 1, 1, 1, 0, 1, 0, 0, 1, 0, 0, 1, 1, 1, 0, 1, 0, 0, 1, 1] ann8
noncomputable def f8c65 : Code := subCode [1, 1, 1, 1, 0, 1, 0, 0, 1, 0, 0, 1, 1, 1, 0, 1, 0, 0, 1, 0, 0] (bodyOf Try.prog 8)
def f8a65 : Ann := subAnn [1, 1, 1, 1, 0, 1, 0, 0, 1, 0, 0, 1, 1, 1, 0, 1, 0, 0, 1, 0, 0] ann8
noncomputable def f8c66 : Code := subCode [1, 1, 1, 1, 0, 1, 0, 0, 1, 0, 0, 1, 1, 1, 0, 1, 0, 0, 1, 0, 1] (bodyOf Try.prog 8)
def f8a66 : Ann := subAnn [1, 1, 1, 1, 0, 1, 0, 0, 1, 0, 0, 1, 1, 1, 0, 1, 0, 0, 1, 0, 1] ann8
noncomputable def f8c67 : Code := subCode [1, 1, 1, 1, 0, 1, 0, 0, 1, 0, 0, 1, 1, 1, 0, 1, 0, 0, 1, 1, 0] (bodyOf Try.prog 8)
def f8a67 : Ann := subAnn [1, 1, 1, 1, 0, 1, 0, 0, 1, 0, 0, 1, 1, 1, 0, 1, 0, 0, 1, 1, 0] ann8
noncomputable def f8c68 : Code := subCode [1, 1, 1, 1, 0, 1, 0, 0, 1, 0, 0, 1, 1, 1, 0, 1, 0, 0, 1, 1, 1] (bodyOf Try.prog 8)
def f8a68 : Ann := subAnn [1, 1, 1, 1, 0, 1, 0, 0, 1, 0, 0, 1, 1, 1, 0, 1, 0, 0, 1, 1, 1] ann8
noncomputable def f8c69 : Code := subCode [1, 1, 1, 1, 0, 1, 0, 0, 1, 0, 0, 1, 1, 1, 0, 1, 0, 0, 1, 1, 0, 0] (bodyOf Try.prog 8)
def f8a69 : Ann := subAnn [1, 1, 1, 1, 0, 1, 0, 0, 1, 0, 0, 1, 1, 1, 0, 1, 0, 0, 1, 1, 0, 0] ann8
noncomputable def f8c70 : Code := subCode [1, 1, 1, 1, 0, 1, 0, 0, 1, 0, 0, 1, 1, 1, 0, 1, 0, 0, 1, 1, 0, 0, 0] (bodyOf Try.prog 8)
def f8a70 : Ann := subAnn [1, 1, 1, 1, 0, 1, 0, 0, 1, 0, 0, 1, 1, 1, 0, 1, 0, 0, 1, 1, 0, 0, 0] ann8
noncomputable def f8c71 : Code := subCode [1, 1, 1, 1, 0, 1, 0, 0, 1, 0, 0, 1, 1, 1, 0, 1, 0, 0, 1, 1, 0, 0, 1] (bodyOf Try.prog 8)
def f8a71 : Ann := subAnn [1, 1, 1, 1, 0, 1, 0, 0, 1, 0, 0, 1, 1, 1, 0, 1, 0, 0, 1, 1, 0, 0, 1] ann8
noncomputable def f8c72 : Code := subCode [1, 1, 1, 1, 0, 1, 0, 0, 1, 0, 0, 1, 1, 1, 0, 1, 0, 0, 1, 1, 0, 0, 1, 0] (bodyOf Try.prog 8)
def f8a72 : Ann := subAnn [1, 1, 1, 1, 0, 1, 0, 0, 1, 0, 0, 1, 1, 1, 0, 1, 0, 0, 1, 1, 0, 0, 1, 0] ann8
noncomputable def f8c73 : Code := subCode [1, 1, 1, 1, 0, 1, 0, 0, 1, 0, 0, 1, 1, 1, 0, 1, 0, 0, 1, 1, 0, 0, 1, 1] (bodyOf Try.prog 8)
def f8a73 : Ann := subAnn [1, 1, 1, 1, 0, 1, 0, 0, 1, 0, 0, 1, 1, 1, 0, 1, 0, 0, 1, 1, 0, 0, 1, 1] ann8
noncomputable def f8c74 : Code := subCode [1, 1, 1, 1, 0, 1, 0, 0, 1, 0, 0, 1, 1, 1, 0, 1, 0, 0, 1, 1, 0, 0, 1, 1, 0] (bodyOf Try.prog 8)
def f8a74 : Ann := subAnn [1, 1, 1, 1, 0, 1, 0, 0, 1, 0, 0, 1, 1, 1, 0, 1, 0, 0, 1, 1, 0, 0, 1, 1, 0] ann8
noncomputable def f8c75 : Code := subCode [1, 1, 1, 1, 0, 1, 0, 0, 1, 0, 0, 1, 1, 1, 0, 1, 0, 0, 1, 1, 0, 0, 1, 1, 1] (bodyOf Try.prog 8)
def f8a75 : Ann := subAnn [1, 1, 1, 1, 0, 1, 0, 0, 1, 0, 0, 1, 1, 1, 0, 1, 0, 0, 1, 1, 0, 0, 1, 1, 1] ann8
noncomputable def f8c76 : Code := subCode [1, 1, 1, 1, 0, 1, 0, 0, 1, 0, 0, 1, 1, 1, 0, 1, 0, 0, 1, 1, 0, 0, 1, 1, 0, 0] (bodyOf Try.prog 8)
def f8a76 : Ann := subAnn [1, 1, 1, 1, 0, 1, 0, 0, 1, 0, 0, 1, 1, 1, 0, 1, 0, 0, 1, 1, 0, 0, 1, 1, 0, 0] ann8
noncomputable def f8c77 : Code := subCode [1, 1, 1, 1, 0, 1, 0, 0, 1, 0, 0, 1, 1, 1, 0, 1, 0, 0, 1, 1, 0, 0, 1, 1, 0, 1] (bodyOf Try.prog 8)
def f8a77 : Ann := subAnn [1, 1, 1, 1, 0, 1, 0, 0, 1, 0, 0, 1, 1, 1, 0, 1, 0, 0, 1, 1, 0, 0, 1, 1, 0, 1] ann8
noncomputable def f8c78 : Code := subCode [1, 1, 1, 1, 0, 1, 0, 0, 1, 0, 0, 1, 1, 1, 0, 1, 0, 0, 1, 1, 0, 0, 1, 1, 0, 1, 0] (bodyOf Try.prog 8)
def f8a78 : Ann := subAnn [1, 1, 1, 1, 0, 1, 0, 0, 1, 0, 0, 1, 1, 1, 0, 1, 0, 0, 1, 1, 0, 0, 1, 1, 0, 1, 0] ann8
noncomputable def f8c79 : Code := subCode [1, 1, 1, 1, 0, 1, 0, 0, 1, 0, 0, 1, 1, 1, 0, 1, 0, 0, 1, 1, 0, 0, 1, 1, 0, 1, 1] (bodyOf Try.prog 8)
def f8a79 : Ann := subAnn [1, 1, 1, 1, 0, 1, 0, 0, 1, 0, 0, 1, 1, 1, 0, 1, 0, 0, 1, 1, 0, 0, 1, 1, 0, 1, 1] ann8
noncomputable def f8c80 : Code := subCode [1, 1, 1, 1, 0, 1, 0, 0, 1, 0, 0, 1, 1, 1, 0, 1, 0, 0, 1, 1, 0, 0, 1, 1, 0, 1, 0, 0] (bodyOf Try.prog 8)
def f8a80 : Ann := subAnn [1, 1, 1, 1, 0, 1, 0, 0, 1, 0, 0, 1, 1, 1, 0, 1, 0, 0, 1, 1, 0, 0, 1, 1, 0, 1, 0, 0] ann8
noncomputable def f8c81 : Code := subCode [1, 1, 1, 1, 0, 1, 0, 0, 1, 0, 0, 1, 1, 1, 0, 1, 0, 0, 1, 1, 0, 0, 1, 1, 0, 1, 0, 1] (bodyOf Try.prog 8)
def f8a81 : Ann := subAnn [1, 1, 1, 1, 0, 1, 0, 0, 1, 0, 0, 1, 1, 1, 0, 1, 0, 0, 1, 1, 0, 0, 1, 1, 0, 1, 0, 1] ann8
noncomputable def f8c82 : Code := subCode [1, 1, 1, 1, 0, 1, 0, 0, 1, 0, 0, 1, 1, 1, 1, 0] (bodyOf Try.prog 8)
def f8a82 : Ann := subAnn [1, 1, 1, 1, 0, 1, 0, 0, 1, 0, 0, 1, 1, 1, 1, 0] ann8
noncomputable def f8c83 : Code := subCode [1, 1, 1, 1, 0, 1, 0, 0, 1, 0, 0, 1, 1, 1, 1, 1] (bodyOf Try.prog 8)
def f8a83 : Ann := subAnn [1, 1, 1, 1, 0, 1, 0, 0, 1, 0, 0, 1, 1, 1, 1, 1] ann8
noncomputable def f8c84 : Code := subCode [1, 1, 1, 1, 0, 1, 0, 0, 1, 0, 0, 1, 1, 1, 1, 1, 0] (bodyOf Try.prog 8)
def f8a84 : Ann := subAnn [1, 1, 1, 1, 0, 1, 0, 0, 1, 0, 0, 1, 1, 1, 1, 1, 0] ann8
noncomputable def f8c85 : Code := subCode [1, 1, 1, 1, 0, 1, 0, 0, 1, 0, 0, 1, 1, 1, 1, 1, 1] (bodyOf Try.prog 8)
def f8a85 : Ann := subAnn [1, 1, 1, 1, 0, 1, 0, 0, 1, 0, 0, 1, 1, 1, 1, 1, 1] ann8
noncomputable def f8c86 : Code := subCode [1, 1, 1, 1, 0, 1, 0, 0, 1, 0, 0, 1, 1, 1, 1, 1, 0, 0] (bodyOf Try.prog 8)
def f8a86 : Ann := subAnn [1, 1, 1, 1, 0, 1, 0, 0, 1, 0, 0, 1, 1, 1, 1, 1, 0, 0] ann8
noncomputable def f8c87 : Code := subCode [1, 1, 1, 1, 0, 1, 0, 0, 1, 0, 0, 1, 1, 1, 1, 1, 0, 1] (bodyOf Try.prog 8)
def f8a87 : Ann := subAnn [1, 1, 1, 1, 0, 1, 0, 0, 1, 0, 0, 1, 1, 1, 1, 1, 0, 1] ann8
noncomputable def f8c88 : Code := subCode [1, 1, 1, 1, 1, 0] (bodyOf Try.prog 8)
def f8a88 : Ann := subAnn [1, 1, 1, 1, 1, 0] ann8
noncomputable def f8c89 : Code := subCode [1, 1, 1, 1, 1, 1] (bodyOf Try.prog 8)
def f8a89 : Ann := subAnn [1, 1, 1, 1, 1, 1] ann8
noncomputable def f8L17 {R : Type} (call : CallF R) (N : Nat) : KF R → Env → St → Option R := fun K e σ => runK Try.prog call N f8c18 f8a18 K e σ
noncomputable def f8L34 {R : Type} (call : CallF R) (N : Nat) : KF R → Env → St → Option R := fun K e σ => runK Try.prog call N f8c35 f8a35 K e σ
noncomputable def f8L59 {R : Type} (call : CallF R) (N : Nat) : KF R → Env → St → Option R := fun K e σ => runK Try.prog call N f8c60 f8a60 K e σ
def f8e0 (y0 : Int) (y1 : Int) (y2 : Int) (y3 : Option (Nat × Nat)) (y4 : Nat) (y5 : Option Nat) : Env := AV.agg [AV.int IntKind.i64 y0, AV.int IntKind.i64 y1, AV.int IntKind.i64 y2] :: AV.slice y3 y4 y5 (4 : Nat) :: Env.sp 155 []
def f8e1 (y0 : Int) (y1 : Int) (y2 : Int) (y3 : Option (Nat × Nat)) (y4 : Nat) (y5 : Option Nat) (y6 : Nat) (y7 : Bool) : Env := AV.agg [AV.int IntKind.i64 y0, AV.int IntKind.i64 y1, AV.int IntKind.i64 y2] :: AV.slice y3 y4 y5 (4 : Nat) :: AV.ptr (some (y6, (0 : Nat))) :: Env.sp 1 (AV.bool y7 :: Env.sp 152 [])
def f8e2 (y0 : Option (Nat × Nat)) (y1 : Nat) (y2 : Option Nat) (y3 : Nat) : Env := Env.sp 1 (AV.slice y0 y1 y2 (4 : Nat) :: AV.ptr (some (y3, (0 : Nat))) :: Env.sp 154 [])
def f8e3 (y0 : Option (Nat × Nat)) (y1 : Nat) (y2 : Option Nat) (y3 : Nat) (y4 : Option (Nat × Nat)) (y5 : Int) (y6 : Option (Nat × Nat)) (y7 : Int) (y8 : Nat) (y9 : Int) (y10 : Nat) (y11 : Int) (y12 : Nat) (y13 : Int) (y14 : Option (Nat × Nat)) (y15 : Int) (y16 : Option (Nat × Nat)) (y17 : Int) : Env := Env.sp 1 (AV.slice y0 y1 y2 (4 : Nat) :: AV.ptr (some (y3, (0 : Nat))) :: Env.sp 2 (AV.ptr y4 :: AV.int IntKind.i64 y5 :: Env.sp 11 (AV.tuple [AV.ptr y6, AV.int IntKind.i64 y7] :: AV.ptr (some (y8, (0 : Nat))) :: AV.int IntKind.i64 y9 :: AV.ptr (some (y10, (1 : Nat))) :: AV.int IntKind.i64 y11 :: AV.ptr (some (y12, (2 : Nat))) :: AV.int IntKind.i64 y13 :: AV.tuple [AV.ptr y14, AV.int IntKind.i64 y15] :: AV.ptr y16 :: AV.int IntKind.i64 y17 :: Env.sp 129 [])))
def f8e4 (y0 : Option (Nat × Nat)) (y1 : Nat) (y2 : Option Nat) (y3 : Nat) (y4 : Option (Nat × Nat)) (y5 : Int) : Env := Env.sp 1 (AV.slice y0 y1 y2 (4 : Nat) :: AV.ptr (some (y3, (0 : Nat))) :: Env.sp 2 (AV.ptr y4 :: AV.int IntKind.i64 y5 :: Env.sp 150 []))
def f8e5 (y0 : Option (Nat × Nat)) (y1 : Nat) (y2 : Option Nat) (y3 : Nat) (y4 : Option (Nat × Nat)) (y5 : Int) (y6 : Int) (y7 : Bool) (y8 : Bool) (y9 : Bool) (y10 : Bool) (y11 : Bool) : Env := Env.sp 1 (AV.slice y0 y1 y2 (4 : Nat) :: AV.ptr (some (y3, (0 : Nat))) :: Env.sp 2 (AV.ptr y4 :: AV.int IntKind.i64 y5 :: Env.sp 21 (AV.int IntKind.i64 y6 :: AV.bool y7 :: AV.bool y8 :: AV.tuple [] :: AV.tuple [] :: AV.bool y9 :: AV.bool y10 :: AV.tuple [] :: AV.tuple [] :: AV.tuple [] :: AV.bool y11 :: Env.sp 118 [])))
def f8e6 (y0 : Option (Nat × Nat)) (y1 : Nat) (y2 : Option Nat) (y3 : Nat) (y4 : Option (Nat × Nat)) (y5 : Int) (y6 : Int) (y7 : Bool) (y8 : Bool) (y9 : Option (Nat × Nat)) (y10 : Bool) (y11 : Bool) (y12 : Bool) (y13 : Bool) : Env := Env.sp 1 (AV.slice y0 y1 y2 (4 : Nat) :: AV.ptr (some (y3, (0 : Nat))) :: Env.sp 2 (AV.ptr y4 :: AV.int IntKind.i64 y5 :: Env.sp 21 (AV.int IntKind.i64 y6 :: AV.bool y7 :: AV.bool y8 :: AV.ptr y9 :: AV.bool y10 :: AV.bool y11 :: AV.bool y12 :: AV.tuple [] :: AV.tuple [] :: AV.tuple [] :: AV.bool y13 :: Env.sp 118 [])))
def f8e7 (y0 : Option (Nat × Nat)) (y1 : Nat) (y2 : Option Nat) (y3 : Nat) (y4 : Option (Nat × Nat)) (y5 : Int) (y6 : Int) (y7 : Bool) (y8 : Bool) (y9 : Option (Nat × Nat)) (y10 : Bool) (y11 : Bool) (y12 : Bool) (y13 : Option (Nat × Nat)) (y14 : Nat) (y15 : Option Nat) (y16 : Int) (y17 : Bool) (y18 : Bool) : Env := Env.sp 1 (AV.slice y0 y1 y2 (4 : Nat) :: AV.ptr (some (y3, (0 : Nat))) :: Env.sp 2 (AV.ptr y4 :: AV.int IntKind.i64 y5 :: Env.sp 21 (AV.int IntKind.i64 y6 :: AV.bool y7 :: AV.bool y8 :: AV.ptr y9 :: AV.bool y10 :: AV.bool y11 :: AV.bool y12 :: AV.slice y13 y14 y15 (4 : Nat) :: AV.int IntKind.i64 y16 :: AV.bool y17 :: AV.bool y18 :: Env.sp 118 [])))
def f8e8 (y0 : Option (Nat × Nat)) (y1 : Nat) (y2 : Option Nat) (y3 : Nat) (y4 : Option (Nat × Nat)) (y5 : Int) (y6 : Bool) : Env := Env.sp 1 (AV.slice y0 y1 y2 (4 : Nat) :: AV.ptr (some (y3, (0 : Nat))) :: Env.sp 2 (AV.ptr y4 :: AV.int IntKind.i64 y5 :: Env.sp 31 (AV.bool y6 :: Env.sp 118 [])))
def f8e9 (y0 : Option (Nat × Nat)) (y1 : Nat) (y2 : Option Nat) (y3 : Nat) (y4 : Bool) (y5 : Option (Nat × Nat)) (y6 : Int) (y7 : Bool) (y8 : Int) (y9 : Bool) (y10 : Bool) (y11 : Bool) (y12 : Bool) (y13 : Bool) (y14 : Bool) : Env := Env.sp 1 (AV.slice y0 y1 y2 (4 : Nat) :: AV.ptr (some (y3, (0 : Nat))) :: Env.sp 1 (AV.bool y4 :: AV.ptr y5 :: AV.int IntKind.i64 y6 :: Env.sp 31 (AV.bool y7 :: AV.int IntKind.i64 y8 :: AV.bool y9 :: AV.bool y10 :: AV.tuple [] :: AV.tuple [] :: AV.bool y11 :: AV.bool y12 :: AV.bool y13 :: AV.bool y14 :: Env.sp 109 [])))
def f8e10 (y0 : Option (Nat × Nat)) (y1 : Nat) (y2 : Option Nat) (y3 : Nat) (y4 : Bool) (y5 : Option (Nat × Nat)) (y6 : Int) (y7 : Bool) (y8 : Int) (y9 : Bool) (y10 : Bool) (y11 : Option (Nat × Nat)) (y12 : Bool) (y13 : Bool) (y14 : Bool) (y15 : Bool) (y16 : Bool) : Env := Env.sp 1 (AV.slice y0 y1 y2 (4 : Nat) :: AV.ptr (some (y3, (0 : Nat))) :: Env.sp 1 (AV.bool y4 :: AV.ptr y5 :: AV.int IntKind.i64 y6 :: Env.sp 31 (AV.bool y7 :: AV.int IntKind.i64 y8 :: AV.bool y9 :: AV.bool y10 :: AV.ptr y11 :: AV.bool y12 :: AV.bool y13 :: AV.bool y14 :: AV.bool y15 :: AV.bool y16 :: Env.sp 109 [])))
def f8e11 (y0 : Option (Nat × Nat)) (y1 : Nat) (y2 : Option Nat) (y3 : Nat) (y4 : Bool) (y5 : Option (Nat × Nat)) (y6 : Int) (y7 : Bool) (y8 : Int) (y9 : Bool) (y10 : Bool) (y11 : Option (Nat × Nat)) (y12 : Bool) (y13 : Bool) (y14 : Bool) (y15 : Bool) : Env := Env.sp 1 (AV.slice y0 y1 y2 (4 : Nat) :: AV.ptr (some (y3, (0 : Nat))) :: Env.sp 1 (AV.bool y4 :: AV.ptr y5 :: AV.int IntKind.i64 y6 :: Env.sp 31 (AV.bool y7 :: AV.int IntKind.i64 y8 :: AV.bool y9 :: AV.bool y10 :: AV.ptr y11 :: AV.bool y12 :: AV.bool y13 :: AV.bool y14 :: AV.tuple [] :: AV.bool y15 :: Env.sp 109 [])))
def f8e12 (y0 : Bool) : Env := Env.sp 4 (AV.bool y0 :: Env.sp 152 [])
def f8e13 (y0 : Option (Nat × Nat)) (y1 : Nat) (y2 : Option Nat) (y3 : Nat) (y4 : Option (Nat × Nat)) : Env := Env.sp 1 (AV.slice y0 y1 y2 (4 : Nat) :: AV.ptr (some (y3, (0 : Nat))) :: Env.sp 2 (AV.ptr y4 :: Env.sp 151 []))
def f8e14 (y0 : Option (Nat × Nat)) (y1 : Nat) (y2 : Option Nat) (y3 : Nat) (y4 : Option (Nat × Nat)) (y5 : Option (Nat × Nat)) (y6 : Nat) (y7 : Option Nat) (y8 : Int) (y9 : Int) : Env := Env.sp 1 (AV.slice y0 y1 y2 (4 : Nat) :: AV.ptr (some (y3, (0 : Nat))) :: Env.sp 2 (AV.ptr y4 :: Env.sp 42 (AV.slice y5 y6 y7 (4 : Nat) :: AV.int IntKind.i64 y8 :: AV.int IntKind.i64 y9 :: Env.sp 106 [])))
def f8e15 (y0 : Nat) (y1 : Option (Nat × Nat)) (y2 : Option (Nat × Nat)) (y3 : Nat) (y4 : Option Nat) (y5 : Int) (y6 : Int) : Env := Env.sp 2 (AV.ptr (some (y0, (0 : Nat))) :: Env.sp 2 (AV.ptr y1 :: Env.sp 42 (AV.slice y2 y3 y4 (4 : Nat) :: AV.int IntKind.i64 y5 :: AV.int IntKind.i64 y6 :: Env.sp 106 [])))
def f8e16 (y0 : Nat) (y1 : Option (Nat × Nat)) (y2 : Option (Nat × Nat)) (y3 : Nat) (y4 : Option Nat) (y5 : Int) (y6 : Int) (y7 : Bool) : Env := Env.sp 2 (AV.ptr (some (y0, (0 : Nat))) :: Env.sp 2 (AV.ptr y1 :: Env.sp 42 (AV.slice y2 y3 y4 (4 : Nat) :: AV.int IntKind.i64 y5 :: AV.int IntKind.i64 y6 :: AV.bool y7 :: Env.sp 105 [])))
def f8e17 (y0 : Nat) (y1 : Option (Nat × Nat)) : Env := Env.sp 2 (AV.ptr (some (y0, (0 : Nat))) :: Env.sp 2 (AV.ptr y1 :: Env.sp 151 []))
def f8e18 (y0 : Nat) (y1 : Option (Nat × Nat)) (y2 : Nat) (y3 : Option (Nat × Nat)) (y4 : Nat) (y5 : Option Nat) (y6 : Int) (y7 : Int) (y8 : Option (Nat × Nat)) (y9 : Int) (y10 : Int) (y11 : ByteArray) (y12 : ByteArray) : Env := Env.sp 2 (AV.ptr (some (y0, (0 : Nat))) :: Env.sp 2 (AV.ptr y1 :: Env.sp 2 (AV.ptr (some (y2, (0 : Nat))) :: Env.sp 39 (AV.slice y3 y4 y5 (4 : Nat) :: AV.int IntKind.i64 y6 :: AV.int IntKind.i64 y7 :: Env.sp 1 (AV.ptr y8 :: AV.agg [AV.int IntKind.i64 y9, AV.int IntKind.i64 y10, AV.str y11, AV.str y12] :: Env.sp 103 [])))))
def f8e19 (y0 : Nat) (y1 : Option (Nat × Nat)) (y2 : Nat) (y3 : Option (Nat × Nat)) (y4 : Nat) (y5 : Option Nat) (y6 : Int) (y7 : Int) : Env := Env.sp 2 (AV.ptr (some (y0, (0 : Nat))) :: Env.sp 2 (AV.ptr y1 :: Env.sp 2 (AV.ptr (some (y2, (0 : Nat))) :: Env.sp 39 (AV.slice y3 y4 y5 (4 : Nat) :: AV.int IntKind.i64 y6 :: AV.int IntKind.i64 y7 :: Env.sp 106 []))))
def f8e20 (y0 : Nat) (y1 : Option (Nat × Nat)) (y2 : Nat) (y3 : Option (Nat × Nat)) (y4 : Nat) (y5 : Option Nat) (y6 : Int) (y7 : Int) (y8 : Option (Nat × Nat)) (y9 : Nat) (y10 : Int) (y11 : Nat) (y12 : Int) (y13 : Nat) (y14 : ByteArray) (y15 : Nat) (y16 : ByteArray) (y17 : Bool) (y18 : Int) : Env := Env.sp 2 (AV.ptr (some (y0, (0 : Nat))) :: Env.sp 2 (AV.ptr y1 :: Env.sp 2 (AV.ptr (some (y2, (0 : Nat))) :: Env.sp 39 (AV.slice y3 y4 y5 (4 : Nat) :: AV.int IntKind.i64 y6 :: AV.int IntKind.i64 y7 :: Env.sp 3 (AV.ptr y8 :: AV.ptr (some (y9, (0 : Nat))) :: AV.int IntKind.i64 y10 :: AV.ptr (some (y11, (1 : Nat))) :: AV.int IntKind.i64 y12 :: AV.ptr (some (y13, (2 : Nat))) :: AV.str y14 :: AV.ptr (some (y15, (3 : Nat))) :: AV.str y16 :: AV.tuple [AV.bool y17, AV.int IntKind.i64 y18] :: Env.sp 93 [])))))
def f8e21 (y0 : Nat) (y1 : Option (Nat × Nat)) (y2 : Option (Nat × Nat)) (y3 : Nat) (y4 : Option Nat) (y5 : Int) (y6 : Int) (y7 : Int) : Env := Env.sp 2 (AV.ptr (some (y0, (0 : Nat))) :: Env.sp 2 (AV.ptr y1 :: Env.sp 42 (AV.slice y2 y3 y4 (4 : Nat) :: AV.int IntKind.i64 y5 :: AV.int IntKind.i64 y6 :: Env.sp 13 (AV.int IntKind.i64 y7 :: Env.sp 92 []))))
def f8e22 (y0 : Nat) (y1 : Option (Nat × Nat)) (y2 : Int) : Env := Env.sp 2 (AV.ptr (some (y0, (0 : Nat))) :: Env.sp 2 (AV.ptr y1 :: Env.sp 3 (AV.int IntKind.i64 y2 :: Env.sp 147 [])))
def f8e23 (y0 : Nat) (y1 : Option (Nat × Nat)) (y2 : Int) (y3 : Int) (y4 : Bool) : Env := Env.sp 2 (AV.ptr (some (y0, (0 : Nat))) :: Env.sp 2 (AV.ptr y1 :: Env.sp 3 (AV.int IntKind.i64 y2 :: Env.sp 55 (AV.int IntKind.i64 y3 :: AV.bool y4 :: Env.sp 90 []))))
def f8e24 (y0 : Nat) (y1 : Option (Nat × Nat)) (y2 : Int) (y3 : Bool) : Env := Env.sp 2 (AV.ptr (some (y0, (0 : Nat))) :: Env.sp 2 (AV.ptr y1 :: Env.sp 3 (AV.int IntKind.i64 y2 :: Env.sp 56 (AV.bool y3 :: Env.sp 90 []))))
def f8e25 : Env := Env.sp 157 []
def f8e26 (y0 : Nat) (y1 : Option (Nat × Nat)) (y2 : Int) (y3 : Nat) (y4 : Bool) (y5 : ByteArray) (y6 : Int) (y7 : Option (Nat × Nat)) (y8 : Nat) (y9 : Option Nat) (y10 : Bool) (y11 : Option (Nat × Nat)) (y12 : Int) (y13 : ByteArray) (y14 : Int) (y15 : Option (Nat × Nat)) (y16 : Nat) (y17 : Option Nat) (y18 : Bool) (y19 : ByteArray) (y20 : Int) (y21 : Option (Nat × Nat)) (y22 : Nat) (y23 : Option Nat) (y24 : Bool) : Env := Env.sp 2 (AV.ptr (some (y0, (0 : Nat))) :: Env.sp 2 (AV.ptr y1 :: Env.sp 3 (AV.int IntKind.i64 y2 :: AV.ptr (some (y3, (0 : Nat))) :: AV.bool y4 :: Env.sp 57 (AV.tuple [AV.agg [AV.str y5, AV.int IntKind.i64 y6, AV.slice y7 y8 y9 (2 : Nat)], AV.bool y10] :: AV.ptr y11 :: AV.int IntKind.i64 y12 :: AV.tuple [AV.agg [AV.str y13, AV.int IntKind.i64 y14, AV.slice y15 y16 y17 (2 : Nat)], AV.bool y18] :: AV.agg [AV.str y19, AV.int IntKind.i64 y20, AV.slice y21 y22 y23 (2 : Nat)] :: AV.bool y24 :: Env.sp 82 []))))
def f8e27 (y0 : Nat) (y1 : Option (Nat × Nat)) (y2 : Int) (y3 : Nat) (y4 : Bool) : Env := Env.sp 2 (AV.ptr (some (y0, (0 : Nat))) :: Env.sp 2 (AV.ptr y1 :: Env.sp 3 (AV.int IntKind.i64 y2 :: AV.ptr (some (y3, (0 : Nat))) :: AV.bool y4 :: Env.sp 145 [])))
def f8e28 (y0 : Nat) (y1 : Option (Nat × Nat)) (y2 : Int) (y3 : Nat) (y4 : Bool) (y5 : Bool) (y6 : Bool) : Env := Env.sp 2 (AV.ptr (some (y0, (0 : Nat))) :: Env.sp 2 (AV.ptr y1 :: Env.sp 3 (AV.int IntKind.i64 y2 :: AV.ptr (some (y3, (0 : Nat))) :: AV.bool y4 :: Env.sp 63 (AV.bool y5 :: AV.bool y6 :: Env.sp 80 []))))
def f8e29 (y0 : Nat) (y1 : Option (Nat × Nat)) (y2 : Int) (y3 : Nat) (y4 : Bool) : Env := Env.sp 2 (AV.ptr (some (y0, (0 : Nat))) :: Env.sp 2 (AV.ptr y1 :: Env.sp 3 (AV.int IntKind.i64 y2 :: AV.ptr (some (y3, (0 : Nat))) :: Env.sp 65 (AV.bool y4 :: Env.sp 80 []))))
def f8e30 (y0 : Nat) (y1 : Option (Nat × Nat)) (y2 : Int) (y3 : Nat) : Env := Env.sp 2 (AV.ptr (some (y0, (0 : Nat))) :: Env.sp 2 (AV.ptr y1 :: Env.sp 3 (AV.int IntKind.i64 y2 :: AV.ptr (some (y3, (0 : Nat))) :: Env.sp 146 [])))
def f8e31 (y0 : Nat) (y1 : Option (Nat × Nat)) (y2 : Int) (y3 : Nat) (y4 : Bool) : Env := Env.sp 2 (AV.ptr (some (y0, (0 : Nat))) :: Env.sp 2 (AV.ptr y1 :: Env.sp 3 (AV.int IntKind.i64 y2 :: AV.ptr (some (y3, (0 : Nat))) :: Env.sp 1 (AV.bool y4 :: Env.sp 144 []))))
def f8e32 (y0 : Nat) (y1 : Option (Nat × Nat)) (y2 : Int) (y3 : Nat) (y4 : Bool) (y5 : Nat) (y6 : Option (Nat × Nat)) (y7 : Nat) (y8 : Option Nat) (y9 : Int) (y10 : Int) : Env := Env.sp 2 (AV.ptr (some (y0, (0 : Nat))) :: Env.sp 2 (AV.ptr y1 :: Env.sp 3 (AV.int IntKind.i64 y2 :: AV.ptr (some (y3, (0 : Nat))) :: Env.sp 1 (AV.bool y4 :: Env.sp 64 (AV.ptr (some (y5, (2 : Nat))) :: AV.slice y6 y7 y8 (2 : Nat) :: AV.int IntKind.i64 y9 :: AV.int IntKind.i64 y10 :: Env.sp 76 [])))))
def f8e33 (y0 : Nat) (y1 : Option (Nat × Nat)) (y2 : Int) (y3 : Nat) (y4 : Bool) (y5 : Option (Nat × Nat)) (y6 : Nat) (y7 : Option Nat) (y8 : Int) (y9 : Int) : Env := Env.sp 2 (AV.ptr (some (y0, (0 : Nat))) :: Env.sp 2 (AV.ptr y1 :: Env.sp 3 (AV.int IntKind.i64 y2 :: AV.ptr (some (y3, (0 : Nat))) :: Env.sp 1 (AV.bool y4 :: Env.sp 65 (AV.slice y5 y6 y7 (2 : Nat) :: AV.int IntKind.i64 y8 :: AV.int IntKind.i64 y9 :: Env.sp 76 [])))))
def f8e34 (y0 : Nat) (y1 : Option (Nat × Nat)) (y2 : Int) (y3 : Nat) (y4 : Bool) (y5 : Option (Nat × Nat)) (y6 : Nat) (y7 : Option Nat) (y8 : Int) (y9 : Int) (y10 : Bool) : Env := Env.sp 2 (AV.ptr (some (y0, (0 : Nat))) :: Env.sp 2 (AV.ptr y1 :: Env.sp 3 (AV.int IntKind.i64 y2 :: AV.ptr (some (y3, (0 : Nat))) :: Env.sp 1 (AV.bool y4 :: Env.sp 65 (AV.slice y5 y6 y7 (2 : Nat) :: AV.int IntKind.i64 y8 :: AV.int IntKind.i64 y9 :: AV.bool y10 :: Env.sp 75 [])))))
def f8e35 (y0 : Nat) (y1 : Option (Nat × Nat)) (y2 : Int) (y3 : Nat) (y4 : Bool) (y5 : Int) (y6 : Nat) (y7 : Option (Nat × Nat)) (y8 : Nat) (y9 : Option Nat) (y10 : Int) (y11 : Int) (y12 : Int) (y13 : Option (Nat × Nat)) (y14 : Int) (y15 : ByteArray) : Env := Env.sp 2 (AV.ptr (some (y0, (0 : Nat))) :: Env.sp 2 (AV.ptr y1 :: Env.sp 3 (AV.int IntKind.i64 y2 :: AV.ptr (some (y3, (0 : Nat))) :: Env.sp 1 (AV.bool y4 :: AV.int IntKind.i64 y5 :: AV.ptr (some (y6, (0 : Nat))) :: Env.sp 63 (AV.slice y7 y8 y9 (2 : Nat) :: AV.int IntKind.i64 y10 :: AV.int IntKind.i64 y11 :: Env.sp 1 (AV.int IntKind.i64 y12 :: AV.ptr y13 :: AV.agg [AV.int IntKind.i64 y14, AV.str y15] :: Env.sp 72 []))))))
def f8e36 (y0 : Nat) (y1 : Option (Nat × Nat)) (y2 : Int) (y3 : Nat) (y4 : Bool) (y5 : Int) (y6 : Nat) (y7 : Option (Nat × Nat)) (y8 : Nat) (y9 : Option Nat) (y10 : Int) (y11 : Int) : Env := Env.sp 2 (AV.ptr (some (y0, (0 : Nat))) :: Env.sp 2 (AV.ptr y1 :: Env.sp 3 (AV.int IntKind.i64 y2 :: AV.ptr (some (y3, (0 : Nat))) :: Env.sp 1 (AV.bool y4 :: AV.int IntKind.i64 y5 :: AV.ptr (some (y6, (0 : Nat))) :: Env.sp 63 (AV.slice y7 y8 y9 (2 : Nat) :: AV.int IntKind.i64 y10 :: AV.int IntKind.i64 y11 :: Env.sp 76 [])))))
def f8e37 (y0 : Nat) (y1 : Option (Nat × Nat)) (y2 : Int) (y3 : Nat) (y4 : Bool) (y5 : Int) (y6 : Nat) (y7 : ByteArray) (y8 : ByteArray) (y9 : Bool) (y10 : Option (Nat × Nat)) (y11 : Nat) (y12 : Option Nat) (y13 : Int) (y14 : Int) (y15 : ByteArray) (y16 : ByteArray) (y17 : Bool) (y18 : Option (Nat × Nat)) (y19 : Int) (y20 : Nat) (y21 : Int) (y22 : ByteArray) (y23 : ByteArray) (y24 : Bool) (y25 : ByteArray) (y26 : ByteArray) (y27 : Bool) : Env := Env.sp 2 (AV.ptr (some (y0, (0 : Nat))) :: Env.sp 2 (AV.ptr y1 :: Env.sp 3 (AV.int IntKind.i64 y2 :: AV.ptr (some (y3, (0 : Nat))) :: Env.sp 1 (AV.bool y4 :: AV.int IntKind.i64 y5 :: AV.ptr (some (y6, (0 : Nat))) :: AV.str y7 :: AV.str y8 :: AV.bool y9 :: Env.sp 60 (AV.slice y10 y11 y12 (2 : Nat) :: AV.int IntKind.i64 y13 :: AV.int IntKind.i64 y14 :: Env.sp 4 (AV.tuple [AV.str y15, AV.str y16, AV.bool y17] :: AV.ptr y18 :: AV.int IntKind.i64 y19 :: AV.ptr (some (y20, (0 : Nat))) :: AV.int IntKind.i64 y21 :: AV.tuple [AV.str y22, AV.str y23, AV.bool y24] :: AV.str y25 :: AV.str y26 :: AV.bool y27 :: Env.sp 63 []))))))
def f8e38 (y0 : Nat) (y1 : Option (Nat × Nat)) (y2 : Int) (y3 : Nat) (y4 : Bool) (y5 : Int) (y6 : Nat) (y7 : ByteArray) (y8 : ByteArray) (y9 : Bool) (y10 : Option (Nat × Nat)) (y11 : Nat) (y12 : Option Nat) (y13 : Int) (y14 : Int) : Env := Env.sp 2 (AV.ptr (some (y0, (0 : Nat))) :: Env.sp 2 (AV.ptr y1 :: Env.sp 3 (AV.int IntKind.i64 y2 :: AV.ptr (some (y3, (0 : Nat))) :: Env.sp 1 (AV.bool y4 :: AV.int IntKind.i64 y5 :: AV.ptr (some (y6, (0 : Nat))) :: AV.str y7 :: AV.str y8 :: AV.bool y9 :: Env.sp 60 (AV.slice y10 y11 y12 (2 : Nat) :: AV.int IntKind.i64 y13 :: AV.int IntKind.i64 y14 :: Env.sp 76 [])))))
def f8e39 (y0 : Nat) (y1 : Option (Nat × Nat)) (y2 : Int) (y3 : Nat) (y4 : Bool) (y5 : Int) (y6 : Nat) (y7 : ByteArray) (y8 : ByteArray) (y9 : Bool) (y10 : Option (Nat × Nat)) (y11 : Nat) (y12 : Option Nat) (y13 : Int) (y14 : Int) (y15 : Bool) (y16 : Bool) (y17 : Bool) (y18 : Bool) (y19 : Bool) (y20 : Bool) (y21 : Bool) (y22 : Bool) : Env := Env.sp 2 (AV.ptr (some (y0, (0 : Nat))) :: Env.sp 2 (AV.ptr y1 :: Env.sp 3 (AV.int IntKind.i64 y2 :: AV.ptr (some (y3, (0 : Nat))) :: Env.sp 1 (AV.bool y4 :: AV.int IntKind.i64 y5 :: AV.ptr (some (y6, (0 : Nat))) :: AV.str y7 :: AV.str y8 :: AV.bool y9 :: Env.sp 60 (AV.slice y10 y11 y12 (2 : Nat) :: AV.int IntKind.i64 y13 :: AV.int IntKind.i64 y14 :: Env.sp 13 (AV.bool y15 :: AV.bool y16 :: AV.bool y17 :: AV.tuple [] :: AV.tuple [] :: AV.tuple [] :: AV.tuple [] :: AV.bool y18 :: AV.bool y19 :: AV.tuple [] :: AV.tuple [] :: AV.tuple [] :: AV.tuple [] :: AV.bool y20 :: AV.bool y21 :: AV.tuple [] :: AV.tuple [] :: AV.tuple [] :: AV.tuple [] :: AV.tuple [] :: AV.tuple [] :: AV.tuple [] :: AV.tuple [] :: AV.tuple [] :: AV.tuple [] :: AV.tuple [] :: AV.tuple [] :: AV.tuple [] :: AV.tuple [] :: AV.bool y22 :: Env.sp 33 []))))))
def f8e40 (y0 : Nat) (y1 : Option (Nat × Nat)) (y2 : Int) (y3 : Nat) (y4 : Bool) (y5 : Int) (y6 : Nat) (y7 : ByteArray) (y8 : ByteArray) (y9 : Bool) (y10 : Option (Nat × Nat)) (y11 : Nat) (y12 : Option Nat) (y13 : Int) (y14 : Int) (y15 : Bool) (y16 : Bool) (y17 : Bool) (y18 : ByteArray) (y19 : Nat) (y20 : ByteArray) (y21 : Bool) (y22 : Bool) (y23 : Bool) (y24 : Bool) (y25 : Bool) (y26 : Bool) : Env := Env.sp 2 (AV.ptr (some (y0, (0 : Nat))) :: Env.sp 2 (AV.ptr y1 :: Env.sp 3 (AV.int IntKind.i64 y2 :: AV.ptr (some (y3, (0 : Nat))) :: Env.sp 1 (AV.bool y4 :: AV.int IntKind.i64 y5 :: AV.ptr (some (y6, (0 : Nat))) :: AV.str y7 :: AV.str y8 :: AV.bool y9 :: Env.sp 60 (AV.slice y10 y11 y12 (2 : Nat) :: AV.int IntKind.i64 y13 :: AV.int IntKind.i64 y14 :: Env.sp 13 (AV.bool y15 :: AV.bool y16 :: AV.bool y17 :: AV.str y18 :: AV.ptr (some (y19, (0 : Nat))) :: AV.str y20 :: AV.bool y21 :: AV.bool y22 :: AV.bool y23 :: AV.tuple [] :: AV.tuple [] :: AV.tuple [] :: AV.tuple [] :: AV.bool y24 :: AV.bool y25 :: AV.tuple [] :: AV.tuple [] :: AV.tuple [] :: AV.tuple [] :: AV.tuple [] :: AV.tuple [] :: AV.tuple [] :: AV.tuple [] :: AV.tuple [] :: AV.tuple [] :: AV.tuple [] :: AV.tuple [] :: AV.tuple [] :: AV.tuple [] :: AV.bool y26 :: Env.sp 33 []))))))
def f8e41 (y0 : Nat) (y1 : Option (Nat × Nat)) (y2 : Int) (y3 : Nat) (y4 : Bool) (y5 : Int) (y6 : Nat) (y7 : ByteArray) (y8 : ByteArray) (y9 : Bool) (y10 : Option (Nat × Nat)) (y11 : Nat) (y12 : Option Nat) (y13 : Int) (y14 : Int) (y15 : Bool) (y16 : Bool) (y17 : Bool) (y18 : ByteArray) (y19 : Nat) (y20 : ByteArray) (y21 : Bool) (y22 : Bool) (y23 : Bool) (y24 : ByteArray) (y25 : Nat) (y26 : ByteArray) (y27 : Bool) (y28 : Bool) (y29 : Bool) (y30 : Bool) : Env := Env.sp 2 (AV.ptr (some (y0, (0 : Nat))) :: Env.sp 2 (AV.ptr y1 :: Env.sp 3 (AV.int IntKind.i64 y2 :: AV.ptr (some (y3, (0 : Nat))) :: Env.sp 1 (AV.bool y4 :: AV.int IntKind.i64 y5 :: AV.ptr (some (y6, (0 : Nat))) :: AV.str y7 :: AV.str y8 :: AV.bool y9 :: Env.sp 60 (AV.slice y10 y11 y12 (2 : Nat) :: AV.int IntKind.i64 y13 :: AV.int IntKind.i64 y14 :: Env.sp 13 (AV.bool y15 :: AV.bool y16 :: AV.bool y17 :: AV.str y18 :: AV.ptr (some (y19, (0 : Nat))) :: AV.str y20 :: AV.bool y21 :: AV.bool y22 :: AV.bool y23 :: AV.str y24 :: AV.ptr (some (y25, (1 : Nat))) :: AV.str y26 :: AV.bool y27 :: AV.bool y28 :: AV.bool y29 :: AV.tuple [] :: AV.tuple [] :: AV.tuple [] :: AV.tuple [] :: AV.tuple [] :: AV.tuple [] :: AV.tuple [] :: AV.tuple [] :: AV.tuple [] :: AV.tuple [] :: AV.tuple [] :: AV.tuple [] :: AV.tuple [] :: AV.tuple [] :: AV.bool y30 :: Env.sp 33 []))))))
def f8e42 (y0 : Nat) (y1 : Option (Nat × Nat)) (y2 : Int) (y3 : Nat) (y4 : Bool) (y5 : Int) (y6 : Nat) (y7 : ByteArray) (y8 : ByteArray) (y9 : Bool) (y10 : Option (Nat × Nat)) (y11 : Nat) (y12 : Option Nat) (y13 : Int) (y14 : Int) (y15 : Bool) (y16 : Bool) (y17 : Bool) (y18 : ByteArray) (y19 : Nat) (y20 : ByteArray) (y21 : Bool) (y22 : Bool) (y23 : Bool) (y24 : ByteArray) (y25 : Nat) (y26 : ByteArray) (y27 : Bool) (y28 : Bool) (y29 : Bool) (y30 : Int) (y31 : Bool) (y32 : Bool) (y33 : Nat) (y34 : Option (Nat × Nat)) (y35 : Nat) (y36 : Option Nat) (y37 : Int) (y38 : Int) (y39 : Option (Nat × Nat)) (y40 : Option (Nat × Nat)) (y41 : Int) (y42 : Nat) (y43 : Int) (y44 : Bool) (y45 : Bool) (y46 : Bool) : Env := Env.sp 2 (AV.ptr (some (y0, (0 : Nat))) :: Env.sp 2 (AV.ptr y1 :: Env.sp 3 (AV.int IntKind.i64 y2 :: AV.ptr (some (y3, (0 : Nat))) :: Env.sp 1 (AV.bool y4 :: AV.int IntKind.i64 y5 :: AV.ptr (some (y6, (0 : Nat))) :: AV.str y7 :: AV.str y8 :: AV.bool y9 :: Env.sp 60 (AV.slice y10 y11 y12 (2 : Nat) :: AV.int IntKind.i64 y13 :: AV.int IntKind.i64 y14 :: Env.sp 13 (AV.bool y15 :: AV.bool y16 :: AV.bool y17 :: AV.str y18 :: AV.ptr (some (y19, (0 : Nat))) :: AV.str y20 :: AV.bool y21 :: AV.bool y22 :: AV.bool y23 :: AV.str y24 :: AV.ptr (some (y25, (1 : Nat))) :: AV.str y26 :: AV.bool y27 :: AV.bool y28 :: AV.bool y29 :: AV.int IntKind.i64 y30 :: AV.bool y31 :: AV.bool y32 :: AV.ptr (some (y33, (2 : Nat))) :: AV.slice y34 y35 y36 (2 : Nat) :: AV.int IntKind.i64 y37 :: AV.int IntKind.i64 y38 :: AV.ptr y39 :: AV.ptr y40 :: AV.int IntKind.i64 y41 :: AV.ptr (some (y42, (0 : Nat))) :: AV.int IntKind.i64 y43 :: AV.bool y44 :: AV.bool y45 :: AV.bool y46 :: Env.sp 33 []))))))
def f8e43 (y0 : Nat) (y1 : Option (Nat × Nat)) (y2 : Int) (y3 : Nat) (y4 : Bool) (y5 : Int) (y6 : Nat) (y7 : ByteArray) (y8 : ByteArray) (y9 : Bool) (y10 : Option (Nat × Nat)) (y11 : Nat) (y12 : Option Nat) (y13 : Int) (y14 : Int) (y15 : Bool) (y16 : Bool) (y17 : Bool) (y18 : ByteArray) (y19 : Nat) (y20 : ByteArray) (y21 : Bool) (y22 : Bool) (y23 : Bool) (y24 : ByteArray) (y25 : Nat) (y26 : ByteArray) (y27 : Bool) (y28 : Bool) (y29 : Bool) (y30 : Int) (y31 : Bool) (y32 : Bool) (y33 : Bool) (y34 : Bool) : Env := Env.sp 2 (AV.ptr (some (y0, (0 : Nat))) :: Env.sp 2 (AV.ptr y1 :: Env.sp 3 (AV.int IntKind.i64 y2 :: AV.ptr (some (y3, (0 : Nat))) :: Env.sp 1 (AV.bool y4 :: AV.int IntKind.i64 y5 :: AV.ptr (some (y6, (0 : Nat))) :: AV.str y7 :: AV.str y8 :: AV.bool y9 :: Env.sp 60 (AV.slice y10 y11 y12 (2 : Nat) :: AV.int IntKind.i64 y13 :: AV.int IntKind.i64 y14 :: Env.sp 13 (AV.bool y15 :: AV.bool y16 :: AV.bool y17 :: AV.str y18 :: AV.ptr (some (y19, (0 : Nat))) :: AV.str y20 :: AV.bool y21 :: AV.bool y22 :: AV.bool y23 :: AV.str y24 :: AV.ptr (some (y25, (1 : Nat))) :: AV.str y26 :: AV.bool y27 :: AV.bool y28 :: AV.bool y29 :: AV.int IntKind.i64 y30 :: AV.bool y31 :: AV.bool y32 :: AV.tuple [] :: AV.tuple [] :: AV.tuple [] :: AV.tuple [] :: AV.tuple [] :: AV.tuple [] :: AV.tuple [] :: AV.tuple [] :: AV.tuple [] :: AV.tuple [] :: AV.bool y33 :: AV.bool y34 :: Env.sp 33 []))))))
def f8e44 (y0 : Nat) (y1 : Option (Nat × Nat)) (y2 : Int) (y3 : Nat) (y4 : Bool) (y5 : Nat) (y6 : Option (Nat × Nat)) (y7 : Nat) (y8 : Option Nat) (y9 : Int) (y10 : Int) (y11 : Bool) : Env := Env.sp 2 (AV.ptr (some (y0, (0 : Nat))) :: Env.sp 2 (AV.ptr y1 :: Env.sp 3 (AV.int IntKind.i64 y2 :: AV.ptr (some (y3, (0 : Nat))) :: Env.sp 1 (AV.bool y4 :: Env.sp 1 (AV.ptr (some (y5, (0 : Nat))) :: Env.sp 63 (AV.slice y6 y7 y8 (2 : Nat) :: AV.int IntKind.i64 y9 :: AV.int IntKind.i64 y10 :: Env.sp 42 (AV.bool y11 :: Env.sp 33 [])))))))
def f8e45 (y0 : Nat) (y1 : Bool) (y2 : Option (Nat × Nat)) (y3 : Int) (y4 : Nat) (y5 : Bool) (y6 : Nat) (y7 : Option (Nat × Nat)) (y8 : Nat) (y9 : Option Nat) (y10 : Int) (y11 : Int) (y12 : Bool) : Env := Env.sp 2 (AV.ptr (some (y0, (0 : Nat))) :: Env.sp 1 (AV.bool y1 :: AV.ptr y2 :: Env.sp 3 (AV.int IntKind.i64 y3 :: AV.ptr (some (y4, (0 : Nat))) :: Env.sp 1 (AV.bool y5 :: Env.sp 1 (AV.ptr (some (y6, (0 : Nat))) :: Env.sp 63 (AV.slice y7 y8 y9 (2 : Nat) :: AV.int IntKind.i64 y10 :: AV.int IntKind.i64 y11 :: Env.sp 42 (AV.bool y12 :: Env.sp 33 [])))))))
def f8e46 (y0 : Nat) (y1 : Option (Nat × Nat)) (y2 : Int) (y3 : Nat) (y4 : Bool) (y5 : Nat) (y6 : Option (Nat × Nat)) (y7 : Nat) (y8 : Option Nat) (y9 : Int) (y10 : Int) : Env := Env.sp 2 (AV.ptr (some (y0, (0 : Nat))) :: Env.sp 2 (AV.ptr y1 :: Env.sp 3 (AV.int IntKind.i64 y2 :: AV.ptr (some (y3, (0 : Nat))) :: Env.sp 1 (AV.bool y4 :: Env.sp 1 (AV.ptr (some (y5, (0 : Nat))) :: Env.sp 63 (AV.slice y6 y7 y8 (2 : Nat) :: AV.int IntKind.i64 y9 :: AV.int IntKind.i64 y10 :: Env.sp 76 []))))))
def f8e47 (y0 : Nat) (y1 : Option (Nat × Nat)) (y2 : Int) (y3 : Nat) (y4 : Bool) (y5 : Nat) (y6 : Option (Nat × Nat)) (y7 : Nat) (y8 : Option Nat) (y9 : Int) (y10 : Int) (y11 : Bool) (y12 : Bool) (y13 : Bool) : Env := Env.sp 2 (AV.ptr (some (y0, (0 : Nat))) :: Env.sp 2 (AV.ptr y1 :: Env.sp 3 (AV.int IntKind.i64 y2 :: AV.ptr (some (y3, (0 : Nat))) :: Env.sp 1 (AV.bool y4 :: Env.sp 1 (AV.ptr (some (y5, (0 : Nat))) :: Env.sp 63 (AV.slice y6 y7 y8 (2 : Nat) :: AV.int IntKind.i64 y9 :: AV.int IntKind.i64 y10 :: Env.sp 43 (AV.bool y11 :: AV.bool y12 :: AV.tuple [] :: AV.tuple [] :: AV.tuple [] :: AV.tuple [] :: AV.tuple [] :: AV.bool y13 :: Env.sp 25 [])))))))
def f8e48 (y0 : Nat) (y1 : Option (Nat × Nat)) (y2 : Int) (y3 : Nat) (y4 : Bool) (y5 : Nat) (y6 : Option (Nat × Nat)) (y7 : Nat) (y8 : Option Nat) (y9 : Int) (y10 : Int) (y11 : Bool) (y12 : Bool) (y13 : Nat) (y14 : Int) (y15 : Nat) (y16 : Int) (y17 : Bool) (y18 : Bool) : Env := Env.sp 2 (AV.ptr (some (y0, (0 : Nat))) :: Env.sp 2 (AV.ptr y1 :: Env.sp 3 (AV.int IntKind.i64 y2 :: AV.ptr (some (y3, (0 : Nat))) :: Env.sp 1 (AV.bool y4 :: Env.sp 1 (AV.ptr (some (y5, (0 : Nat))) :: Env.sp 63 (AV.slice y6 y7 y8 (2 : Nat) :: AV.int IntKind.i64 y9 :: AV.int IntKind.i64 y10 :: Env.sp 43 (AV.bool y11 :: AV.bool y12 :: AV.ptr (some (y13, (0 : Nat))) :: AV.int IntKind.i64 y14 :: AV.ptr (some (y15, (2 : Nat))) :: AV.int IntKind.i64 y16 :: AV.bool y17 :: AV.bool y18 :: Env.sp 25 [])))))))
def f8e49 (y0 : Nat) (y1 : Option (Nat × Nat)) (y2 : Int) (y3 : Nat) (y4 : Bool) (y5 : Option (Nat × Nat)) (y6 : Nat) (y7 : Option Nat) (y8 : Int) (y9 : Int) (y10 : Int) : Env := Env.sp 2 (AV.ptr (some (y0, (0 : Nat))) :: Env.sp 2 (AV.ptr y1 :: Env.sp 3 (AV.int IntKind.i64 y2 :: AV.ptr (some (y3, (0 : Nat))) :: Env.sp 1 (AV.bool y4 :: Env.sp 65 (AV.slice y5 y6 y7 (2 : Nat) :: AV.int IntKind.i64 y8 :: AV.int IntKind.i64 y9 :: Env.sp 51 (AV.int IntKind.i64 y10 :: Env.sp 24 []))))))
def f8e50 (y0 : Nat) (y1 : Option (Nat × Nat)) (y2 : Int) (y3 : Nat) (y4 : Bool) (y5 : Nat) (y6 : Option (Nat × Nat)) (y7 : Nat) (y8 : Option Nat) (y9 : Int) (y10 : Nat) (y11 : Int) (y12 : Int) (y13 : Int) (y14 : Bool) (y15 : Bool) (y16 : Bool) (y17 : Bool) (y18 : Bool) : Env := Env.sp 2 (AV.ptr (some (y0, (0 : Nat))) :: Env.sp 2 (AV.ptr y1 :: Env.sp 3 (AV.int IntKind.i64 y2 :: AV.ptr (some (y3, (0 : Nat))) :: Env.sp 1 (AV.bool y4 :: Env.sp 120 (AV.ptr (some (y5, (2 : Nat))) :: AV.slice y6 y7 y8 (2 : Nat) :: AV.int IntKind.i64 y9 :: AV.ptr (some (y10, (1 : Nat))) :: AV.int IntKind.i64 y11 :: AV.int IntKind.i64 y12 :: AV.int IntKind.i64 y13 :: AV.bool y14 :: AV.bool y15 :: AV.tuple [] :: AV.tuple [] :: AV.tuple [] :: AV.tuple [] :: AV.tuple [] :: AV.bool y16 :: AV.bool y17 :: AV.tuple [] :: AV.tuple [] :: AV.tuple [] :: AV.tuple [] :: AV.tuple [] :: AV.tuple [] :: AV.bool y18 :: Env.sp 1 [])))))
def f8e51 (y0 : Nat) (y1 : Option (Nat × Nat)) (y2 : Int) (y3 : Nat) (y4 : Bool) (y5 : Nat) (y6 : Option (Nat × Nat)) (y7 : Nat) (y8 : Option Nat) (y9 : Int) (y10 : Nat) (y11 : Int) (y12 : Int) (y13 : Int) (y14 : Bool) (y15 : Bool) (y16 : Nat) (y17 : Int) (y18 : Nat) (y19 : Int) (y20 : Bool) (y21 : Bool) (y22 : Bool) (y23 : Bool) : Env := Env.sp 2 (AV.ptr (some (y0, (0 : Nat))) :: Env.sp 2 (AV.ptr y1 :: Env.sp 3 (AV.int IntKind.i64 y2 :: AV.ptr (some (y3, (0 : Nat))) :: Env.sp 1 (AV.bool y4 :: Env.sp 120 (AV.ptr (some (y5, (2 : Nat))) :: AV.slice y6 y7 y8 (2 : Nat) :: AV.int IntKind.i64 y9 :: AV.ptr (some (y10, (1 : Nat))) :: AV.int IntKind.i64 y11 :: AV.int IntKind.i64 y12 :: AV.int IntKind.i64 y13 :: AV.bool y14 :: AV.bool y15 :: AV.ptr (some (y16, (1 : Nat))) :: AV.int IntKind.i64 y17 :: AV.ptr (some (y18, (0 : Nat))) :: AV.int IntKind.i64 y19 :: AV.bool y20 :: AV.bool y21 :: AV.bool y22 :: AV.tuple [] :: AV.tuple [] :: AV.tuple [] :: AV.tuple [] :: AV.tuple [] :: AV.tuple [] :: AV.bool y23 :: Env.sp 1 [])))))
def f8e52 (y0 : Nat) (y1 : Option (Nat × Nat)) (y2 : Int) (y3 : Nat) (y4 : Bool) (y5 : Nat) (y6 : Option (Nat × Nat)) (y7 : Nat) (y8 : Option Nat) (y9 : Int) (y10 : Nat) (y11 : Int) (y12 : Int) (y13 : Int) (y14 : Bool) (y15 : Bool) (y16 : Nat) (y17 : Int) (y18 : Nat) (y19 : Int) (y20 : Bool) (y21 : Bool) (y22 : Bool) (y23 : Int) (y24 : Bool) (y25 : Bool) (y26 : Bool) (y27 : Bool) (y28 : Bool) (y29 : Bool) : Env := Env.sp 2 (AV.ptr (some (y0, (0 : Nat))) :: Env.sp 2 (AV.ptr y1 :: Env.sp 3 (AV.int IntKind.i64 y2 :: AV.ptr (some (y3, (0 : Nat))) :: Env.sp 1 (AV.bool y4 :: Env.sp 120 (AV.ptr (some (y5, (2 : Nat))) :: AV.slice y6 y7 y8 (2 : Nat) :: AV.int IntKind.i64 y9 :: AV.ptr (some (y10, (1 : Nat))) :: AV.int IntKind.i64 y11 :: AV.int IntKind.i64 y12 :: AV.int IntKind.i64 y13 :: AV.bool y14 :: AV.bool y15 :: AV.ptr (some (y16, (1 : Nat))) :: AV.int IntKind.i64 y17 :: AV.ptr (some (y18, (0 : Nat))) :: AV.int IntKind.i64 y19 :: AV.bool y20 :: AV.bool y21 :: AV.bool y22 :: AV.int IntKind.i64 y23 :: AV.bool y24 :: AV.bool y25 :: AV.bool y26 :: AV.bool y27 :: AV.bool y28 :: AV.bool y29 :: Env.sp 1 [])))))
def f8e53 (y0 : Nat) (y1 : Option (Nat × Nat)) (y2 : Int) (y3 : Nat) (y4 : Bool) (y5 : Nat) (y6 : Option (Nat × Nat)) (y7 : Nat) (y8 : Option Nat) (y9 : Int) (y10 : Nat) (y11 : Int) (y12 : Int) (y13 : Int) (y14 : Bool) (y15 : Bool) (y16 : Nat) (y17 : Int) (y18 : Nat) (y19 : Int) (y20 : Bool) (y21 : Bool) (y22 : Bool) (y23 : Int) (y24 : Bool) (y25 : Bool) (y26 : Bool) (y27 : Bool) : Env := Env.sp 2 (AV.ptr (some (y0, (0 : Nat))) :: Env.sp 2 (AV.ptr y1 :: Env.sp 3 (AV.int IntKind.i64 y2 :: AV.ptr (some (y3, (0 : Nat))) :: Env.sp 1 (AV.bool y4 :: Env.sp 120 (AV.ptr (some (y5, (2 : Nat))) :: AV.slice y6 y7 y8 (2 : Nat) :: AV.int IntKind.i64 y9 :: AV.ptr (some (y10, (1 : Nat))) :: AV.int IntKind.i64 y11 :: AV.int IntKind.i64 y12 :: AV.int IntKind.i64 y13 :: AV.bool y14 :: AV.bool y15 :: AV.ptr (some (y16, (1 : Nat))) :: AV.int IntKind.i64 y17 :: AV.ptr (some (y18, (0 : Nat))) :: AV.int IntKind.i64 y19 :: AV.bool y20 :: AV.bool y21 :: AV.bool y22 :: AV.int IntKind.i64 y23 :: AV.bool y24 :: AV.bool y25 :: AV.tuple [] :: AV.tuple [] :: AV.bool y26 :: AV.bool y27 :: Env.sp 1 [])))))
def f8e54 (y0 : Nat) (y1 : Option (Nat × Nat)) (y2 : Int) (y3 : Bool) : Env := Env.sp 2 (AV.ptr (some (y0, (0 : Nat))) :: Env.sp 2 (AV.ptr y1 :: Env.sp 3 (AV.int IntKind.i64 y2 :: Env.sp 145 (AV.bool y3 :: Env.sp 1 []))))
def f8e55 (y0 : Nat) (y1 : Bool) (y2 : Option (Nat × Nat)) (y3 : Int) (y4 : Bool) : Env := Env.sp 2 (AV.ptr (some (y0, (0 : Nat))) :: Env.sp 1 (AV.bool y1 :: AV.ptr y2 :: Env.sp 3 (AV.int IntKind.i64 y3 :: Env.sp 145 (AV.bool y4 :: Env.sp 1 []))))
def f8e56 (y0 : Nat) (y1 : Option (Nat × Nat)) (y2 : Int) (y3 : Int) (y4 : Int) : Env := Env.sp 2 (AV.ptr (some (y0, (0 : Nat))) :: Env.sp 2 (AV.ptr y1 :: Env.sp 3 (AV.int IntKind.i64 y2 :: Env.sp 57 (AV.int IntKind.i64 y3 :: AV.int IntKind.i64 y4 :: Env.sp 88 []))))
def f8e57 (y0 : Bool) (y1 : Bool) : Env := Env.sp 4 (AV.bool y0 :: Env.sp 151 (AV.bool y1 :: []))

/- function 8 -/
theorem f8_eq {R : Type} (call : CallF R) (N : Nat) (y0 : Int) (y1 : Int) (y2 : Int) (y3 : Option (Nat × Nat)) (y4 : Nat) (y5 : Option Nat) (σ : St) (K : AV → St → Option R) :
    bodyK Try.prog call N ann 8 [AV.agg [AV.int IntKind.i64 y0, AV.int IntKind.i64 y1, AV.int IntKind.i64 y2], AV.slice y3 y4 y5 (4 : Nat)] σ K = runK Try.prog call N f8c0 f8a0 (bodyC Try.prog f8rs K) (f8e0 y0 y1 y2 y3 y4 y5) σ := bodyK_of (fn := ((Try.prog.funcs[8]?).get rfl)) (by kernel_rfl) (by kernel_rfl) (by kernel_rfl) (by kernel_rfl) (by kernel_rfl) (by kernel_rfl)
theorem f8n0 {R : Type} (call : CallF R) (N : Nat) (J : KF R) (e : Env) (σ : St) : runK Try.prog call N f8c0 f8a0 J e σ = runK Try.prog call N f8c1 f8a1 (seqC (fun K e σ => runK Try.prog call N f8c2 f8a2 K e σ) f8a0 J) e σ := runK_seq' (by kernel_rfl) (by kernel_rfl) (by kernel_rfl)
theorem f8r1_f8e0 {R : Type} (call : CallF R) (N : Nat) (y0 : Int) (y1 : Int) (y2 : Int) (y3 : Option (Nat × Nat)) (y4 : Nat) (y5 : Option Nat) (J : KF R) (σ : St) :
    runK Try.prog call N f8c1 f8a1 J (f8e0 y0 y1 y2 y3 y4 y5) σ =
J Ex.normal (f8e1 y0 y1 y2 y3 y4 y5 (St.next σ) false)
  (St.new σ (Blk.cells [AV.int IntKind.i64 y0, AV.int IntKind.i64 y1, AV.int IntKind.i64 y2] true)) := hide (by kernel_rfl)
theorem f8z0_f8e1 (y0 : Int) (y1 : Int) (y2 : Int) (y3 : Option (Nat × Nat)) (y4 : Nat) (y5 : Option Nat) (y6 : Nat) (y7 : Bool) : Ann.clr f8a0 (f8e1 y0 y1 y2 y3 y4 y5 y6 y7) = f8e2 y3 y4 y5 y6 := hide (by kernel_rfl)
theorem f8n2 {R : Type} (call : CallF R) (N : Nat) (J : KF R) (e : Env) (σ : St) : runK Try.prog call N f8c2 f8a2 J e σ = runK Try.prog call N f8c3 f8a3 (seqC (fun K e σ => runK Try.prog call N f8c4 f8a4 K e σ) f8a2 J) e σ := runK_seq' (by kernel_rfl) (by kernel_rfl) (by kernel_rfl)
theorem f8r3_f8e2 {R : Type} (call : CallF R) (N : Nat) (y0 : Option (Nat × Nat)) (y1 : Nat) (y2 : Option Nat) (y3 : Nat) (J : KF R) (σ : St) :
    runK Try.prog call N f8c3 f8a3 J (f8e2 y0 y1 y2 y3) σ =
Option.bind (St.ld σ y3 (0 : Nat)) fun v0 =>
  Option.bind (AV.toInt IntKind.i64 v0) fun v1 =>
    Option.bind (St.ld σ y3 (1 : Nat)) fun v2 =>
      Option.bind (AV.toInt IntKind.i64 v2) fun v3 =>
        Option.bind (St.ld σ y3 (2 : Nat)) fun v4 =>
          Option.bind (AV.toInt IntKind.i64 v4) fun v5 =>
            call (22 : Nat) [AV.int IntKind.i64 v1, AV.int IntKind.i64 v3, AV.int IntKind.i64 v5] σ fun v6 v7 =>
              Option.bind (AV.toTuple v6) fun v8 =>
                if List.length v8 = (2 : Nat) then
                  Option.bind (List.head? v8) fun v9 =>
                    Option.bind (AV.toPtr v9) fun v10 =>
                      Option.bind (List.head? (List.tail v8)) fun v11 =>
                        Option.bind (AV.toInt IntKind.i64 v11) fun v12 =>
                          J Ex.normal (f8e3 y0 y1 y2 y3 v10 v12 v10 v12 y3 v1 y3 v3 y3 v5 v10 v12 v10 v12) v7
                else none := hide (by kernel_rfl)
theorem f8z2_f8e3 (y0 : Option (Nat × Nat)) (y1 : Nat) (y2 : Option Nat) (y3 : Nat) (y4 : Option (Nat × Nat)) (y5 : Int) (y6 : Option (Nat × Nat)) (y7 : Int) (y8 : Nat) (y9 : Int) (y10 : Nat) (y11 : Int) (y12 : Nat) (y13 : Int) (y14 : Option (Nat × Nat)) (y15 : Int) (y16 : Option (Nat × Nat)) (y17 : Int) : Ann.clr f8a2 (f8e3 y0 y1 y2 y3 y4 y5 y6 y7 y8 y9 y10 y11 y12 y13 y14 y15 y16 y17) = f8e4 y0 y1 y2 y3 y4 y5 := hide (by kernel_rfl)
theorem f8n4 {R : Type} (call : CallF R) (N : Nat) (J : KF R) (e : Env) (σ : St) : runK Try.prog call N f8c4 f8a4 J e σ = runK Try.prog call N f8c5 f8a5 (seqC (fun K e σ => runK Try.prog call N f8c6 f8a6 K e σ) f8a4 J) e σ := runK_seq' (by kernel_rfl) (by kernel_rfl) (by kernel_rfl)
theorem f8n5 {R : Type} (call : CallF R) (N : Nat) (J : KF R) (e : Env) (σ : St) : runK Try.prog call N f8c5 f8a5 J e σ = runK Try.prog call N f8c7 f8a7 (seqC (fun K e σ => runK Try.prog call N f8c8 f8a8 K e σ) f8a5 J) e σ := runK_seq' (by kernel_rfl) (by kernel_rfl) (by kernel_rfl)
theorem f8r7_f8e4 {R : Type} (call : CallF R) (N : Nat) (y0 : Option (Nat × Nat)) (y1 : Nat) (y2 : Option Nat) (y3 : Nat) (y4 : Option (Nat × Nat)) (y5 : Int) (J : KF R) (σ : St) :
    runK Try.prog call N f8c7 f8a7 J (f8e4 y0 y1 y2 y3 y4 y5) σ =
if (y5 != (0 : Int)) = true then J Ex.normal (f8e5 y0 y1 y2 y3 y4 y5 y5 (y5 != (0 : Int)) true true true true) σ
else
  if Option.isNone y4 = true then J Ex.normal (f8e6 y0 y1 y2 y3 y4 y5 y5 (y5 != (0 : Int)) false y4 (Option.isNone y4) (Option.isNone y4) true true) σ
  else
    J Ex.normal
      (f8e7 y0 y1 y2 y3 y4 y5 y5 (y5 != (0 : Int)) false y4 (Option.isNone y4) (Option.isNone y4) false y0 y1 y2 (↑y1 : Int)
        (decide ((↑y1 : Int) > (200 : Int))) (decide ((↑y1 : Int) > (200 : Int))))
      σ := hide (by kernel_rfl)
theorem f8z5_f8e5 (y0 : Option (Nat × Nat)) (y1 : Nat) (y2 : Option Nat) (y3 : Nat) (y4 : Option (Nat × Nat)) (y5 : Int) (y6 : Int) (y7 : Bool) (y8 : Bool) (y9 : Bool) (y10 : Bool) (y11 : Bool) : Ann.clr f8a5 (f8e5 y0 y1 y2 y3 y4 y5 y6 y7 y8 y9 y10 y11) = f8e8 y0 y1 y2 y3 y4 y5 y11 := hide (by kernel_rfl)
theorem f8x8_f8e8 {R : Type} (call : CallF R) (N : Nat) (y0 : Option (Nat × Nat)) (y1 : Nat) (y2 : Option Nat) (y3 : Nat) (y4 : Option (Nat × Nat)) (y5 : Int) (y6 : Bool) (J : KF R) (σ : St) : runK Try.prog call N f8c8 f8a8 J (f8e8 y0 y1 y2 y3 y4 y5 y6) σ = if y6 = true then runK Try.prog call N f8c9 f8a9 (condC f8a8 J) (f8e8 y0 y1 y2 y3 y4 y5 y6) σ else runK Try.prog call N f8c10 f8a10 (condC f8a8 J) (f8e8 y0 y1 y2 y3 y4 y5 y6) σ := runK_cond' (o := Operand.tmp (38 : Nat)) (by kernel_rfl) (by kernel_rfl) (by kernel_rfl) (by kernel_rfl)
theorem f8n9 {R : Type} (call : CallF R) (N : Nat) (J : KF R) (e : Env) (σ : St) : runK Try.prog call N f8c9 f8a9 J e σ = runK Try.prog call N f8c11 f8a11 (seqC (fun K e σ => runK Try.prog call N f8c12 f8a12 K e σ) f8a9 J) e σ := runK_seq' (by kernel_rfl) (by kernel_rfl) (by kernel_rfl)
theorem f8r11_f8e8 {R : Type} (call : CallF R) (N : Nat) (y0 : Option (Nat × Nat)) (y1 : Nat) (y2 : Option Nat) (y3 : Nat) (y4 : Option (Nat × Nat)) (y5 : Int) (y6 : Bool) (J : KF R) (σ : St) :
    runK Try.prog call N f8c11 f8a11 J (f8e8 y0 y1 y2 y3 y4 y5 y6) σ =
if (y5 != (0 : Int)) = true then
  call (19 : Nat) [] σ fun v0 v1 =>
    Option.bind (AV.toBool v0) fun v2 => J Ex.normal (f8e9 y0 y1 y2 y3 v2 y4 y5 y6 y5 (y5 != (0 : Int)) true true true v2 v2) v1
else
  if (!Option.isNone y4) = true then
    call (19 : Nat) [] σ fun v0 v1 =>
      Option.bind (AV.toBool v0) fun v2 =>
        J Ex.normal (f8e10 y0 y1 y2 y3 v2 y4 y5 y6 y5 (y5 != (0 : Int)) false y4 (!Option.isNone y4) (!Option.isNone y4) true v2 v2) v1
  else J Ex.normal (f8e11 y0 y1 y2 y3 false y4 y5 y6 y5 (y5 != (0 : Int)) false y4 (!Option.isNone y4) (!Option.isNone y4) false false) σ := hide (by kernel_rfl)
theorem f8z9_f8e9 (y0 : Option (Nat × Nat)) (y1 : Nat) (y2 : Option Nat) (y3 : Nat) (y4 : Bool) (y5 : Option (Nat × Nat)) (y6 : Int) (y7 : Bool) (y8 : Int) (y9 : Bool) (y10 : Bool) (y11 : Bool) (y12 : Bool) (y13 : Bool) (y14 : Bool) : Ann.clr f8a9 (f8e9 y0 y1 y2 y3 y4 y5 y6 y7 y8 y9 y10 y11 y12 y13 y14) = f8e12 y4 := hide (by kernel_rfl)
theorem f8y12_f8e12 {R : Type} (call : CallF R) (N : Nat) (y0 : Bool) (J : KF R) (σ : St) : runK Try.prog call N f8c12 f8a12 J (f8e12 y0) σ = J .ret (f8e12 y0) σ := runK_ret' (by kernel_rfl) (by kernel_rfl)
theorem f8z9_f8e10 (y0 : Option (Nat × Nat)) (y1 : Nat) (y2 : Option Nat) (y3 : Nat) (y4 : Bool) (y5 : Option (Nat × Nat)) (y6 : Int) (y7 : Bool) (y8 : Int) (y9 : Bool) (y10 : Bool) (y11 : Option (Nat × Nat)) (y12 : Bool) (y13 : Bool) (y14 : Bool) (y15 : Bool) (y16 : Bool) : Ann.clr f8a9 (f8e10 y0 y1 y2 y3 y4 y5 y6 y7 y8 y9 y10 y11 y12 y13 y14 y15 y16) = f8e12 y4 := hide (by kernel_rfl)
theorem f8z9_f8e11 (y0 : Option (Nat × Nat)) (y1 : Nat) (y2 : Option Nat) (y3 : Nat) (y4 : Bool) (y5 : Option (Nat × Nat)) (y6 : Int) (y7 : Bool) (y8 : Int) (y9 : Bool) (y10 : Bool) (y11 : Option (Nat × Nat)) (y12 : Bool) (y13 : Bool) (y14 : Bool) (y15 : Bool) : Ann.clr f8a9 (f8e11 y0 y1 y2 y3 y4 y5 y6 y7 y8 y9 y10 y11 y12 y13 y14 y15) = f8e12 y4 := hide (by kernel_rfl)
theorem f8n10 {R : Type} (call : CallF R) (N : Nat) (J : KF R) (e : Env) (σ : St) : runK Try.prog call N f8c10 f8a10 J e σ = J .normal e σ := runK_skip' (by kernel_rfl)
theorem f8z8_f8e8 (y0 : Option (Nat × Nat)) (y1 : Nat) (y2 : Option Nat) (y3 : Nat) (y4 : Option (Nat × Nat)) (y5 : Int) (y6 : Bool) : Ann.clr f8a8 (f8e8 y0 y1 y2 y3 y4 y5 y6) = f8e13 y0 y1 y2 y3 y4 := hide (by kernel_rfl)
theorem f8z5_f8e6 (y0 : Option (Nat × Nat)) (y1 : Nat) (y2 : Option Nat) (y3 : Nat) (y4 : Option (Nat × Nat)) (y5 : Int) (y6 : Int) (y7 : Bool) (y8 : Bool) (y9 : Option (Nat × Nat)) (y10 : Bool) (y11 : Bool) (y12 : Bool) (y13 : Bool) : Ann.clr f8a5 (f8e6 y0 y1 y2 y3 y4 y5 y6 y7 y8 y9 y10 y11 y12 y13) = f8e8 y0 y1 y2 y3 y4 y5 y13 := hide (by kernel_rfl)
theorem f8z5_f8e7 (y0 : Option (Nat × Nat)) (y1 : Nat) (y2 : Option Nat) (y3 : Nat) (y4 : Option (Nat × Nat)) (y5 : Int) (y6 : Int) (y7 : Bool) (y8 : Bool) (y9 : Option (Nat × Nat)) (y10 : Bool) (y11 : Bool) (y12 : Bool) (y13 : Option (Nat × Nat)) (y14 : Nat) (y15 : Option Nat) (y16 : Int) (y17 : Bool) (y18 : Bool) : Ann.clr f8a5 (f8e7 y0 y1 y2 y3 y4 y5 y6 y7 y8 y9 y10 y11 y12 y13 y14 y15 y16 y17 y18) = f8e8 y0 y1 y2 y3 y4 y5 y18 := hide (by kernel_rfl)
theorem f8z4_f8e13 (y0 : Option (Nat × Nat)) (y1 : Nat) (y2 : Option Nat) (y3 : Nat) (y4 : Option (Nat × Nat)) : Ann.clr f8a4 (f8e13 y0 y1 y2 y3 y4) = f8e13 y0 y1 y2 y3 y4 := hide (by kernel_rfl)
theorem f8n6 {R : Type} (call : CallF R) (N : Nat) (J : KF R) (e : Env) (σ : St) : runK Try.prog call N f8c6 f8a6 J e σ = runK Try.prog call N f8c13 f8a13 (seqC (fun K e σ => runK Try.prog call N f8c14 f8a14 K e σ) f8a6 J) e σ := runK_seq' (by kernel_rfl) (by kernel_rfl) (by kernel_rfl)
theorem f8n13 {R : Type} (call : CallF R) (N : Nat) (J : KF R) (e : Env) (σ : St) : runK Try.prog call N f8c13 f8a13 J e σ = runK Try.prog call N f8c15 f8a15 (seqC (fun K e σ => runK Try.prog call N f8c16 f8a16 K e σ) f8a13 J) e σ := runK_seq' (by kernel_rfl) (by kernel_rfl) (by kernel_rfl)
theorem f8r15_f8e13 {R : Type} (call : CallF R) (N : Nat) (y0 : Option (Nat × Nat)) (y1 : Nat) (y2 : Option Nat) (y3 : Nat) (y4 : Option (Nat × Nat)) (J : KF R) (σ : St) :
    runK Try.prog call N f8c15 f8a15 J (f8e13 y0 y1 y2 y3 y4) σ =
J Ex.normal (f8e14 y0 y1 y2 y3 y4 y0 y1 y2 (↑y1 : Int) (0 : Int)) σ := hide (by kernel_rfl)
theorem f8z13_f8e14 (y0 : Option (Nat × Nat)) (y1 : Nat) (y2 : Option Nat) (y3 : Nat) (y4 : Option (Nat × Nat)) (y5 : Option (Nat × Nat)) (y6 : Nat) (y7 : Option Nat) (y8 : Int) (y9 : Int) : Ann.clr f8a13 (f8e14 y0 y1 y2 y3 y4 y5 y6 y7 y8 y9) = f8e15 y3 y4 y5 y6 y7 y8 y9 := hide (by kernel_rfl)
theorem f8n16 {R : Type} (call : CallF R) (N : Nat) (J : KF R) (e : Env) (σ : St) : runK Try.prog call N f8c16 f8a16 J e σ = runK Try.prog call N f8c17 f8a17 (blockC 0 f8a16 J) e σ := runK_block' (by kernel_rfl) (by kernel_rfl)
theorem f8L17_eq {R : Type} (call : CallF R) (N : Nat) (J : KF R) (e : Env) (σ : St) : f8L17 call N J e σ = runK Try.prog call N f8c18 f8a18 J e σ := hide rfl
theorem f8z17_f8e15 (y0 : Nat) (y1 : Option (Nat × Nat)) (y2 : Option (Nat × Nat)) (y3 : Nat) (y4 : Option Nat) (y5 : Int) (y6 : Int) : Ann.clr f8a17 (f8e15 y0 y1 y2 y3 y4 y5 y6) = f8e15 y0 y1 y2 y3 y4 y5 y6 := hide (by kernel_rfl)
theorem f8l17_f8e15 {R : Type} (call : CallF R) (N : Nat) (y0 : Nat) (y1 : Option (Nat × Nat)) (y2 : Option (Nat × Nat)) (y3 : Nat) (y4 : Option Nat) (y5 : Int) (y6 : Int) (J : KF R) (σ : St) : runK Try.prog call N f8c17 f8a17 J (f8e15 y0 y1 y2 y3 y4 y5 y6) σ = loopK (f8L17 call N) f8a17 N J (f8e15 y0 y1 y2 y3 y4 y5 y6) σ := runK_loop' (by kernel_rfl) (by kernel_rfl) (by kernel_rfl)
theorem f8n18 {R : Type} (call : CallF R) (N : Nat) (J : KF R) (e : Env) (σ : St) : runK Try.prog call N f8c18 f8a18 J e σ = runK Try.prog call N f8c19 f8a19 (seqC (fun K e σ => runK Try.prog call N f8c20 f8a20 K e σ) f8a18 J) e σ := runK_seq' (by kernel_rfl) (by kernel_rfl) (by kernel_rfl)
theorem f8r19_f8e15 {R : Type} (call : CallF R) (N : Nat) (y0 : Nat) (y1 : Option (Nat × Nat)) (y2 : Option (Nat × Nat)) (y3 : Nat) (y4 : Option Nat) (y5 : Int) (y6 : Int) (J : KF R) (σ : St) :
    runK Try.prog call N f8c19 f8a19 J (f8e15 y0 y1 y2 y3 y4 y5 y6) σ =
J Ex.normal (f8e16 y0 y1 y2 y3 y4 y5 y6 (decide (y6 < y5))) σ := hide (by kernel_rfl)
theorem f8z18_f8e16 (y0 : Nat) (y1 : Option (Nat × Nat)) (y2 : Option (Nat × Nat)) (y3 : Nat) (y4 : Option Nat) (y5 : Int) (y6 : Int) (y7 : Bool) : Ann.clr f8a18 (f8e16 y0 y1 y2 y3 y4 y5 y6 y7) = f8e16 y0 y1 y2 y3 y4 y5 y6 y7 := hide (by kernel_rfl)
theorem f8n20 {R : Type} (call : CallF R) (N : Nat) (J : KF R) (e : Env) (σ : St) : runK Try.prog call N f8c20 f8a20 J e σ = runK Try.prog call N f8c21 f8a21 (seqC (fun K e σ => runK Try.prog call N f8c22 f8a22 K e σ) f8a20 J) e σ := runK_seq' (by kernel_rfl) (by kernel_rfl) (by kernel_rfl)
theorem f8x21_f8e16 {R : Type} (call : CallF R) (N : Nat) (y0 : Nat) (y1 : Option (Nat × Nat)) (y2 : Option (Nat × Nat)) (y3 : Nat) (y4 : Option Nat) (y5 : Int) (y6 : Int) (y7 : Bool) (J : KF R) (σ : St) : runK Try.prog call N f8c21 f8a21 J (f8e16 y0 y1 y2 y3 y4 y5 y6 y7) σ = if y7 = true then runK Try.prog call N f8c23 f8a23 (condC f8a21 J) (f8e16 y0 y1 y2 y3 y4 y5 y6 y7) σ else runK Try.prog call N f8c24 f8a24 (condC f8a21 J) (f8e16 y0 y1 y2 y3 y4 y5 y6 y7) σ := runK_cond' (o := Operand.tmp (51 : Nat)) (by kernel_rfl) (by kernel_rfl) (by kernel_rfl) (by kernel_rfl)
theorem f8n23 {R : Type} (call : CallF R) (N : Nat) (J : KF R) (e : Env) (σ : St) : runK Try.prog call N f8c23 f8a23 J e σ = J .normal e σ := runK_skip' (by kernel_rfl)
theorem f8z21_f8e16 (y0 : Nat) (y1 : Option (Nat × Nat)) (y2 : Option (Nat × Nat)) (y3 : Nat) (y4 : Option Nat) (y5 : Int) (y6 : Int) (y7 : Bool) : Ann.clr f8a21 (f8e16 y0 y1 y2 y3 y4 y5 y6 y7) = f8e15 y0 y1 y2 y3 y4 y5 y6 := hide (by kernel_rfl)
theorem f8y24_f8e16 {R : Type} (call : CallF R) (N : Nat) (y0 : Nat) (y1 : Option (Nat × Nat)) (y2 : Option (Nat × Nat)) (y3 : Nat) (y4 : Option Nat) (y5 : Int) (y6 : Int) (y7 : Bool) (J : KF R) (σ : St) : runK Try.prog call N f8c24 f8a24 J (f8e16 y0 y1 y2 y3 y4 y5 y6 y7) σ = J (.exit 0) (f8e17 y0 y1) σ := runK_exit' (by kernel_rfl) (by kernel_rfl)
theorem f8z20_f8e15 (y0 : Nat) (y1 : Option (Nat × Nat)) (y2 : Option (Nat × Nat)) (y3 : Nat) (y4 : Option Nat) (y5 : Int) (y6 : Int) : Ann.clr f8a20 (f8e15 y0 y1 y2 y3 y4 y5 y6) = f8e15 y0 y1 y2 y3 y4 y5 y6 := hide (by kernel_rfl)
theorem f8n22 {R : Type} (call : CallF R) (N : Nat) (J : KF R) (e : Env) (σ : St) : runK Try.prog call N f8c22 f8a22 J e σ = runK Try.prog call N f8c25 f8a25 (seqC (fun K e σ => runK Try.prog call N f8c26 f8a26 K e σ) f8a22 J) e σ := runK_seq' (by kernel_rfl) (by kernel_rfl) (by kernel_rfl)
theorem f8n25 {R : Type} (call : CallF R) (N : Nat) (J : KF R) (e : Env) (σ : St) : runK Try.prog call N f8c25 f8a25 J e σ = runK Try.prog call N f8c27 f8a27 (blockC 1 f8a25 J) e σ := runK_block' (by kernel_rfl) (by kernel_rfl)
theorem f8n27 {R : Type} (call : CallF R) (N : Nat) (J : KF R) (e : Env) (σ : St) : runK Try.prog call N f8c27 f8a27 J e σ = runK Try.prog call N f8c28 f8a28 (seqC (fun K e σ => runK Try.prog call N f8c29 f8a29 K e σ) f8a27 J) e σ := runK_seq' (by kernel_rfl) (by kernel_rfl) (by kernel_rfl)
theorem f8r28_f8e15 {R : Type} (call : CallF R) (N : Nat) (y0 : Nat) (y1 : Option (Nat × Nat)) (y2 : Option (Nat × Nat)) (y3 : Nat) (y4 : Option Nat) (y5 : Int) (y6 : Int) (J : KF R) (σ : St) :
    runK Try.prog call N f8c28 f8a28 J (f8e15 y0 y1 y2 y3 y4 y5 y6) σ =
if (0 : Int) ≤ y6 ∧ y6 < (↑y3 : Int) then
  Option.bind y2 fun v0 =>
    Option.bind (St.ld σ (Prod.fst v0) (Prod.snd v0 + Int.toNat y6 * (4 : Nat))) fun v1 =>
      Option.bind (AV.toInt IntKind.i64 v1) fun v2 =>
        Option.bind (St.ld σ (Prod.fst v0) (Prod.snd v0 + Int.toNat y6 * (4 : Nat) + (1 : Nat))) fun v3 =>
          Option.bind (AV.toInt IntKind.i64 v3) fun v4 =>
            Option.bind (St.ld σ (Prod.fst v0) (Prod.snd v0 + Int.toNat y6 * (4 : Nat) + (2 : Nat))) fun v5 =>
              Option.bind (AV.toStr v5) fun v6 =>
                Option.bind (St.ld σ (Prod.fst v0) (Prod.snd v0 + Int.toNat y6 * (4 : Nat) + (3 : Nat))) fun v7 =>
                  Option.bind (AV.toStr v7) fun v8 =>
                    Option.bind
                      (St.st
                        (St.new σ
                          (Blk.cells
                            [AV.int IntKind.i64 (0 : Int), AV.int IntKind.i64 (0 : Int), AV.str (ByteArray.mk #[]), AV.str (ByteArray.mk #[])] true))
                        (St.next σ) (0 : Nat) [AV.int IntKind.i64 v2, AV.int IntKind.i64 v4, AV.str v6, AV.str v8])
                      fun v9 =>
                      J Ex.normal (f8e18 y0 y1 (St.next σ) y2 y3 y4 y5 y6 (some (Prod.fst v0, Prod.snd v0 + Int.toNat y6 * (4 : Nat))) v2 v4 v6 v8) v9
else none := hide (by kernel_rfl)
theorem f8z27_f8e18 (y0 : Nat) (y1 : Option (Nat × Nat)) (y2 : Nat) (y3 : Option (Nat × Nat)) (y4 : Nat) (y5 : Option Nat) (y6 : Int) (y7 : Int) (y8 : Option (Nat × Nat)) (y9 : Int) (y10 : Int) (y11 : ByteArray) (y12 : ByteArray) : Ann.clr f8a27 (f8e18 y0 y1 y2 y3 y4 y5 y6 y7 y8 y9 y10 y11 y12) = f8e19 y0 y1 y2 y3 y4 y5 y6 y7 := hide (by kernel_rfl)
theorem f8r29_f8e19 {R : Type} (call : CallF R) (N : Nat) (y0 : Nat) (y1 : Option (Nat × Nat)) (y2 : Nat) (y3 : Option (Nat × Nat)) (y4 : Nat) (y5 : Option Nat) (y6 : Int) (y7 : Int) (J : KF R) (σ : St) :
    runK Try.prog call N f8c29 f8a29 J (f8e19 y0 y1 y2 y3 y4 y5 y6 y7) σ =
Option.bind (St.ld σ y2 (0 : Nat)) fun v0 =>
  Option.bind (AV.toInt IntKind.i64 v0) fun v1 =>
    Option.bind (St.ld σ y2 (1 : Nat)) fun v2 =>
      Option.bind (AV.toInt IntKind.i64 v2) fun v3 =>
        Option.bind (St.ld σ y2 (2 : Nat)) fun v4 =>
          Option.bind (AV.toStr v4) fun v5 =>
            Option.bind (St.ld σ y2 (3 : Nat)) fun v6 =>
              Option.bind (AV.toStr v6) fun v7 =>
                call (24 : Nat) [AV.ptr y1, AV.int IntKind.i64 v1, AV.int IntKind.i64 v3, AV.str v5, AV.str v7] σ fun v8 v9 =>
                  Option.bind (AV.toTuple v8) fun v10 =>
                    if List.length v10 = (2 : Nat) then
                      Option.bind (List.head? v10) fun v11 =>
                        Option.bind (AV.toBool v11) fun v12 =>
                          Option.bind (List.head? (List.tail v10)) fun v13 =>
                            Option.bind (AV.toInt IntKind.i64 v13) fun v14 =>
                              J Ex.normal (f8e20 y0 y1 y2 y3 y4 y5 y6 y7 y1 y2 v1 y2 v3 y2 v5 y2 v7 v12 v14) v9
                    else none := hide (by kernel_rfl)
theorem f8z25_f8e20 (y0 : Nat) (y1 : Option (Nat × Nat)) (y2 : Nat) (y3 : Option (Nat × Nat)) (y4 : Nat) (y5 : Option Nat) (y6 : Int) (y7 : Int) (y8 : Option (Nat × Nat)) (y9 : Nat) (y10 : Int) (y11 : Nat) (y12 : Int) (y13 : Nat) (y14 : ByteArray) (y15 : Nat) (y16 : ByteArray) (y17 : Bool) (y18 : Int) : Ann.clr f8a25 (f8e20 y0 y1 y2 y3 y4 y5 y6 y7 y8 y9 y10 y11 y12 y13 y14 y15 y16 y17 y18) = f8e15 y0 y1 y3 y4 y5 y6 y7 := hide (by kernel_rfl)
theorem f8z22_f8e15 (y0 : Nat) (y1 : Option (Nat × Nat)) (y2 : Option (Nat × Nat)) (y3 : Nat) (y4 : Option Nat) (y5 : Int) (y6 : Int) : Ann.clr f8a22 (f8e15 y0 y1 y2 y3 y4 y5 y6) = f8e15 y0 y1 y2 y3 y4 y5 y6 := hide (by kernel_rfl)
theorem f8r26_f8e15 {R : Type} (call : CallF R) (N : Nat) (y0 : Nat) (y1 : Option (Nat × Nat)) (y2 : Option (Nat × Nat)) (y3 : Nat) (y4 : Option Nat) (y5 : Int) (y6 : Int) (J : KF R) (σ : St) :
    runK Try.prog call N f8c26 f8a26 J (f8e15 y0 y1 y2 y3 y4 y5 y6) σ =
J Ex.normal (f8e21 y0 y1 y2 y3 y4 y5 (IntKind.wrap IntKind.i64 (y6 + (1 : Int))) (IntKind.wrap IntKind.i64 (y6 + (1 : Int)))) σ := hide (by kernel_rfl)
theorem f8z17_f8e21 (y0 : Nat) (y1 : Option (Nat × Nat)) (y2 : Option (Nat × Nat)) (y3 : Nat) (y4 : Option Nat) (y5 : Int) (y6 : Int) (y7 : Int) : Ann.clr f8a17 (f8e21 y0 y1 y2 y3 y4 y5 y6 y7) = f8e15 y0 y1 y2 y3 y4 y5 y6 := hide (by kernel_rfl)
theorem f8z16_f8e17 (y0 : Nat) (y1 : Option (Nat × Nat)) : Ann.clr f8a16 (f8e17 y0 y1) = f8e17 y0 y1 := hide (by kernel_rfl)
theorem f8z6_f8e17 (y0 : Nat) (y1 : Option (Nat × Nat)) : Ann.clr f8a6 (f8e17 y0 y1) = f8e17 y0 y1 := hide (by kernel_rfl)
theorem f8n14 {R : Type} (call : CallF R) (N : Nat) (J : KF R) (e : Env) (σ : St) : runK Try.prog call N f8c14 f8a14 J e σ = runK Try.prog call N f8c30 f8a30 (seqC (fun K e σ => runK Try.prog call N f8c31 f8a31 K e σ) f8a14 J) e σ := runK_seq' (by kernel_rfl) (by kernel_rfl) (by kernel_rfl)
theorem f8n30 {R : Type} (call : CallF R) (N : Nat) (J : KF R) (e : Env) (σ : St) : runK Try.prog call N f8c30 f8a30 J e σ = runK Try.prog call N f8c32 f8a32 (seqC (fun K e σ => runK Try.prog call N f8c33 f8a33 K e σ) f8a30 J) e σ := runK_seq' (by kernel_rfl) (by kernel_rfl) (by kernel_rfl)
theorem f8r32_f8e17 {R : Type} (call : CallF R) (N : Nat) (y0 : Nat) (y1 : Option (Nat × Nat)) (J : KF R) (σ : St) :
    runK Try.prog call N f8c32 f8a32 J (f8e17 y0 y1) σ =
J Ex.normal (f8e22 y0 y1 (1 : Int)) σ := hide (by kernel_rfl)
theorem f8z30_f8e22 (y0 : Nat) (y1 : Option (Nat × Nat)) (y2 : Int) : Ann.clr f8a30 (f8e22 y0 y1 y2) = f8e22 y0 y1 y2 := hide (by kernel_rfl)
theorem f8n33 {R : Type} (call : CallF R) (N : Nat) (J : KF R) (e : Env) (σ : St) : runK Try.prog call N f8c33 f8a33 J e σ = runK Try.prog call N f8c34 f8a34 (blockC 2 f8a33 J) e σ := runK_block' (by kernel_rfl) (by kernel_rfl)
theorem f8L34_eq {R : Type} (call : CallF R) (N : Nat) (J : KF R) (e : Env) (σ : St) : f8L34 call N J e σ = runK Try.prog call N f8c35 f8a35 J e σ := hide rfl
theorem f8z34_f8e22 (y0 : Nat) (y1 : Option (Nat × Nat)) (y2 : Int) : Ann.clr f8a34 (f8e22 y0 y1 y2) = f8e22 y0 y1 y2 := hide (by kernel_rfl)
theorem f8l34_f8e22 {R : Type} (call : CallF R) (N : Nat) (y0 : Nat) (y1 : Option (Nat × Nat)) (y2 : Int) (J : KF R) (σ : St) : runK Try.prog call N f8c34 f8a34 J (f8e22 y0 y1 y2) σ = loopK (f8L34 call N) f8a34 N J (f8e22 y0 y1 y2) σ := runK_loop' (by kernel_rfl) (by kernel_rfl) (by kernel_rfl)
theorem f8n35 {R : Type} (call : CallF R) (N : Nat) (J : KF R) (e : Env) (σ : St) : runK Try.prog call N f8c35 f8a35 J e σ = runK Try.prog call N f8c36 f8a36 (seqC (fun K e σ => runK Try.prog call N f8c37 f8a37 K e σ) f8a35 J) e σ := runK_seq' (by kernel_rfl) (by kernel_rfl) (by kernel_rfl)
theorem f8n36 {R : Type} (call : CallF R) (N : Nat) (J : KF R) (e : Env) (σ : St) : runK Try.prog call N f8c36 f8a36 J e σ = runK Try.prog call N f8c38 f8a38 (seqC (fun K e σ => runK Try.prog call N f8c39 f8a39 K e σ) f8a36 J) e σ := runK_seq' (by kernel_rfl) (by kernel_rfl) (by kernel_rfl)
theorem f8r38_f8e22 {R : Type} (call : CallF R) (N : Nat) (y0 : Nat) (y1 : Option (Nat × Nat)) (y2 : Int) (J : KF R) (σ : St) :
    runK Try.prog call N f8c38 f8a38 J (f8e22 y0 y1 y2) σ =
J Ex.normal (f8e23 y0 y1 y2 y2 (decide (y2 ≤ (2 : Int)))) σ := hide (by kernel_rfl)
theorem f8z36_f8e23 (y0 : Nat) (y1 : Option (Nat × Nat)) (y2 : Int) (y3 : Int) (y4 : Bool) : Ann.clr f8a36 (f8e23 y0 y1 y2 y3 y4) = f8e24 y0 y1 y2 y4 := hide (by kernel_rfl)
theorem f8x39_f8e24 {R : Type} (call : CallF R) (N : Nat) (y0 : Nat) (y1 : Option (Nat × Nat)) (y2 : Int) (y3 : Bool) (J : KF R) (σ : St) : runK Try.prog call N f8c39 f8a39 J (f8e24 y0 y1 y2 y3) σ = if y3 = true then runK Try.prog call N f8c40 f8a40 (condC f8a39 J) (f8e24 y0 y1 y2 y3) σ else runK Try.prog call N f8c41 f8a41 (condC f8a39 J) (f8e24 y0 y1 y2 y3) σ := runK_cond' (o := Operand.tmp (66 : Nat)) (by kernel_rfl) (by kernel_rfl) (by kernel_rfl) (by kernel_rfl)
theorem f8n40 {R : Type} (call : CallF R) (N : Nat) (J : KF R) (e : Env) (σ : St) : runK Try.prog call N f8c40 f8a40 J e σ = J .normal e σ := runK_skip' (by kernel_rfl)
theorem f8z39_f8e24 (y0 : Nat) (y1 : Option (Nat × Nat)) (y2 : Int) (y3 : Bool) : Ann.clr f8a39 (f8e24 y0 y1 y2 y3) = f8e22 y0 y1 y2 := hide (by kernel_rfl)
theorem f8y41_f8e24 {R : Type} (call : CallF R) (N : Nat) (y0 : Nat) (y1 : Option (Nat × Nat)) (y2 : Int) (y3 : Bool) (J : KF R) (σ : St) : runK Try.prog call N f8c41 f8a41 J (f8e24 y0 y1 y2 y3) σ = J (.exit 2) (f8e25) σ := runK_exit' (by kernel_rfl) (by kernel_rfl)
theorem f8z35_f8e22 (y0 : Nat) (y1 : Option (Nat × Nat)) (y2 : Int) : Ann.clr f8a35 (f8e22 y0 y1 y2) = f8e22 y0 y1 y2 := hide (by kernel_rfl)
theorem f8n37 {R : Type} (call : CallF R) (N : Nat) (J : KF R) (e : Env) (σ : St) : runK Try.prog call N f8c37 f8a37 J e σ = runK Try.prog call N f8c42 f8a42 (seqC (fun K e σ => runK Try.prog call N f8c43 f8a43 K e σ) f8a37 J) e σ := runK_seq' (by kernel_rfl) (by kernel_rfl) (by kernel_rfl)
theorem f8n42 {R : Type} (call : CallF R) (N : Nat) (J : KF R) (e : Env) (σ : St) : runK Try.prog call N f8c42 f8a42 J e σ = runK Try.prog call N f8c44 f8a44 (blockC 3 f8a42 J) e σ := runK_block' (by kernel_rfl) (by kernel_rfl)
theorem f8n44 {R : Type} (call : CallF R) (N : Nat) (J : KF R) (e : Env) (σ : St) : runK Try.prog call N f8c44 f8a44 J e σ = runK Try.prog call N f8c45 f8a45 (seqC (fun K e σ => runK Try.prog call N f8c46 f8a46 K e σ) f8a44 J) e σ := runK_seq' (by kernel_rfl) (by kernel_rfl) (by kernel_rfl)
theorem f8r45_f8e22 {R : Type} (call : CallF R) (N : Nat) (y0 : Nat) (y1 : Option (Nat × Nat)) (y2 : Int) (J : KF R) (σ : St) :
    runK Try.prog call N f8c45 f8a45 J (f8e22 y0 y1 y2) σ =
call (21 : Nat) [AV.ptr y1, AV.int IntKind.i64 y2] σ fun v0 v1 =>
  Option.bind (AV.toTuple v0) fun v2 =>
    if List.length v2 = (2 : Nat) then
      Option.bind (List.head? v2) fun v3 =>
        Option.bind (AV.toAgg v3) fun v4 =>
          if List.length v4 = (3 : Nat) then
            Option.bind (List.head? v4) fun v5 =>
              Option.bind (AV.toStr v5) fun v6 =>
                Option.bind (List.head? (List.tail v4)) fun v7 =>
                  Option.bind (AV.toInt IntKind.i64 v7) fun v8 =>
                    Option.bind (List.head? (List.tail (List.tail v4))) fun v9 =>
                      Option.bind (AV.toSl (2 : Nat) v9) fun v10 =>
                        Option.bind (List.head? (List.tail v2)) fun v11 =>
                          Option.bind (AV.toBool v11) fun v12 =>
                            Option.bind
                              (St.st
                                (St.new v1
                                  (Blk.cells
                                    [AV.str (ByteArray.mk #[]), AV.int IntKind.i64 (0 : Int), AV.slice none (0 : Nat) (some (0 : Nat)) (2 : Nat)]
                                    true))
                                (St.next v1) (0 : Nat) [AV.str v6, AV.int IntKind.i64 v8, AV.slice (Sl.o v10) (Sl.len v10) (Sl.cap v10) (2 : Nat)])
                              fun v13 =>
                              J Ex.normal
                                (f8e26 y0 y1 y2 (St.next v1) v12 v6 v8 (Sl.o v10) (Sl.len v10) (Sl.cap v10) v12 y1 y2 v6 v8 (Sl.o v10) (Sl.len v10)
                                  (Sl.cap v10) v12 v6 v8 (Sl.o v10) (Sl.len v10) (Sl.cap v10) v12)
                                v13
          else none
    else none := hide (by kernel_rfl)
theorem f8z44_f8e26 (y0 : Nat) (y1 : Option (Nat × Nat)) (y2 : Int) (y3 : Nat) (y4 : Bool) (y5 : ByteArray) (y6 : Int) (y7 : Option (Nat × Nat)) (y8 : Nat) (y9 : Option Nat) (y10 : Bool) (y11 : Option (Nat × Nat)) (y12 : Int) (y13 : ByteArray) (y14 : Int) (y15 : Option (Nat × Nat)) (y16 : Nat) (y17 : Option Nat) (y18 : Bool) (y19 : ByteArray) (y20 : Int) (y21 : Option (Nat × Nat)) (y22 : Nat) (y23 : Option Nat) (y24 : Bool) : Ann.clr f8a44 (f8e26 y0 y1 y2 y3 y4 y5 y6 y7 y8 y9 y10 y11 y12 y13 y14 y15 y16 y17 y18 y19 y20 y21 y22 y23 y24) = f8e27 y0 y1 y2 y3 y4 := hide (by kernel_rfl)
theorem f8n46 {R : Type} (call : CallF R) (N : Nat) (J : KF R) (e : Env) (σ : St) : runK Try.prog call N f8c46 f8a46 J e σ = runK Try.prog call N f8c47 f8a47 (seqC (fun K e σ => runK Try.prog call N f8c48 f8a48 K e σ) f8a46 J) e σ := runK_seq' (by kernel_rfl) (by kernel_rfl) (by kernel_rfl)
theorem f8n47 {R : Type} (call : CallF R) (N : Nat) (J : KF R) (e : Env) (σ : St) : runK Try.prog call N f8c47 f8a47 J e σ = runK Try.prog call N f8c49 f8a49 (seqC (fun K e σ => runK Try.prog call N f8c50 f8a50 K e σ) f8a47 J) e σ := runK_seq' (by kernel_rfl) (by kernel_rfl) (by kernel_rfl)
theorem f8r49_f8e27 {R : Type} (call : CallF R) (N : Nat) (y0 : Nat) (y1 : Option (Nat × Nat)) (y2 : Int) (y3 : Nat) (y4 : Bool) (J : KF R) (σ : St) :
    runK Try.prog call N f8c49 f8a49 J (f8e27 y0 y1 y2 y3 y4) σ =
J Ex.normal (f8e28 y0 y1 y2 y3 y4 y4 !y4) σ := hide (by kernel_rfl)
theorem f8z47_f8e28 (y0 : Nat) (y1 : Option (Nat × Nat)) (y2 : Int) (y3 : Nat) (y4 : Bool) (y5 : Bool) (y6 : Bool) : Ann.clr f8a47 (f8e28 y0 y1 y2 y3 y4 y5 y6) = f8e29 y0 y1 y2 y3 y6 := hide (by kernel_rfl)
theorem f8x50_f8e29 {R : Type} (call : CallF R) (N : Nat) (y0 : Nat) (y1 : Option (Nat × Nat)) (y2 : Int) (y3 : Nat) (y4 : Bool) (J : KF R) (σ : St) : runK Try.prog call N f8c50 f8a50 J (f8e29 y0 y1 y2 y3 y4) σ = if y4 = true then runK Try.prog call N f8c51 f8a51 (condC f8a50 J) (f8e29 y0 y1 y2 y3 y4) σ else runK Try.prog call N f8c52 f8a52 (condC f8a50 J) (f8e29 y0 y1 y2 y3 y4) σ := runK_cond' (o := Operand.tmp (76 : Nat)) (by kernel_rfl) (by kernel_rfl) (by kernel_rfl) (by kernel_rfl)
theorem f8y51_f8e29 {R : Type} (call : CallF R) (N : Nat) (y0 : Nat) (y1 : Option (Nat × Nat)) (y2 : Int) (y3 : Nat) (y4 : Bool) (J : KF R) (σ : St) : runK Try.prog call N f8c51 f8a51 J (f8e29 y0 y1 y2 y3 y4) σ = J (.exit 3) (f8e22 y0 y1 y2) σ := runK_exit' (by kernel_rfl) (by kernel_rfl)
theorem f8n52 {R : Type} (call : CallF R) (N : Nat) (J : KF R) (e : Env) (σ : St) : runK Try.prog call N f8c52 f8a52 J e σ = J .normal e σ := runK_skip' (by kernel_rfl)
theorem f8z50_f8e29 (y0 : Nat) (y1 : Option (Nat × Nat)) (y2 : Int) (y3 : Nat) (y4 : Bool) : Ann.clr f8a50 (f8e29 y0 y1 y2 y3 y4) = f8e30 y0 y1 y2 y3 := hide (by kernel_rfl)
theorem f8z46_f8e30 (y0 : Nat) (y1 : Option (Nat × Nat)) (y2 : Int) (y3 : Nat) : Ann.clr f8a46 (f8e30 y0 y1 y2 y3) = f8e30 y0 y1 y2 y3 := hide (by kernel_rfl)
theorem f8n48 {R : Type} (call : CallF R) (N : Nat) (J : KF R) (e : Env) (σ : St) : runK Try.prog call N f8c48 f8a48 J e σ = runK Try.prog call N f8c53 f8a53 (seqC (fun K e σ => runK Try.prog call N f8c54 f8a54 K e σ) f8a48 J) e σ := runK_seq' (by kernel_rfl) (by kernel_rfl) (by kernel_rfl)
theorem f8r53_f8e30 {R : Type} (call : CallF R) (N : Nat) (y0 : Nat) (y1 : Option (Nat × Nat)) (y2 : Int) (y3 : Nat) (J : KF R) (σ : St) :
    runK Try.prog call N f8c53 f8a53 J (f8e30 y0 y1 y2 y3) σ =
J Ex.normal (f8e31 y0 y1 y2 y3 false) σ := hide (by kernel_rfl)
theorem f8z48_f8e31 (y0 : Nat) (y1 : Option (Nat × Nat)) (y2 : Int) (y3 : Nat) (y4 : Bool) : Ann.clr f8a48 (f8e31 y0 y1 y2 y3 y4) = f8e31 y0 y1 y2 y3 y4 := hide (by kernel_rfl)
theorem f8n54 {R : Type} (call : CallF R) (N : Nat) (J : KF R) (e : Env) (σ : St) : runK Try.prog call N f8c54 f8a54 J e σ = runK Try.prog call N f8c55 f8a55 (seqC (fun K e σ => runK Try.prog call N f8c56 f8a56 K e σ) f8a54 J) e σ := runK_seq' (by kernel_rfl) (by kernel_rfl) (by kernel_rfl)
theorem f8n55 {R : Type} (call : CallF R) (N : Nat) (J : KF R) (e : Env) (σ : St) : runK Try.prog call N f8c55 f8a55 J e σ = runK Try.prog call N f8c57 f8a57 (seqC (fun K e σ => runK Try.prog call N f8c58 f8a58 K e σ) f8a55 J) e σ := runK_seq' (by kernel_rfl) (by kernel_rfl) (by kernel_rfl)
theorem f8r57_f8e31 {R : Type} (call : CallF R) (N : Nat) (y0 : Nat) (y1 : Option (Nat × Nat)) (y2 : Int) (y3 : Nat) (y4 : Bool) (J : KF R) (σ : St) :
    runK Try.prog call N f8c57 f8a57 J (f8e31 y0 y1 y2 y3 y4) σ =
Option.bind (St.ld σ y3 (2 : Nat)) fun v0 =>
  Option.bind (AV.toSl (2 : Nat) v0) fun v1 =>
    J Ex.normal (f8e32 y0 y1 y2 y3 y4 y3 (Sl.o v1) (Sl.len v1) (Sl.cap v1) (↑(Sl.len v1) : Int) (0 : Int)) σ := hide (by kernel_rfl)
theorem f8z55_f8e32 (y0 : Nat) (y1 : Option (Nat × Nat)) (y2 : Int) (y3 : Nat) (y4 : Bool) (y5 : Nat) (y6 : Option (Nat × Nat)) (y7 : Nat) (y8 : Option Nat) (y9 : Int) (y10 : Int) : Ann.clr f8a55 (f8e32 y0 y1 y2 y3 y4 y5 y6 y7 y8 y9 y10) = f8e33 y0 y1 y2 y3 y4 y6 y7 y8 y9 y10 := hide (by kernel_rfl)
theorem f8n58 {R : Type} (call : CallF R) (N : Nat) (J : KF R) (e : Env) (σ : St) : runK Try.prog call N f8c58 f8a58 J e σ = runK Try.prog call N f8c59 f8a59 (blockC 4 f8a58 J) e σ := runK_block' (by kernel_rfl) (by kernel_rfl)
theorem f8L59_eq {R : Type} (call : CallF R) (N : Nat) (J : KF R) (e : Env) (σ : St) : f8L59 call N J e σ = runK Try.prog call N f8c60 f8a60 J e σ := hide rfl
theorem f8z59_f8e33 (y0 : Nat) (y1 : Option (Nat × Nat)) (y2 : Int) (y3 : Nat) (y4 : Bool) (y5 : Option (Nat × Nat)) (y6 : Nat) (y7 : Option Nat) (y8 : Int) (y9 : Int) : Ann.clr f8a59 (f8e33 y0 y1 y2 y3 y4 y5 y6 y7 y8 y9) = f8e33 y0 y1 y2 y3 y4 y5 y6 y7 y8 y9 := hide (by kernel_rfl)
theorem f8l59_f8e33 {R : Type} (call : CallF R) (N : Nat) (y0 : Nat) (y1 : Option (Nat × Nat)) (y2 : Int) (y3 : Nat) (y4 : Bool) (y5 : Option (Nat × Nat)) (y6 : Nat) (y7 : Option Nat) (y8 : Int) (y9 : Int) (J : KF R) (σ : St) : runK Try.prog call N f8c59 f8a59 J (f8e33 y0 y1 y2 y3 y4 y5 y6 y7 y8 y9) σ = loopK (f8L59 call N) f8a59 N J (f8e33 y0 y1 y2 y3 y4 y5 y6 y7 y8 y9) σ := runK_loop' (by kernel_rfl) (by kernel_rfl) (by kernel_rfl)
theorem f8n60 {R : Type} (call : CallF R) (N : Nat) (J : KF R) (e : Env) (σ : St) : runK Try.prog call N f8c60 f8a60 J e σ = runK Try.prog call N f8c61 f8a61 (seqC (fun K e σ => runK Try.prog call N f8c62 f8a62 K e σ) f8a60 J) e σ := runK_seq' (by kernel_rfl) (by kernel_rfl) (by kernel_rfl)
theorem f8r61_f8e33 {R : Type} (call : CallF R) (N : Nat) (y0 : Nat) (y1 : Option (Nat × Nat)) (y2 : Int) (y3 : Nat) (y4 : Bool) (y5 : Option (Nat × Nat)) (y6 : Nat) (y7 : Option Nat) (y8 : Int) (y9 : Int) (J : KF R) (σ : St) :
    runK Try.prog call N f8c61 f8a61 J (f8e33 y0 y1 y2 y3 y4 y5 y6 y7 y8 y9) σ =
J Ex.normal (f8e34 y0 y1 y2 y3 y4 y5 y6 y7 y8 y9 (decide (y9 < y8))) σ := hide (by kernel_rfl)
theorem f8z60_f8e34 (y0 : Nat) (y1 : Option (Nat × Nat)) (y2 : Int) (y3 : Nat) (y4 : Bool) (y5 : Option (Nat × Nat)) (y6 : Nat) (y7 : Option Nat) (y8 : Int) (y9 : Int) (y10 : Bool) : Ann.clr f8a60 (f8e34 y0 y1 y2 y3 y4 y5 y6 y7 y8 y9 y10) = f8e34 y0 y1 y2 y3 y4 y5 y6 y7 y8 y9 y10 := hide (by kernel_rfl)
theorem f8n62 {R : Type} (call : CallF R) (N : Nat) (J : KF R) (e : Env) (σ : St) : runK Try.prog call N f8c62 f8a62 J e σ = runK Try.prog call N f8c63 f8a63 (seqC (fun K e σ => runK Try.prog call N f8c64 f8a64 K e σ) f8a62 J) e σ := runK_seq' (by kernel_rfl) (by kernel_rfl) (by kernel_rfl)
theorem f8x63_f8e34 {R : Type} (call : CallF R) (N : Nat) (y0 : Nat) (y1 : Option (Nat × Nat)) (y2 : Int) (y3 : Nat) (y4 : Bool) (y5 : Option (Nat × Nat)) (y6 : Nat) (y7 : Option Nat) (y8 : Int) (y9 : Int) (y10 : Bool) (J : KF R) (σ : St) : runK Try.prog call N f8c63 f8a63 J (f8e34 y0 y1 y2 y3 y4 y5 y6 y7 y8 y9 y10) σ = if y10 = true then runK Try.prog call N f8c65 f8a65 (condC f8a63 J) (f8e34 y0 y1 y2 y3 y4 y5 y6 y7 y8 y9 y10) σ else runK Try.prog call N f8c66 f8a66 (condC f8a63 J) (f8e34 y0 y1 y2 y3 y4 y5 y6 y7 y8 y9 y10) σ := runK_cond' (o := Operand.tmp (81 : Nat)) (by kernel_rfl) (by kernel_rfl) (by kernel_rfl) (by kernel_rfl)
theorem f8n65 {R : Type} (call : CallF R) (N : Nat) (J : KF R) (e : Env) (σ : St) : runK Try.prog call N f8c65 f8a65 J e σ = J .normal e σ := runK_skip' (by kernel_rfl)
theorem f8z63_f8e34 (y0 : Nat) (y1 : Option (Nat × Nat)) (y2 : Int) (y3 : Nat) (y4 : Bool) (y5 : Option (Nat × Nat)) (y6 : Nat) (y7 : Option Nat) (y8 : Int) (y9 : Int) (y10 : Bool) : Ann.clr f8a63 (f8e34 y0 y1 y2 y3 y4 y5 y6 y7 y8 y9 y10) = f8e33 y0 y1 y2 y3 y4 y5 y6 y7 y8 y9 := hide (by kernel_rfl)
theorem f8y66_f8e34 {R : Type} (call : CallF R) (N : Nat) (y0 : Nat) (y1 : Option (Nat × Nat)) (y2 : Int) (y3 : Nat) (y4 : Bool) (y5 : Option (Nat × Nat)) (y6 : Nat) (y7 : Option Nat) (y8 : Int) (y9 : Int) (y10 : Bool) (J : KF R) (σ : St) : runK Try.prog call N f8c66 f8a66 J (f8e34 y0 y1 y2 y3 y4 y5 y6 y7 y8 y9 y10) σ = J (.exit 4) (f8e31 y0 y1 y2 y3 y4) σ := runK_exit' (by kernel_rfl) (by kernel_rfl)
theorem f8z62_f8e33 (y0 : Nat) (y1 : Option (Nat × Nat)) (y2 : Int) (y3 : Nat) (y4 : Bool) (y5 : Option (Nat × Nat)) (y6 : Nat) (y7 : Option Nat) (y8 : Int) (y9 : Int) : Ann.clr f8a62 (f8e33 y0 y1 y2 y3 y4 y5 y6 y7 y8 y9) = f8e33 y0 y1 y2 y3 y4 y5 y6 y7 y8 y9 := hide (by kernel_rfl)
theorem f8n64 {R : Type} (call : CallF R) (N : Nat) (J : KF R) (e : Env) (σ : St) : runK Try.prog call N f8c64 f8a64 J e σ = runK Try.prog call N f8c67 f8a67 (seqC (fun K e σ => runK Try.prog call N f8c68 f8a68 K e σ) f8a64 J) e σ := runK_seq' (by kernel_rfl) (by kernel_rfl) (by kernel_rfl)
theorem f8n67 {R : Type} (call : CallF R) (N : Nat) (J : KF R) (e : Env) (σ : St) : runK Try.prog call N f8c67 f8a67 J e σ = runK Try.prog call N f8c69 f8a69 (blockC 5 f8a67 J) e σ := runK_block' (by kernel_rfl) (by kernel_rfl)
theorem f8n69 {R : Type} (call : CallF R) (N : Nat) (J : KF R) (e : Env) (σ : St) : runK Try.prog call N f8c69 f8a69 J e σ = runK Try.prog call N f8c70 f8a70 (seqC (fun K e σ => runK Try.prog call N f8c71 f8a71 K e σ) f8a69 J) e σ := runK_seq' (by kernel_rfl) (by kernel_rfl) (by kernel_rfl)
theorem f8r70_f8e33 {R : Type} (call : CallF R) (N : Nat) (y0 : Nat) (y1 : Option (Nat × Nat)) (y2 : Int) (y3 : Nat) (y4 : Bool) (y5 : Option (Nat × Nat)) (y6 : Nat) (y7 : Option Nat) (y8 : Int) (y9 : Int) (J : KF R) (σ : St) :
    runK Try.prog call N f8c70 f8a70 J (f8e33 y0 y1 y2 y3 y4 y5 y6 y7 y8 y9) σ =
if (0 : Int) ≤ y9 ∧ y9 < (↑y6 : Int) then
  Option.bind y5 fun v0 =>
    Option.bind (St.ld σ (Prod.fst v0) (Prod.snd v0 + Int.toNat y9 * (2 : Nat))) fun v1 =>
      Option.bind (AV.toInt IntKind.i64 v1) fun v2 =>
        Option.bind (St.ld σ (Prod.fst v0) (Prod.snd v0 + Int.toNat y9 * (2 : Nat) + (1 : Nat))) fun v3 =>
          Option.bind (AV.toStr v3) fun v4 =>
            Option.bind
              (St.st (St.new σ (Blk.cells [AV.int IntKind.i64 (0 : Int), AV.str (ByteArray.mk #[])] true)) (St.next σ) (0 : Nat)
                [AV.int IntKind.i64 v2, AV.str v4])
              fun v5 =>
              J Ex.normal (f8e35 y0 y1 y2 y3 y4 y9 (St.next σ) y5 y6 y7 y8 y9 y9 (some (Prod.fst v0, Prod.snd v0 + Int.toNat y9 * (2 : Nat))) v2 v4)
                v5
else none := hide (by kernel_rfl)
theorem f8z69_f8e35 (y0 : Nat) (y1 : Option (Nat × Nat)) (y2 : Int) (y3 : Nat) (y4 : Bool) (y5 : Int) (y6 : Nat) (y7 : Option (Nat × Nat)) (y8 : Nat) (y9 : Option Nat) (y10 : Int) (y11 : Int) (y12 : Int) (y13 : Option (Nat × Nat)) (y14 : Int) (y15 : ByteArray) : Ann.clr f8a69 (f8e35 y0 y1 y2 y3 y4 y5 y6 y7 y8 y9 y10 y11 y12 y13 y14 y15) = f8e36 y0 y1 y2 y3 y4 y5 y6 y7 y8 y9 y10 y11 := hide (by kernel_rfl)
theorem f8n71 {R : Type} (call : CallF R) (N : Nat) (J : KF R) (e : Env) (σ : St) : runK Try.prog call N f8c71 f8a71 J e σ = runK Try.prog call N f8c72 f8a72 (seqC (fun K e σ => runK Try.prog call N f8c73 f8a73 K e σ) f8a71 J) e σ := runK_seq' (by kernel_rfl) (by kernel_rfl) (by kernel_rfl)
theorem f8r72_f8e36 {R : Type} (call : CallF R) (N : Nat) (y0 : Nat) (y1 : Option (Nat × Nat)) (y2 : Int) (y3 : Nat) (y4 : Bool) (y5 : Int) (y6 : Nat) (y7 : Option (Nat × Nat)) (y8 : Nat) (y9 : Option Nat) (y10 : Int) (y11 : Int) (J : KF R) (σ : St) :
    runK Try.prog call N f8c72 f8a72 J (f8e36 y0 y1 y2 y3 y4 y5 y6 y7 y8 y9 y10 y11) σ =
Option.bind (St.ld σ y6 (0 : Nat)) fun v0 =>
  Option.bind (AV.toInt IntKind.i64 v0) fun v1 =>
    call (29 : Nat) [AV.ptr y1, AV.int IntKind.i64 y2, AV.int IntKind.i64 v1] σ fun v2 v3 =>
      Option.bind (AV.toTuple v2) fun v4 =>
        if List.length v4 = (3 : Nat) then
          Option.bind (List.head? v4) fun v5 =>
            Option.bind (AV.toStr v5) fun v6 =>
              Option.bind (List.head? (List.tail v4)) fun v7 =>
                Option.bind (AV.toStr v7) fun v8 =>
                  Option.bind (List.head? (List.tail (List.tail v4))) fun v9 =>
                    Option.bind (AV.toBool v9) fun v10 =>
                      J Ex.normal (f8e37 y0 y1 y2 y3 y4 y5 y6 v6 v8 v10 y7 y8 y9 y10 y11 v6 v8 v10 y1 y2 y6 v1 v6 v8 v10 v6 v8 v10) v3
        else none := hide (by kernel_rfl)
theorem f8z71_f8e37 (y0 : Nat) (y1 : Option (Nat × Nat)) (y2 : Int) (y3 : Nat) (y4 : Bool) (y5 : Int) (y6 : Nat) (y7 : ByteArray) (y8 : ByteArray) (y9 : Bool) (y10 : Option (Nat × Nat)) (y11 : Nat) (y12 : Option Nat) (y13 : Int) (y14 : Int) (y15 : ByteArray) (y16 : ByteArray) (y17 : Bool) (y18 : Option (Nat × Nat)) (y19 : Int) (y20 : Nat) (y21 : Int) (y22 : ByteArray) (y23 : ByteArray) (y24 : Bool) (y25 : ByteArray) (y26 : ByteArray) (y27 : Bool) : Ann.clr f8a71 (f8e37 y0 y1 y2 y3 y4 y5 y6 y7 y8 y9 y10 y11 y12 y13 y14 y15 y16 y17 y18 y19 y20 y21 y22 y23 y24 y25 y26 y27) = f8e38 y0 y1 y2 y3 y4 y5 y6 y7 y8 y9 y10 y11 y12 y13 y14 := hide (by kernel_rfl)
theorem f8n73 {R : Type} (call : CallF R) (N : Nat) (J : KF R) (e : Env) (σ : St) : runK Try.prog call N f8c73 f8a73 J e σ = runK Try.prog call N f8c74 f8a74 (seqC (fun K e σ => runK Try.prog call N f8c75 f8a75 K e σ) f8a73 J) e σ := runK_seq' (by kernel_rfl) (by kernel_rfl) (by kernel_rfl)
theorem f8n74 {R : Type} (call : CallF R) (N : Nat) (J : KF R) (e : Env) (σ : St) : runK Try.prog call N f8c74 f8a74 J e σ = runK Try.prog call N f8c76 f8a76 (seqC (fun K e σ => runK Try.prog call N f8c77 f8a77 K e σ) f8a74 J) e σ := runK_seq' (by kernel_rfl) (by kernel_rfl) (by kernel_rfl)
theorem f8r76_f8e38 {R : Type} (call : CallF R) (N : Nat) (y0 : Nat) (y1 : Option (Nat × Nat)) (y2 : Int) (y3 : Nat) (y4 : Bool) (y5 : Int) (y6 : Nat) (y7 : ByteArray) (y8 : ByteArray) (y9 : Bool) (y10 : Option (Nat × Nat)) (y11 : Nat) (y12 : Option Nat) (y13 : Int) (y14 : Int) (J : KF R) (σ : St) :
    runK Try.prog call N f8c76 f8a76 J (f8e38 y0 y1 y2 y3 y4 y5 y6 y7 y8 y9 y10 y11 y12 y13 y14) σ =
if (!y9) = true then J Ex.normal (f8e39 y0 y1 y2 y3 y4 y5 y6 y7 y8 y9 y10 y11 y12 y13 y14 y9 (!y9) true true true true true true) σ
else
  Option.bind (St.ld σ y3 (0 : Nat)) fun v0 =>
    Option.bind (AV.toStr v0) fun v1 =>
      if (!decide (y7 = v1)) = true then
        J Ex.normal
          (f8e40 y0 y1 y2 y3 y4 y5 y6 y7 y8 y9 y10 y11 y12 y13 y14 y9 (!y9) false y7 y3 v1 (!decide (y7 = v1)) (!decide (y7 = v1)) true true true
            true)
          σ
      else
        Option.bind (St.ld σ y6 (1 : Nat)) fun v2 =>
          Option.bind (AV.toStr v2) fun v3 =>
            if (!decide (y8 = v3)) = true then
              J Ex.normal
                (f8e41 y0 y1 y2 y3 y4 y5 y6 y7 y8 y9 y10 y11 y12 y13 y14 y9 (!y9) false y7 y3 v1 (!decide (y7 = v1)) (!decide (y7 = v1)) false y8 y6
                  v3 (!decide (y8 = v3)) (!decide (y8 = v3)) true true)
                σ
            else
              if decide (y5 > (0 : Int)) = true then
                Option.bind (St.ld σ y3 (2 : Nat)) fun v4 =>
                  Option.bind (AV.toSl (2 : Nat) v4) fun v5 =>
                    if (0 : Int) ≤ IntKind.wrap IntKind.i64 (y5 - (1 : Int)) ∧ IntKind.wrap IntKind.i64 (y5 - (1 : Int)) < (↑(Sl.len v5) : Int) then
                      Option.bind (Sl.o v5) fun v6 =>
                        Option.bind (St.ld σ (Prod.fst v6) (Prod.snd v6 + Int.toNat (IntKind.wrap IntKind.i64 (y5 - (1 : Int))) * (2 : Nat)))
                          fun v7 =>
                          Option.bind (AV.toInt IntKind.i64 v7) fun v8 =>
                            Option.bind (St.ld σ y6 (0 : Nat)) fun v9 =>
                              Option.bind (AV.toInt IntKind.i64 v9) fun v10 =>
                                J Ex.normal
                                  (f8e42 y0 y1 y2 y3 y4 y5 y6 y7 y8 y9 y10 y11 y12 y13 y14 y9 (!y9) false y7 y3 v1 (!decide (y7 = v1))
                                    (!decide (y7 = v1)) false y8 y6 v3 (!decide (y8 = v3)) (!decide (y8 = v3)) false y5 (decide (y5 > (0 : Int))) true
                                    y3 (Sl.o v5) (Sl.len v5) (Sl.cap v5) y5 (IntKind.wrap IntKind.i64 (y5 - (1 : Int)))
                                    (some (Prod.fst v6, Prod.snd v6 + Int.toNat (IntKind.wrap IntKind.i64 (y5 - (1 : Int))) * (2 : Nat)))
                                    (some (Prod.fst v6, Prod.snd v6 + Int.toNat (IntKind.wrap IntKind.i64 (y5 - (1 : Int))) * (2 : Nat))) v8 y6 v10
                                    (decide (v8 ≥ v10)) (decide (v8 ≥ v10)) (decide (v8 ≥ v10)))
                                  σ
                    else none
              else
                J Ex.normal
                  (f8e43 y0 y1 y2 y3 y4 y5 y6 y7 y8 y9 y10 y11 y12 y13 y14 y9 (!y9) false y7 y3 v1 (!decide (y7 = v1)) (!decide (y7 = v1)) false y8 y6
                    v3 (!decide (y8 = v3)) (!decide (y8 = v3)) false y5 (decide (y5 > (0 : Int))) false false false)
                  σ := hide (by kernel_rfl)
theorem f8z74_f8e39 (y0 : Nat) (y1 : Option (Nat × Nat)) (y2 : Int) (y3 : Nat) (y4 : Bool) (y5 : Int) (y6 : Nat) (y7 : ByteArray) (y8 : ByteArray) (y9 : Bool) (y10 : Option (Nat × Nat)) (y11 : Nat) (y12 : Option Nat) (y13 : Int) (y14 : Int) (y15 : Bool) (y16 : Bool) (y17 : Bool) (y18 : Bool) (y19 : Bool) (y20 : Bool) (y21 : Bool) (y22 : Bool) : Ann.clr f8a74 (f8e39 y0 y1 y2 y3 y4 y5 y6 y7 y8 y9 y10 y11 y12 y13 y14 y15 y16 y17 y18 y19 y20 y21 y22) = f8e44 y0 y1 y2 y3 y4 y6 y10 y11 y12 y13 y14 y22 := hide (by kernel_rfl)
theorem f8x77_f8e44 {R : Type} (call : CallF R) (N : Nat) (y0 : Nat) (y1 : Option (Nat × Nat)) (y2 : Int) (y3 : Nat) (y4 : Bool) (y5 : Nat) (y6 : Option (Nat × Nat)) (y7 : Nat) (y8 : Option Nat) (y9 : Int) (y10 : Int) (y11 : Bool) (J : KF R) (σ : St) : runK Try.prog call N f8c77 f8a77 J (f8e44 y0 y1 y2 y3 y4 y5 y6 y7 y8 y9 y10 y11) σ = if y11 = true then runK Try.prog call N f8c78 f8a78 (condC f8a77 J) (f8e44 y0 y1 y2 y3 y4 y5 y6 y7 y8 y9 y10 y11) σ else runK Try.prog call N f8c79 f8a79 (condC f8a77 J) (f8e44 y0 y1 y2 y3 y4 y5 y6 y7 y8 y9 y10 y11) σ := runK_cond' (o := Operand.tmp (123 : Nat)) (by kernel_rfl) (by kernel_rfl) (by kernel_rfl) (by kernel_rfl)
theorem f8n78 {R : Type} (call : CallF R) (N : Nat) (J : KF R) (e : Env) (σ : St) : runK Try.prog call N f8c78 f8a78 J e σ = runK Try.prog call N f8c80 f8a80 (seqC (fun K e σ => runK Try.prog call N f8c81 f8a81 K e σ) f8a78 J) e σ := runK_seq' (by kernel_rfl) (by kernel_rfl) (by kernel_rfl)
theorem f8r80_f8e44 {R : Type} (call : CallF R) (N : Nat) (y0 : Nat) (y1 : Option (Nat × Nat)) (y2 : Int) (y3 : Nat) (y4 : Bool) (y5 : Nat) (y6 : Option (Nat × Nat)) (y7 : Nat) (y8 : Option Nat) (y9 : Int) (y10 : Int) (y11 : Bool) (J : KF R) (σ : St) :
    runK Try.prog call N f8c80 f8a80 J (f8e44 y0 y1 y2 y3 y4 y5 y6 y7 y8 y9 y10 y11) σ =
J Ex.normal (f8e45 y0 false y1 y2 y3 y4 y5 y6 y7 y8 y9 y10 y11) σ := hide (by kernel_rfl)
theorem f8z78_f8e45 (y0 : Nat) (y1 : Bool) (y2 : Option (Nat × Nat)) (y3 : Int) (y4 : Nat) (y5 : Bool) (y6 : Nat) (y7 : Option (Nat × Nat)) (y8 : Nat) (y9 : Option Nat) (y10 : Int) (y11 : Int) (y12 : Bool) : Ann.clr f8a78 (f8e45 y0 y1 y2 y3 y4 y5 y6 y7 y8 y9 y10 y11 y12) = f8e12 y1 := hide (by kernel_rfl)
theorem f8y81_f8e12 {R : Type} (call : CallF R) (N : Nat) (y0 : Bool) (J : KF R) (σ : St) : runK Try.prog call N f8c81 f8a81 J (f8e12 y0) σ = J .ret (f8e12 y0) σ := runK_ret' (by kernel_rfl) (by kernel_rfl)
theorem f8n79 {R : Type} (call : CallF R) (N : Nat) (J : KF R) (e : Env) (σ : St) : runK Try.prog call N f8c79 f8a79 J e σ = J .normal e σ := runK_skip' (by kernel_rfl)
theorem f8z77_f8e44 (y0 : Nat) (y1 : Option (Nat × Nat)) (y2 : Int) (y3 : Nat) (y4 : Bool) (y5 : Nat) (y6 : Option (Nat × Nat)) (y7 : Nat) (y8 : Option Nat) (y9 : Int) (y10 : Int) (y11 : Bool) : Ann.clr f8a77 (f8e44 y0 y1 y2 y3 y4 y5 y6 y7 y8 y9 y10 y11) = f8e46 y0 y1 y2 y3 y4 y5 y6 y7 y8 y9 y10 := hide (by kernel_rfl)
theorem f8z74_f8e40 (y0 : Nat) (y1 : Option (Nat × Nat)) (y2 : Int) (y3 : Nat) (y4 : Bool) (y5 : Int) (y6 : Nat) (y7 : ByteArray) (y8 : ByteArray) (y9 : Bool) (y10 : Option (Nat × Nat)) (y11 : Nat) (y12 : Option Nat) (y13 : Int) (y14 : Int) (y15 : Bool) (y16 : Bool) (y17 : Bool) (y18 : ByteArray) (y19 : Nat) (y20 : ByteArray) (y21 : Bool) (y22 : Bool) (y23 : Bool) (y24 : Bool) (y25 : Bool) (y26 : Bool) : Ann.clr f8a74 (f8e40 y0 y1 y2 y3 y4 y5 y6 y7 y8 y9 y10 y11 y12 y13 y14 y15 y16 y17 y18 y19 y20 y21 y22 y23 y24 y25 y26) = f8e44 y0 y1 y2 y3 y4 y6 y10 y11 y12 y13 y14 y26 := hide (by kernel_rfl)
theorem f8z74_f8e41 (y0 : Nat) (y1 : Option (Nat × Nat)) (y2 : Int) (y3 : Nat) (y4 : Bool) (y5 : Int) (y6 : Nat) (y7 : ByteArray) (y8 : ByteArray) (y9 : Bool) (y10 : Option (Nat × Nat)) (y11 : Nat) (y12 : Option Nat) (y13 : Int) (y14 : Int) (y15 : Bool) (y16 : Bool) (y17 : Bool) (y18 : ByteArray) (y19 : Nat) (y20 : ByteArray) (y21 : Bool) (y22 : Bool) (y23 : Bool) (y24 : ByteArray) (y25 : Nat) (y26 : ByteArray) (y27 : Bool) (y28 : Bool) (y29 : Bool) (y30 : Bool) : Ann.clr f8a74 (f8e41 y0 y1 y2 y3 y4 y5 y6 y7 y8 y9 y10 y11 y12 y13 y14 y15 y16 y17 y18 y19 y20 y21 y22 y23 y24 y25 y26 y27 y28 y29 y30) = f8e44 y0 y1 y2 y3 y4 y6 y10 y11 y12 y13 y14 y30 := hide (by kernel_rfl)
theorem f8z74_f8e42 (y0 : Nat) (y1 : Option (Nat × Nat)) (y2 : Int) (y3 : Nat) (y4 : Bool) (y5 : Int) (y6 : Nat) (y7 : ByteArray) (y8 : ByteArray) (y9 : Bool) (y10 : Option (Nat × Nat)) (y11 : Nat) (y12 : Option Nat) (y13 : Int) (y14 : Int) (y15 : Bool) (y16 : Bool) (y17 : Bool) (y18 : ByteArray) (y19 : Nat) (y20 : ByteArray) (y21 : Bool) (y22 : Bool) (y23 : Bool) (y24 : ByteArray) (y25 : Nat) (y26 : ByteArray) (y27 : Bool) (y28 : Bool) (y29 : Bool) (y30 : Int) (y31 : Bool) (y32 : Bool) (y33 : Nat) (y34 : Option (Nat × Nat)) (y35 : Nat) (y36 : Option Nat) (y37 : Int) (y38 : Int) (y39 : Option (Nat × Nat)) (y40 : Option (Nat × Nat)) (y41 : Int) (y42 : Nat) (y43 : Int) (y44 : Bool) (y45 : Bool) (y46 : Bool) : Ann.clr f8a74 (f8e42 y0 y1 y2 y3 y4 y5 y6 y7 y8 y9 y10 y11 y12 y13 y14 y15 y16 y17 y18 y19 y20 y21 y22 y23 y24 y25 y26 y27 y28 y29 y30 y31 y32 y33 y34 y35 y36 y37
  y38 y39 y40 y41 y42 y43 y44 y45 y46) = f8e44 y0 y1 y2 y3 y4 y6 y10 y11 y12 y13 y14 y46 := hide (by kernel_rfl)
theorem f8z74_f8e43 (y0 : Nat) (y1 : Option (Nat × Nat)) (y2 : Int) (y3 : Nat) (y4 : Bool) (y5 : Int) (y6 : Nat) (y7 : ByteArray) (y8 : ByteArray) (y9 : Bool) (y10 : Option (Nat × Nat)) (y11 : Nat) (y12 : Option Nat) (y13 : Int) (y14 : Int) (y15 : Bool) (y16 : Bool) (y17 : Bool) (y18 : ByteArray) (y19 : Nat) (y20 : ByteArray) (y21 : Bool) (y22 : Bool) (y23 : Bool) (y24 : ByteArray) (y25 : Nat) (y26 : ByteArray) (y27 : Bool) (y28 : Bool) (y29 : Bool) (y30 : Int) (y31 : Bool) (y32 : Bool) (y33 : Bool) (y34 : Bool) : Ann.clr f8a74 (f8e43 y0 y1 y2 y3 y4 y5 y6 y7 y8 y9 y10 y11 y12 y13 y14 y15 y16 y17 y18 y19 y20 y21 y22 y23 y24 y25 y26 y27 y28 y29 y30 y31 y32 y33 y34) = f8e44 y0 y1 y2 y3 y4 y6 y10 y11 y12 y13 y14 y34 := hide (by kernel_rfl)
theorem f8z73_f8e46 (y0 : Nat) (y1 : Option (Nat × Nat)) (y2 : Int) (y3 : Nat) (y4 : Bool) (y5 : Nat) (y6 : Option (Nat × Nat)) (y7 : Nat) (y8 : Option Nat) (y9 : Int) (y10 : Int) : Ann.clr f8a73 (f8e46 y0 y1 y2 y3 y4 y5 y6 y7 y8 y9 y10) = f8e46 y0 y1 y2 y3 y4 y5 y6 y7 y8 y9 y10 := hide (by kernel_rfl)
theorem f8r75_f8e46 {R : Type} (call : CallF R) (N : Nat) (y0 : Nat) (y1 : Option (Nat × Nat)) (y2 : Int) (y3 : Nat) (y4 : Bool) (y5 : Nat) (y6 : Option (Nat × Nat)) (y7 : Nat) (y8 : Option Nat) (y9 : Int) (y10 : Int) (J : KF R) (σ : St) :
    runK Try.prog call N f8c75 f8a75 J (f8e46 y0 y1 y2 y3 y4 y5 y6 y7 y8 y9 y10) σ =
if y4 = true then J Ex.normal (f8e47 y0 y1 y2 y3 true y5 y6 y7 y8 y9 y10 y4 true true) σ
else
  Option.bind (St.ld σ y5 (0 : Nat)) fun v0 =>
    Option.bind (AV.toInt IntKind.i64 v0) fun v1 =>
      Option.bind (St.ld σ y0 (2 : Nat)) fun v2 =>
        Option.bind (AV.toInt IntKind.i64 v2) fun v3 =>
          J Ex.normal (f8e48 y0 y1 y2 y3 (v1 == v3) y5 y6 y7 y8 y9 y10 y4 false y5 v1 y0 v3 (v1 == v3) (v1 == v3)) σ := hide (by kernel_rfl)
theorem f8z67_f8e47 (y0 : Nat) (y1 : Option (Nat × Nat)) (y2 : Int) (y3 : Nat) (y4 : Bool) (y5 : Nat) (y6 : Option (Nat × Nat)) (y7 : Nat) (y8 : Option Nat) (y9 : Int) (y10 : Int) (y11 : Bool) (y12 : Bool) (y13 : Bool) : Ann.clr f8a67 (f8e47 y0 y1 y2 y3 y4 y5 y6 y7 y8 y9 y10 y11 y12 y13) = f8e33 y0 y1 y2 y3 y4 y6 y7 y8 y9 y10 := hide (by kernel_rfl)
theorem f8z67_f8e48 (y0 : Nat) (y1 : Option (Nat × Nat)) (y2 : Int) (y3 : Nat) (y4 : Bool) (y5 : Nat) (y6 : Option (Nat × Nat)) (y7 : Nat) (y8 : Option Nat) (y9 : Int) (y10 : Int) (y11 : Bool) (y12 : Bool) (y13 : Nat) (y14 : Int) (y15 : Nat) (y16 : Int) (y17 : Bool) (y18 : Bool) : Ann.clr f8a67 (f8e48 y0 y1 y2 y3 y4 y5 y6 y7 y8 y9 y10 y11 y12 y13 y14 y15 y16 y17 y18) = f8e33 y0 y1 y2 y3 y4 y6 y7 y8 y9 y10 := hide (by kernel_rfl)
theorem f8z64_f8e33 (y0 : Nat) (y1 : Option (Nat × Nat)) (y2 : Int) (y3 : Nat) (y4 : Bool) (y5 : Option (Nat × Nat)) (y6 : Nat) (y7 : Option Nat) (y8 : Int) (y9 : Int) : Ann.clr f8a64 (f8e33 y0 y1 y2 y3 y4 y5 y6 y7 y8 y9) = f8e33 y0 y1 y2 y3 y4 y5 y6 y7 y8 y9 := hide (by kernel_rfl)
theorem f8r68_f8e33 {R : Type} (call : CallF R) (N : Nat) (y0 : Nat) (y1 : Option (Nat × Nat)) (y2 : Int) (y3 : Nat) (y4 : Bool) (y5 : Option (Nat × Nat)) (y6 : Nat) (y7 : Option Nat) (y8 : Int) (y9 : Int) (J : KF R) (σ : St) :
    runK Try.prog call N f8c68 f8a68 J (f8e33 y0 y1 y2 y3 y4 y5 y6 y7 y8 y9) σ =
J Ex.normal (f8e49 y0 y1 y2 y3 y4 y5 y6 y7 y8 (IntKind.wrap IntKind.i64 (y9 + (1 : Int))) (IntKind.wrap IntKind.i64 (y9 + (1 : Int)))) σ := hide (by kernel_rfl)
theorem f8z59_f8e49 (y0 : Nat) (y1 : Option (Nat × Nat)) (y2 : Int) (y3 : Nat) (y4 : Bool) (y5 : Option (Nat × Nat)) (y6 : Nat) (y7 : Option Nat) (y8 : Int) (y9 : Int) (y10 : Int) : Ann.clr f8a59 (f8e49 y0 y1 y2 y3 y4 y5 y6 y7 y8 y9 y10) = f8e33 y0 y1 y2 y3 y4 y5 y6 y7 y8 y9 := hide (by kernel_rfl)
theorem f8z58_f8e31 (y0 : Nat) (y1 : Option (Nat × Nat)) (y2 : Int) (y3 : Nat) (y4 : Bool) : Ann.clr f8a58 (f8e31 y0 y1 y2 y3 y4) = f8e31 y0 y1 y2 y3 y4 := hide (by kernel_rfl)
theorem f8z54_f8e31 (y0 : Nat) (y1 : Option (Nat × Nat)) (y2 : Int) (y3 : Nat) (y4 : Bool) : Ann.clr f8a54 (f8e31 y0 y1 y2 y3 y4) = f8e31 y0 y1 y2 y3 y4 := hide (by kernel_rfl)
theorem f8n56 {R : Type} (call : CallF R) (N : Nat) (J : KF R) (e : Env) (σ : St) : runK Try.prog call N f8c56 f8a56 J e σ = runK Try.prog call N f8c82 f8a82 (seqC (fun K e σ => runK Try.prog call N f8c83 f8a83 K e σ) f8a56 J) e σ := runK_seq' (by kernel_rfl) (by kernel_rfl) (by kernel_rfl)
theorem f8r82_f8e31 {R : Type} (call : CallF R) (N : Nat) (y0 : Nat) (y1 : Option (Nat × Nat)) (y2 : Int) (y3 : Nat) (y4 : Bool) (J : KF R) (σ : St) :
    runK Try.prog call N f8c82 f8a82 J (f8e31 y0 y1 y2 y3 y4) σ =
Option.bind (St.ld σ y3 (2 : Nat)) fun v0 =>
  Option.bind (AV.toSl (2 : Nat) v0) fun v1 =>
    Option.bind (St.ld σ y0 (1 : Nat)) fun v2 =>
      Option.bind (AV.toInt IntKind.i64 v2) fun v3 =>
        if decide ((↑(Sl.len v1) : Int) < IntKind.wrap IntKind.i64 (IntKind.wrap IntKind.i64 ((2 : Int) * v3) + (1 : Int))) = true then
          J Ex.normal
            (f8e50 y0 y1 y2 y3 y4 y3 (Sl.o v1) (Sl.len v1) (Sl.cap v1) (↑(Sl.len v1) : Int) y0 v3 (IntKind.wrap IntKind.i64 ((2 : Int) * v3))
              (IntKind.wrap IntKind.i64 (IntKind.wrap IntKind.i64 ((2 : Int) * v3) + (1 : Int)))
              (decide ((↑(Sl.len v1) : Int) < IntKind.wrap IntKind.i64 (IntKind.wrap IntKind.i64 ((2 : Int) * v3) + (1 : Int)))) true true true true)
            σ
        else
          Option.bind (St.ld σ y3 (1 : Nat)) fun v4 =>
            Option.bind (AV.toInt IntKind.i64 v4) fun v5 =>
              Option.bind (St.ld σ y0 (0 : Nat)) fun v6 =>
                Option.bind (AV.toInt IntKind.i64 v6) fun v7 =>
                  if (v5 != v7) = true then
                    J Ex.normal
                      (f8e51 y0 y1 y2 y3 y4 y3 (Sl.o v1) (Sl.len v1) (Sl.cap v1) (↑(Sl.len v1) : Int) y0 v3
                        (IntKind.wrap IntKind.i64 ((2 : Int) * v3)) (IntKind.wrap IntKind.i64 (IntKind.wrap IntKind.i64 ((2 : Int) * v3) + (1 : Int)))
                        (decide ((↑(Sl.len v1) : Int) < IntKind.wrap IntKind.i64 (IntKind.wrap IntKind.i64 ((2 : Int) * v3) + (1 : Int)))) false y3 v5
                        y0 v7 (v5 != v7) (v5 != v7) true true)
                      σ
                  else
                    if (y2 == (1 : Int)) = true then
                      J Ex.normal
                        (f8e52 y0 y1 y2 y3 y4 y3 (Sl.o v1) (Sl.len v1) (Sl.cap v1) (↑(Sl.len v1) : Int) y0 v3
                          (IntKind.wrap IntKind.i64 ((2 : Int) * v3))
                          (IntKind.wrap IntKind.i64 (IntKind.wrap IntKind.i64 ((2 : Int) * v3) + (1 : Int)))
                          (decide ((↑(Sl.len v1) : Int) < IntKind.wrap IntKind.i64 (IntKind.wrap IntKind.i64 ((2 : Int) * v3) + (1 : Int)))) false y3
                          v5 y0 v7 (v5 != v7) (v5 != v7) false y2 (y2 == (1 : Int)) true y4 (!y4) (!y4) !y4)
                        σ
                    else
                      J Ex.normal
                        (f8e53 y0 y1 y2 y3 y4 y3 (Sl.o v1) (Sl.len v1) (Sl.cap v1) (↑(Sl.len v1) : Int) y0 v3
                          (IntKind.wrap IntKind.i64 ((2 : Int) * v3))
                          (IntKind.wrap IntKind.i64 (IntKind.wrap IntKind.i64 ((2 : Int) * v3) + (1 : Int)))
                          (decide ((↑(Sl.len v1) : Int) < IntKind.wrap IntKind.i64 (IntKind.wrap IntKind.i64 ((2 : Int) * v3) + (1 : Int)))) false y3
                          v5 y0 v7 (v5 != v7) (v5 != v7) false y2 (y2 == (1 : Int)) false false false)
                        σ := hide (by kernel_rfl)
theorem f8z56_f8e50 (y0 : Nat) (y1 : Option (Nat × Nat)) (y2 : Int) (y3 : Nat) (y4 : Bool) (y5 : Nat) (y6 : Option (Nat × Nat)) (y7 : Nat) (y8 : Option Nat) (y9 : Int) (y10 : Nat) (y11 : Int) (y12 : Int) (y13 : Int) (y14 : Bool) (y15 : Bool) (y16 : Bool) (y17 : Bool) (y18 : Bool) : Ann.clr f8a56 (f8e50 y0 y1 y2 y3 y4 y5 y6 y7 y8 y9 y10 y11 y12 y13 y14 y15 y16 y17 y18) = f8e54 y0 y1 y2 y18 := hide (by kernel_rfl)
theorem f8x83_f8e54 {R : Type} (call : CallF R) (N : Nat) (y0 : Nat) (y1 : Option (Nat × Nat)) (y2 : Int) (y3 : Bool) (J : KF R) (σ : St) : runK Try.prog call N f8c83 f8a83 J (f8e54 y0 y1 y2 y3) σ = if y3 = true then runK Try.prog call N f8c84 f8a84 (condC f8a83 J) (f8e54 y0 y1 y2 y3) σ else runK Try.prog call N f8c85 f8a85 (condC f8a83 J) (f8e54 y0 y1 y2 y3) σ := runK_cond' (o := Operand.tmp (155 : Nat)) (by kernel_rfl) (by kernel_rfl) (by kernel_rfl) (by kernel_rfl)
theorem f8n84 {R : Type} (call : CallF R) (N : Nat) (J : KF R) (e : Env) (σ : St) : runK Try.prog call N f8c84 f8a84 J e σ = runK Try.prog call N f8c86 f8a86 (seqC (fun K e σ => runK Try.prog call N f8c87 f8a87 K e σ) f8a84 J) e σ := runK_seq' (by kernel_rfl) (by kernel_rfl) (by kernel_rfl)
theorem f8r86_f8e54 {R : Type} (call : CallF R) (N : Nat) (y0 : Nat) (y1 : Option (Nat × Nat)) (y2 : Int) (y3 : Bool) (J : KF R) (σ : St) :
    runK Try.prog call N f8c86 f8a86 J (f8e54 y0 y1 y2 y3) σ =
J Ex.normal (f8e55 y0 false y1 y2 y3) σ := hide (by kernel_rfl)
theorem f8z84_f8e55 (y0 : Nat) (y1 : Bool) (y2 : Option (Nat × Nat)) (y3 : Int) (y4 : Bool) : Ann.clr f8a84 (f8e55 y0 y1 y2 y3 y4) = f8e12 y1 := hide (by kernel_rfl)
theorem f8y87_f8e12 {R : Type} (call : CallF R) (N : Nat) (y0 : Bool) (J : KF R) (σ : St) : runK Try.prog call N f8c87 f8a87 J (f8e12 y0) σ = J .ret (f8e12 y0) σ := runK_ret' (by kernel_rfl) (by kernel_rfl)
theorem f8n85 {R : Type} (call : CallF R) (N : Nat) (J : KF R) (e : Env) (σ : St) : runK Try.prog call N f8c85 f8a85 J e σ = J .normal e σ := runK_skip' (by kernel_rfl)
theorem f8z83_f8e54 (y0 : Nat) (y1 : Option (Nat × Nat)) (y2 : Int) (y3 : Bool) : Ann.clr f8a83 (f8e54 y0 y1 y2 y3) = f8e22 y0 y1 y2 := hide (by kernel_rfl)
theorem f8z56_f8e51 (y0 : Nat) (y1 : Option (Nat × Nat)) (y2 : Int) (y3 : Nat) (y4 : Bool) (y5 : Nat) (y6 : Option (Nat × Nat)) (y7 : Nat) (y8 : Option Nat) (y9 : Int) (y10 : Nat) (y11 : Int) (y12 : Int) (y13 : Int) (y14 : Bool) (y15 : Bool) (y16 : Nat) (y17 : Int) (y18 : Nat) (y19 : Int) (y20 : Bool) (y21 : Bool) (y22 : Bool) (y23 : Bool) : Ann.clr f8a56 (f8e51 y0 y1 y2 y3 y4 y5 y6 y7 y8 y9 y10 y11 y12 y13 y14 y15 y16 y17 y18 y19 y20 y21 y22 y23) = f8e54 y0 y1 y2 y23 := hide (by kernel_rfl)
theorem f8z56_f8e52 (y0 : Nat) (y1 : Option (Nat × Nat)) (y2 : Int) (y3 : Nat) (y4 : Bool) (y5 : Nat) (y6 : Option (Nat × Nat)) (y7 : Nat) (y8 : Option Nat) (y9 : Int) (y10 : Nat) (y11 : Int) (y12 : Int) (y13 : Int) (y14 : Bool) (y15 : Bool) (y16 : Nat) (y17 : Int) (y18 : Nat) (y19 : Int) (y20 : Bool) (y21 : Bool) (y22 : Bool) (y23 : Int) (y24 : Bool) (y25 : Bool) (y26 : Bool) (y27 : Bool) (y28 : Bool) (y29 : Bool) : Ann.clr f8a56 (f8e52 y0 y1 y2 y3 y4 y5 y6 y7 y8 y9 y10 y11 y12 y13 y14 y15 y16 y17 y18 y19 y20 y21 y22 y23 y24 y25 y26 y27 y28 y29) = f8e54 y0 y1 y2 y29 := hide (by kernel_rfl)
theorem f8z56_f8e53 (y0 : Nat) (y1 : Option (Nat × Nat)) (y2 : Int) (y3 : Nat) (y4 : Bool) (y5 : Nat) (y6 : Option (Nat × Nat)) (y7 : Nat) (y8 : Option Nat) (y9 : Int) (y10 : Nat) (y11 : Int) (y12 : Int) (y13 : Int) (y14 : Bool) (y15 : Bool) (y16 : Nat) (y17 : Int) (y18 : Nat) (y19 : Int) (y20 : Bool) (y21 : Bool) (y22 : Bool) (y23 : Int) (y24 : Bool) (y25 : Bool) (y26 : Bool) (y27 : Bool) : Ann.clr f8a56 (f8e53 y0 y1 y2 y3 y4 y5 y6 y7 y8 y9 y10 y11 y12 y13 y14 y15 y16 y17 y18 y19 y20 y21 y22 y23 y24 y25 y26 y27) = f8e54 y0 y1 y2 y27 := hide (by kernel_rfl)
theorem f8z42_f8e22 (y0 : Nat) (y1 : Option (Nat × Nat)) (y2 : Int) : Ann.clr f8a42 (f8e22 y0 y1 y2) = f8e22 y0 y1 y2 := hide (by kernel_rfl)
theorem f8z37_f8e22 (y0 : Nat) (y1 : Option (Nat × Nat)) (y2 : Int) : Ann.clr f8a37 (f8e22 y0 y1 y2) = f8e22 y0 y1 y2 := hide (by kernel_rfl)
theorem f8r43_f8e22 {R : Type} (call : CallF R) (N : Nat) (y0 : Nat) (y1 : Option (Nat × Nat)) (y2 : Int) (J : KF R) (σ : St) :
    runK Try.prog call N f8c43 f8a43 J (f8e22 y0 y1 y2) σ =
J Ex.normal (f8e56 y0 y1 (IntKind.wrap IntKind.i64 (y2 + (1 : Int))) y2 (IntKind.wrap IntKind.i64 (y2 + (1 : Int)))) σ := hide (by kernel_rfl)
theorem f8z34_f8e56 (y0 : Nat) (y1 : Option (Nat × Nat)) (y2 : Int) (y3 : Int) (y4 : Int) : Ann.clr f8a34 (f8e56 y0 y1 y2 y3 y4) = f8e22 y0 y1 y2 := hide (by kernel_rfl)
theorem f8z33_f8e25 : Ann.clr f8a33 (f8e25) = f8e25 := hide (by kernel_rfl)
theorem f8z14_f8e25 : Ann.clr f8a14 (f8e25) = f8e25 := hide (by kernel_rfl)
theorem f8n31 {R : Type} (call : CallF R) (N : Nat) (J : KF R) (e : Env) (σ : St) : runK Try.prog call N f8c31 f8a31 J e σ = runK Try.prog call N f8c88 f8a88 (seqC (fun K e σ => runK Try.prog call N f8c89 f8a89 K e σ) f8a31 J) e σ := runK_seq' (by kernel_rfl) (by kernel_rfl) (by kernel_rfl)
theorem f8r88_f8e25 {R : Type} (call : CallF R) (N : Nat) (J : KF R) (σ : St) :
    runK Try.prog call N f8c88 f8a88 J (f8e25) σ =
call (19 : Nat) [] σ fun v0 v1 => Option.bind (AV.toBool v0) fun v2 => J Ex.normal (f8e57 v2 v2) v1 := hide (by kernel_rfl)
theorem f8z31_f8e57 (y0 : Bool) (y1 : Bool) : Ann.clr f8a31 (f8e57 y0 y1) = f8e12 y0 := hide (by kernel_rfl)
theorem f8y89_f8e12 {R : Type} (call : CallF R) (N : Nat) (y0 : Bool) (J : KF R) (σ : St) : runK Try.prog call N f8c89 f8a89 J (f8e12 y0) σ = J .ret (f8e12 y0) σ := runK_ret' (by kernel_rfl) (by kernel_rfl)
theorem f8b_f8e12_r {R : Type} (y0 : Bool) (σ : St) (K : AV → St → Option R) : bodyC Try.prog f8rs K (Ex.ret) (f8e12 y0) σ =
K (AV.bool y0) σ := hide (by kernel_rfl)
attribute [go_sem] f8_eq f8n0 f8r1_f8e0 f8z0_f8e1 f8n2 f8r3_f8e2 f8z2_f8e3 f8n4 f8n5 f8r7_f8e4 f8z5_f8e5 f8x8_f8e8 f8n9 f8r11_f8e8 f8z9_f8e9 f8y12_f8e12 f8z9_f8e10 f8z9_f8e11 f8n10 f8z8_f8e8 f8z5_f8e6 f8z5_f8e7 f8z4_f8e13 f8n6 f8n13 f8r15_f8e13 f8z13_f8e14 f8n16 f8L17_eq f8z17_f8e15 f8l17_f8e15 f8n18 f8r19_f8e15 f8z18_f8e16 f8n20 f8x21_f8e16 f8n23 f8z21_f8e16 f8y24_f8e16 f8z20_f8e15 f8n22 f8n25 f8n27 f8r28_f8e15 f8z27_f8e18 f8r29_f8e19 f8z25_f8e20 f8z22_f8e15 f8r26_f8e15 f8z17_f8e21 f8z16_f8e17 f8z6_f8e17 f8n14 f8n30 f8r32_f8e17 f8z30_f8e22 f8n33 f8L34_eq f8z34_f8e22 f8l34_f8e22 f8n35 f8n36 f8r38_f8e22 f8z36_f8e23 f8x39_f8e24 f8n40 f8z39_f8e24 f8y41_f8e24 f8z35_f8e22 f8n37 f8n42 f8n44 f8r45_f8e22 f8z44_f8e26 f8n46 f8n47 f8r49_f8e27 f8z47_f8e28 f8x50_f8e29 f8y51_f8e29 f8n52 f8z50_f8e29 f8z46_f8e30 f8n48 f8r53_f8e30 f8z48_f8e31 f8n54 f8n55 f8r57_f8e31 f8z55_f8e32 f8n58 f8L59_eq f8z59_f8e33 f8l59_f8e33 f8n60 f8r61_f8e33 f8z60_f8e34 f8n62 f8x63_f8e34 f8n65 f8z63_f8e34 f8y66_f8e34 f8z62_f8e33 f8n64 f8n67 f8n69 f8r70_f8e33 f8z69_f8e35 f8n71 f8r72_f8e36 f8z71_f8e37 f8n73 f8n74 f8r76_f8e38 f8z74_f8e39 f8x77_f8e44 f8n78 f8r80_f8e44 f8z78_f8e45 f8y81_f8e12 f8n79 f8z77_f8e44 f8z74_f8e40 f8z74_f8e41 f8z74_f8e42 f8z74_f8e43 f8z73_f8e46 f8r75_f8e46 f8z67_f8e47 f8z67_f8e48 f8z64_f8e33 f8r68_f8e33 f8z59_f8e49 f8z58_f8e31 f8z54_f8e31 f8n56 f8r82_f8e31 f8z56_f8e50 f8x83_f8e54 f8n84 f8r86_f8e54 f8z84_f8e55 f8y87_f8e12 f8n85 f8z83_f8e54 f8z56_f8e51 f8z56_f8e52 f8z56_f8e53 f8z42_f8e22 f8z37_f8e22 f8r43_f8e22 f8z34_f8e56 f8z33_f8e25 f8z14_f8e25 f8n31 f8r88_f8e25 f8z31_f8e57 f8y89_f8e12 f8b_f8e12_r

end Go.Proofs.Ytmgacgonoodkfaa
