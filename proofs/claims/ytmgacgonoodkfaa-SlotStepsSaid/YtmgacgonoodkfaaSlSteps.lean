/- What the machine does with each piece of code, in plain text. PRINTED by a program of this workplace; Lean checks it. -/
import Derived.Test.YtmgacgonoodkfaaSlAnn
import Derived.Test.YtmgacgonoodkfaaProg
import Derived.KernelRfl
import Derived.Attr
namespace Go.Proofs.Ytmgacgonoodkfaa
open Go.AM
set_option maxRecDepth 100000
set_option linter.unusedVariables false
noncomputable def f5rs : List ResultVar := [ResultVar.tmp (4 : Nat)]
noncomputable def f5c0 : Code := subCode [] (bodyOf Try.prog 5)
def f5a0 : Ann := subAnn [] ann5
noncomputable def f5c1 : Code := subCode [0] (bodyOf Try.prog 5)
def f5a1 : Ann := subAnn [0] ann5
noncomputable def f5c2 : Code := subCode [1] (bodyOf Try.prog 5)
def f5a2 : Ann := subAnn [1] ann5
noncomputable def f5c3 : Code := subCode [1, 0] (bodyOf Try.prog 5)
def f5a3 : Ann := subAnn [1, 0] ann5
noncomputable def f5c4 : Code := subCode [1, 1] (bodyOf Try.prog 5)
def f5a4 : Ann := subAnn [1, 1] ann5
noncomputable def f5c5 : Code := subCode [1, 1, 0] (bodyOf Try.prog 5)
def f5a5 : Ann := subAnn [1, 1, 0] ann5
noncomputable def f5c6 : Code := subCode [1, 1, 1] (bodyOf Try.prog 5)
def f5a6 : Ann := subAnn [1, 1, 1] ann5
noncomputable def f5c7 : Code := subCode [1, 1, 1, 0] (bodyOf Try.prog 5)
def f5a7 : Ann := subAnn [1, 1, 1, 0] ann5
noncomputable def f5c8 : Code := subCode [1, 1, 1, 1] (bodyOf Try.prog 5)
def f5a8 : Ann := subAnn [1, 1, 1, 1] ann5
noncomputable def f5c9 : Code := subCode [1, 1, 1, 0, 0] (bodyOf Try.prog 5)
def f5a9 : Ann := subAnn [1, 1, 1, 0, 0] ann5
noncomputable def f5c10 : Code := subCode [1, 1, 1, 0, 1] (bodyOf Try.prog 5)
def f5a10 : Ann := subAnn [1, 1, 1, 0, 1] ann5
noncomputable def f5c11 : Code := subCode [1, 1, 1, 0, 1, 0] (bodyOf Try.prog 5)
def f5a11 : Ann := subAnn [1, 1, 1, 0, 1, 0] ann5
noncomputable def f5c12 : Code := subCode [1, 1, 1, 0, 1, 1] (bodyOf Try.prog 5)
def f5a12 : Ann := subAnn [1, 1, 1, 0, 1, 1] ann5
noncomputable def f5c13 : Code := subCode [1, 1, 1, 0, 1, 0, 0] (bodyOf Try.prog 5)
def f5a13 : Ann := subAnn [1, 1, 1, 0, 1, 0, 0] ann5
noncomputable def f5c14 : Code := subCode [1, 1, 1, 0, 1, 0, 1] (bodyOf Try.prog 5)
def f5a14 : Ann := subAnn [1, 1, 1, 0, 1, 0, 1] ann5
noncomputable def f5c15 : Code := subCode [1, 1, 1, 1, 0] (bodyOf Try.prog 5)
def f5a15 : Ann := subAnn [1, 1, 1, 1, 0] ann5
noncomputable def f5c16 : Code := subCode [1, 1, 1, 1, 1] (bodyOf Try.prog 5)
def f5a16 : Ann := subAnn [1, 1, 1, 1, 1] ann5
noncomputable def f5c17 : Code := subCode [1, 1, 1, 1, 0, 0] (bodyOf Try.prog 5)
def f5a17 : Ann := subAnn [1, 1, 1, 1, 0, 0] ann5
noncomputable def f5c18 : Code := subCode [1, 1, 1, 1, 0, 1] (bodyOf Try.prog 5)
def f5a18 : Ann := subAnn [1, 1, 1, 1, 0, 1] ann5
noncomputable def f5c19 : Code := subCode [1, 1, 1, 1, 0, 1, 0] (bodyOf Try.prog 5)
def f5a19 : Ann := subAnn [1, 1, 1, 1, 0, 1, 0] ann5
noncomputable def f5c20 : Code := subCode [1, 1, 1, 1, 0, 1, 1] (bodyOf Try.prog 5)
def f5a20 : Ann := subAnn [1, 1, 1, 1, 0, 1, 1] ann5
noncomputable def f5c21 : Code := subCode [1, 1, 1, 1, 0, 1, 0, 0] (bodyOf Try.prog 5)
def f5a21 : Ann := subAnn [1, 1, 1, 1, 0, 1, 0, 0] ann5
noncomputable def f5c22 : Code := subCode [1, 1, 1, 1, 0, 1, 0, 1] (bodyOf Try.prog 5)
def f5a22 : Ann := subAnn [1, 1, 1, 1, 0, 1, 0, 1] ann5
noncomputable def f5c23 : Code := subCode [1, 1, 1, 1, 1, 0] (bodyOf Try.prog 5)
def f5a23 : Ann := subAnn [1, 1, 1, 1, 1, 0] ann5
noncomputable def f5c24 : Code := subCode [1, 1, 1, 1, 1, 1] (bodyOf Try.prog 5)
def f5a24 : Ann := subAnn [1, 1, 1, 1, 1, 1] ann5
noncomputable def f5c25 : Code := subCode [1, 1, 1, 1, 1, 0, 0] (bodyOf Try.prog 5)
def f5a25 : Ann := subAnn [1, 1, 1, 1, 1, 0, 0] ann5
noncomputable def f5c26 : Code := subCode [1, 1, 1, 1, 1, 0, 1] (bodyOf Try.prog 5)
def f5a26 : Ann := subAnn [1, 1, 1, 1, 1, 0, 1] ann5
noncomputable def f5c27 : Code := subCode [1, 1, 1, 1, 1, 0, 1, 0] (bodyOf Try.prog 5)
def f5a27 : Ann := subAnn [1, 1, 1, 1, 1, 0, 1, 0] ann5
noncomputable def f5c28 : Code := subCode [1, 1, 1, 1, 1, 0, 1, 0, 0] (bodyOf Try.prog 5)
def f5a28 : Ann := subAnn [1, 1, 1, 1, 1, 0, 1, 0, 0] ann5
noncomputable def f5c29 : Code := subCode [1, 1, 1, 1, 1, 0, 1, 0, 0, 0] (bodyOf Try.prog 5)
def f5a29 : Ann := subAnn [1, 1, 1, 1, 1, 0, 1, 0, 0, 0] ann5
noncomputable def f5c30 : Code := subCode [1, 1, 1, 1, 1, 0, 1, 0, 0, 1] (bodyOf Try.prog 5)
def f5a30 : Ann := subAnn [1, 1, 1, 1, 1, 0, 1, 0, 0, 1] ann5
noncomputable def f5c31 : Code := subCode [1, 1, 1, 1, 1, 0, 1, 0, 0, 1, 0] (bodyOf Try.prog 5)
def f5a31 : Ann := subAnn [1, 1, 1, 1, 1, 0, 1, 0, 0, 1, 0] ann5
noncomputable def f5c32 : Code := subCode [1, 1, 1, 1, 1, 0, 1, 0, 0, 1, 1] (bodyOf Try.prog 5)
def f5a32 : Ann := subAnn [1, 1, 1, 1, 1, 0, 1, 0, 0, 1, 1] ann5
noncomputable def f5c33 : Code := subCode [1, 1, 1, 1, 1, 0, 1, 0, 0, 1, 0, 0] (bodyOf Try.prog 5)
def f5a33 : Ann := subAnn [1, 1, 1, 1, 1, 0, 1, 0, 0, 1, 0, 0] ann5
noncomputable def f5c34 : Code := subCode [1, 1, 1, 1, 1, 0, 1, 0, 0, 1, 0, 1] (bodyOf Try.prog 5)
def f5a34 : Ann := subAnn [1, 1, 1, 1, 1, 0, 1, 0, 0, 1, 0, 1] ann5
noncomputable def f5c35 : Code := subCode [1, 1, 1, 1, 1, 0, 1, 0, 0, 1, 1, 0] (bodyOf Try.prog 5)
def f5a35 : Ann := subAnn [1, 1, 1, 1, 1, 0, 1, 0, 0, 1, 1, 0] ann5
noncomputable def f5c36 : Code := subCode [1, 1, 1, 1, 1, 0, 1, 0, 0, 1, 1, 1] (bodyOf Try.prog 5)
def f5a36 : Ann := subAnn [1, 1, 1, 1, 1, 0, 1, 0, 0, 1, 1, 1] ann5
noncomputable def f5c37 : Code := subCode [1, 1, 1, 1, 1, 0, 1, 0, 0, 1, 1, 0, 0] (bodyOf Try.prog 5)
def f5a37 : Ann := subAnn [1, 1, 1, 1, 1, 0, 1, 0, 0, 1, 1, 0, 0] ann5
noncomputable def f5c38 : Code := subCode [1, 1, 1, 1, 1, 0, 1, 0, 0, 1, 1, 0, 0, 0] (bodyOf Try.prog 5)
def f5a38 : Ann := subAnn [1, 1, 1, 1, 1, 0, 1, 0, 0, 1, 1, 0, 0, 0] ann5
noncomputable def f5c39 : Code := subCode [1, 1, 1, 1, 1, 0, 1, 0, 0, 1, 1, 0, 0, 1] (bodyOf Try.prog 5)
def f5a39 : Ann := subAnn [1, 1, 1, 1, 1, 0, 1, 0, 0, 1, 1, 0, 0, 1] ann5
noncomputable def f5c40 : Code := subCode [1, 1, 1, 1, 1, 0, 1, 0, 0, 1, 1, 0, 0, 1, 0] (bodyOf Try.prog 5)
def f5a40 : Ann := subAnn [1, 1, 1, 1, 1, 0, 1, 0, 0, 1, 1, 0, 0, 1, 0] ann5
noncomputable def f5c41 : Code := subCode [1, 1, 1, 1, 1, 0, 1, 0, 0, 1, 1, 0, 0, 1, 1] (bodyOf Try.prog 5)
def f5a41 : Ann := subAnn [1, 1, 1, 1, 1, 0, 1, 0, 0, 1, 1, 0, 0, 1, 1] ann5
noncomputable def f5c42 : Code := subCode [1, 1, 1, 1, 1, 0, 1, 0, 0, 1, 1, 0, 0, 1, 1, 0] (bodyOf Try.prog 5)
def f5a42 : Ann := subAnn [1, 1, 1, 1, 1, 0, 1, 0, 0, 1, 1, 0, 0, 1, 1, 0] ann5
noncomputable def f5c43 : Code := subCode [1, 1, 1, 1, 1, 0, 1, 0, 0, 1, 1, 0, 0, 1, 1, 1] (bodyOf Try.prog 5)
def f5a43 : Ann := subAnn [1, 1, 1, 1, 1, 0, 1, 0, 0, 1, 1, 0, 0, 1, 1, 1] ann5
noncomputable def f5c44 : Code := subCode [1, 1, 1, 1, 1, 0, 1, 0, 0, 1, 1, 0, 0, 1, 1, 1, 0] (bodyOf Try.prog 5)
def f5a44 : Ann := subAnn [1, 1, 1, 1, 1, 0, 1, 0, 0, 1, 1, 0, 0, 1, 1, 1, 0] ann5
noncomputable def f5c45 : Code := subCode [1, 1, 1, 1, 1, 0, 1, 0, 0, 1, 1, 0, 0, 1, 1, 1, 1] (bodyOf Try.prog 5)
def f5a45 : Ann := subAnn [1, 1, 1, 1, 1, 0, 1, 0, 0, 1, 1, 0, 0, 1, 1, 1, 1] ann5
noncomputable def f5c46 : Code := subCode [1, 1, 1, 1, 1, 0, 1, 0, 0, 1, 1, 0, 0, 1, 1, 1, 0, 0] (bodyOf Try.prog 5)
def f5a46 : Ann := subAnn [1, 1, 1, 1, 1, 0, 1, 0, 0, 1, 1, 0, 0, 1, 1, 1, 0, 0] ann5
noncomputable def f5c47 : Code := subCode [1, 1, 1, 1, 1, 0, 1, 0, 0, 1, 1, 0, 0, 1, 1, 1, 0, 1] (bodyOf Try.prog 5)
def f5a47 : Ann := subAnn [1, 1, 1, 1, 1, 0, 1, 0, 0, 1, 1, 0, 0, 1, 1, 1, 0, 1] ann5
noncomputable def f5c48 : Code := subCode [1, 1, 1, 1, 1, 0, 1, 0, 0, 1, 1, 0, 0, 1, 1, 1, 0, 1, 0] (bodyOf Try.prog 5)
def f5a48 : Ann := subAnn [1, 1, 1, 1, 1, 0, 1, 0, 0, 1, 1, 0, 0, 1, 1, 1, 0, 1, 0] ann5
noncomputable def f5c49 : Code := subCode [1, 1, 1, 1, 1, 0, 1, 0, 0, 1, 1, 0, 0, 1, 1, 1, 0, 1, 1] (bodyOf Try.prog 5)
def f5a49 : Ann := subAnn [1, 1, 1, 1, 1, 0, 1, 0, 0, 1, 1, 0, 0, 1, 1, 1, 0, 1, 1] ann5
noncomputable def f5c50 : Code := subCode [1, 1, 1, 1, 1, 0, 1, 0, 0, 1, 1, 0, 0, 1, 1, 1, 0, 1, 0, 0] (bodyOf Try.prog 5)
def f5a50 : Ann := subAnn [1, 1, 1, 1, 1, 0, 1, 0, 0, 1, 1, 0, 0, 1, 1, 1, 0, 1, 0, 0] ann5
noncomputable def f5c51 : Code := subCode [1, 1, 1, 1, 1, 0, 1, 0, 0, 1, 1, 0, 0, 1, 1, 1, 0, 1, 0, 1] (bodyOf Try.prog 5)
def f5a51 : Ann := subAnn [1, 1, 1, 1, 1, 0, 1, 0, 0, 1, 1, 0, 0, 1, 1, 1, 0, 1, 0, 1] ann5
noncomputable def f5c52 : Code := subCode [1, 1, 1, 1, 1, 0, 1, 0, 0, 1, 1, 0, 0, 1, 1, 1, 1, 0] (bodyOf Try.prog 5)
def f5a52 : Ann := subAnn [1, 1, 1, 1, 1, 0, 1, 0, 0, 1, 1, 0, 0, 1, 1, 1, 1, 0] ann5
noncomputable def f5c53 : Code := subCode [1, 1, 1, 1, 1, 0, 1, 0, 0, 1, 1, 0, 0, 1, 1, 1, 1, 1] (bodyOf Try.prog 5)
def f5a53 : Ann := subAnn [1, 1, 1, 1, 1, 0, 1, 0, 0, 1, 1, 0, 0, 1, 1, 1, 1, 1] ann5
noncomputable def f5c54 : Code := subCode [1, 1, 1, 1, 1, 0, 1, 0, 0, 1, 1, 0, 0, 1, 1, 1, 1, 1, 0] (bodyOf Try.prog 5)
def f5a54 : Ann := subAnn [1, 1, 1, 1, 1, 0, 1, 0, 0, 1, 1, 0, 0, 1, 1, 1, 1, 1, 0] ann5
noncomputable def f5c55 : Code := subCode [1, 1, 1, 1, 1, 0, 1, 0, 0, 1, 1, 0, 0, 1, 1, 1, 1, 1, 1] (bodyOf Try.prog 5)
def f5a55 : Ann := subAnn [1, 1, 1, 1, 1, 0, 1, 0, 0, 1, 1, 0, 0, 1, 1, 1, 1, 1, 1] ann5
noncomputable def f5c56 : Code := subCode [1, 1, 1, 1, 1, 0, 1, 0, 0, 1, 1, 0, 0, 1, 1, 1, 1, 1, 1, 0] (bodyOf Try.prog 5)
def f5a56 : Ann := subAnn [1, 1, 1, 1, 1, 0, 1, 0, 0, 1, 1, 0, 0, 1, 1, 1, 1, 1, 1, 0] ann5
noncomputable def f5c57 : Code := subCode [1, 1, 1, 1, 1, 0, 1, 0, 0, 1, 1, 0, 0, 1, 1, 1, 1, 1, 1, 1] (bodyOf Try.prog 5)
def f5a57 : Ann := subAnn [1, 1, 1, 1, 1, 0, 1, 0, 0, 1, 1, 0, 0, 1, 1, 1, 1, 1, 1, 1] ann5
noncomputable def f5c58 : Code := subCode [1, 1, 1, 1, 1, 0, 1, 0, 0, 1, 1, 0, 0, 1, 1, 1, 1, 1, 1, 0, 0] (bodyOf Try.prog 5)
def f5a58 : Ann := subAnn [1, 1, 1, 1, 1, 0, 1, 0, 0, 1, 1, 0, 0, 1, 1, 1, 1, 1, 1, 0, 0] ann5
noncomputable def f5c59 : Code := subCode [1, 1, 1, 1, 1, 0, 1, 0, 0, 1, 1, 0, 0, 1, 1, 1, 1, 1, 1, 0, 1] (bodyOf Try.prog 5)
def f5a59 : Ann := subAnn [1, 1, 1, 1, 1, 0, 1, 0, 0, 1, 1, 0, 0, 1, 1, 1, 1, 1, 1, 0, 1] ann5
noncomputable def f5c60 : Code := subCode [1, 1, 1, 1, 1, 0, 1, 0, 0, 1, 1, 0, 0, 1, 1, 1, 1, 1, 1, 0, 1, 0] (bodyOf Try.prog 5)
def f5a60 : Ann := subAnn [1, 1, 1, 1, 1, 0, 1, 0, 0, 1, 1, 0, 0, 1, 1, 1, 1, 1, 1, 0, 1, 0] ann5
noncomputable def f5c61 : Code := subCode [1, 1, 1, 1, 1, 0, 1, 0, 0, 1, 1, 0, 0, 1, 1, 1, 1, 1, 1, 0, 1, 1] (bodyOf Try.prog 5)
def f5a61 : Ann := subAnn [1, 1, 1, 1, 1, 0, 1, 0, 0, 1, 1, 0, 0, 1, 1, 1, 1, 1, 1, 0, 1, 1] ann5
noncomputable def f5c62 : Code := subCode [1, 1, 1, 1, 1, 0, 1, 0, 0, 1, 1, 0, 0, 1, 1, 1, 1, 1, 1, 0, 1, 0, 0] (bodyOf Try.prog 5)
def f5a62 : Ann := subAnn [1, 1, 1, 1, 1, 0, 1, 0, 0, 1, 1, 0, 0, 1, 1, 1, 1, 1, 1, 0, 1, 0, 0] ann5
noncomputable def f5c63 : Code := subCode [1, 1, 1, 1, 1, 0, 1, 0, 0, 1, 1, 0, 0, 1, 1, 1, 1, 1, 1, 0, 1, 0, 1] (bodyOf Try.prog 5)
def f5a63 : Ann := subAnn [1, 1, 1, 1, 1, 0, 1, 0, 0, 1, 1, 0, 0, 1, 1, 1, 1, 1, 1, 0, 1, 0, 1] ann5
noncomputable def f5c64 : Code := subCode [1, 1, 1, 1, 1, 0, 1, 0, 0, 1, 1, 0, 0, 1, 1, 1, 1, 1, 1, 1, 0] (bodyOf Try.prog 5)
def f5a64 : Ann := subAnn [1, 1, 1, 1, 1, 0, 1, 0, 0, 1, 1, 0, 0, 1, 1, 1, 1, 1, 1, 1, 0] ann5
noncomputable def f5c65 : Code := subCode [1, 1, 1, 1, 1, 0, 1, 0, 0, 1, 1, 0, 0, 1, 1, 1, 1, 1, 1, 1, 1] (bodyOf Try.prog 5)
def f5a65 : Ann := subAnn [1, 1, 1, 1, 1, 0, 1, 0, 0, 1, 1, 0, 0, 1, 1, 1, 1, 1, 1, 1, 1] ann5
noncomputable def f5c66 : Code := subCode [1, 1, 1, 1, 1, 0, 1, 0, 0, 1, 1, 0, 0, 1, 1, 1, 1, 1, 1, 1, 1, 0] (bodyOf Try.prog 5)
def f5a66 : Ann := subAnn [1, 1, 1, 1, 1, 0, 1, 0, 0, 1, 1, 0, 0, 1, 1, 1, 1, 1, 1, 1, 1, 0] ann5
noncomputable def f5c67 : Code := subCode [1, 1, 1, 1, 1, 0, 1, 0, 0, 1, 1, 0, 0, 1, 1, 1, 1, 1, 1, 1, 1, 0, 0] (bodyOf Try.prog 5)
def f5a67 : Ann := subAnn [1, 1, 1, 1, 1, 0, 1, 0, 0, 1, 1, 0, 0, 1, 1, 1, 1, 1, 1, 1, 1, 0, 0] ann5
noncomputable def f5c68 : Code := subCode [1, 1, 1, 1, 1, 0, 1, 0, 0, 1, 1, 0, 0, 1, 1, 1, 1, 1, 1, 1, 1, 0, 0, 0] (bodyOf Try.prog 5)
def f5a68 : Ann := subAnn [1, 1, 1, 1, 1, 0, 1, 0, 0, 1, 1, 0, 0, 1, 1, 1, 1, 1, 1, 1, 1, 0, 0, 0] ann5
noncomputable def f5c69 : Code := subCode [1, 1, 1, 1, 1, 0, 1, 0, 0, 1, 1, 0, 0, 1, 1, 1, 1, 1, 1, 1, 1, 0, 0, 1] (bodyOf Try.prog 5)
def f5a69 : Ann := subAnn [1, 1, 1, 1, 1, 0, 1, 0, 0, 1, 1, 0, 0, 1, 1, 1, 1, 1, 1, 1, 1, 0, 0, 1] ann5
noncomputable def f5c70 : Code := subCode [1, 1, 1, 1, 1, 0, 1, 0, 0, 1, 1, 0, 0, 1, 1, 1, 1, 1, 1, 1, 1, 0, 0, 0, 0] (bodyOf Try.prog 5)
def f5a70 : Ann := subAnn [1, 1, 1, 1, 1, 0, 1, 0, 0, 1, 1, 0, 0, 1, 1, 1, 1, 1, 1, 1, 1, 0, 0, 0, 0] ann5
noncomputable def f5c71 : Code := subCode [1, 1, 1, 1, 1, 0, 1, 0, 0, 1, 1, 0, 0, 1, 1, 1, 1, 1, 1, 1, 1, 0, 0, 0, 1] (bodyOf Try.prog 5)
def f5a71 : Ann := subAnn [1, 1, 1, 1, 1, 0, 1, 0, 0, 1, 1, 0, 0, 1, 1, 1, 1, 1, 1, 1, 1, 0, 0, 0, 1] ann5
noncomputable def f5c72 : Code := subCode [1, 1, 1, 1, 1, 0, 1, 0, 0, 1, 1, 0, 0, 1, 1, 1, 1, 1, 1, 1, 1, 0, 0, 0, 1, 0] (bodyOf Try.prog 5)
def f5a72 : Ann := subAnn [1, 1, 1, 1, 1, 0, 1, 0, 0, 1, 1, 0, 0, 1, 1, 1, 1, 1, 1, 1, 1, 0, 0, 0, 1, 0] ann5
noncomputable def f5c73 : Code := subCode [1, 1, 1, 1, 1, 0, 1, 0, 0, 1, 1, 0, 0, 1, 1, 1, 1, 1, 1, 1, 1, 0, 0, 0, 1, 1] (bodyOf Try.prog 5)
def f5a73 : Ann := subAnn [1, 1, 1, 1, 1, 0, 1, 0, 0, 1, 1, 0, 0, 1, 1, 1, 1, 1, 1, 1, 1, 0, 0, 0, 1, 1] ann5
noncomputable def f5c74 : Code := subCode [1, 1, 1, 1, 1, 0, 1, 0, 0, 1, 1, 0, 0, 1, 1, 1, 1, 1, 1, 1, 1, 0, 0, 1, 0] (bodyOf Try.prog 5)
def f5a74 : Ann := subAnn [1, 1, 1, 1, 1, 0, 1, 0, 0, 1, 1, 0, 0, 1, 1, 1, 1, 1, 1, 1, 1, 0, 0, 1, 0] ann5
noncomputable def f5c75 : Code := subCode [1, 1, 1, 1, 1, 0, 1, 0, 0, 1, 1, 0, 0, 1, 1, 1, 1, 1, 1, 1, 1, 0, 0, 1, 1] (bodyOf Try.prog 5)
def f5a75 : Ann := subAnn [1, 1, 1, 1, 1, 0, 1, 0, 0, 1, 1, 0, 0, 1, 1, 1, 1, 1, 1, 1, 1, 0, 0, 1, 1] ann5
noncomputable def f5c76 : Code := subCode [1, 1, 1, 1, 1, 0, 1, 0, 0, 1, 1, 0, 0, 1, 1, 1, 1, 1, 1, 1, 1, 0, 0, 1, 0, 0] (bodyOf Try.prog 5)
def f5a76 : Ann := subAnn [1, 1, 1, 1, 1, 0, 1, 0, 0, 1, 1, 0, 0, 1, 1, 1, 1, 1, 1, 1, 1, 0, 0, 1, 0, 0] ann5
noncomputable def f5c77 : Code := subCode [1, 1, 1, 1, 1, 0, 1, 0, 0, 1, 1, 0, 0, 1, 1, 1, 1, 1, 1, 1, 1, 0, 0, 1, 0, 0, 0] (bodyOf Try.prog 5)
def f5a77 : Ann := subAnn [1, 1, 1, 1, 1, 0, 1, 0, 0, 1, 1, 0, 0, 1, 1, 1, 1, 1, 1, 1, 1, 0, 0, 1, 0, 0, 0] ann5
noncomputable def f5c78 : Code := subCode [1, 1, 1, 1, 1, 0, 1, 0, 0, 1, 1, 0, 0, 1, 1, 1, 1, 1, 1, 1, 1, 0, 0, 1, 0, 0, 1] (bodyOf Try.prog 5)
def f5a78 : Ann := subAnn [1, 1, 1, 1, 1, 0, 1, 0, 0, 1, 1, 0, 0, 1, 1, 1, 1, 1, 1, 1, 1, 0, 0, 1, 0, 0, 1] ann5
noncomputable def f5c79 : Code := subCode [1, 1, 1, 1, 1, 0, 1, 0, 0, 1, 1, 0, 0, 1, 1, 1, 1, 1, 1, 1, 1, 0, 0, 1, 0, 0, 1, 0] (bodyOf Try.prog 5)
def f5a79 : Ann := subAnn [1, 1, 1, 1, 1, 0, 1, 0, 0, 1, 1, 0, 0, 1, 1, 1, 1, 1, 1, 1, 1, 0, 0, 1, 0, 0, 1, 0] ann5
noncomputable def f5c80 : Code := subCode [1, 1, 1, 1, 1, 0, 1, 0, 0, 1, 1, 0, 0, 1, 1, 1, 1, 1, 1, 1, 1, 0, 0, 1, 0, 0, 1, 1] (bodyOf Try.prog 5)
def f5a80 : Ann := subAnn [1, 1, 1, 1, 1, 0, 1, 0, 0, 1, 1, 0, 0, 1, 1, 1, 1, 1, 1, 1, 1, 0, 0, 1, 0, 0, 1, 1] ann5
noncomputable def f5c81 : Code := subCode [1, 1, 1, 1, 1, 0, 1, 0, 0, 1, 1, 0, 0, 1, 1, 1, 1, 1, 1, 1, 1, 0, 0, 1, 0, 0, 1, 1, 0] (bodyOf Try.prog 5)
def f5a81 : Ann := subAnn [1, 1, 1, 1, 1, 0, 1, 0, 0, 1, 1, 0, 0, 1, 1, 1, 1, 1, 1, 1, 1, 0, 0, 1, 0, 0, 1, 1, 0] ann5
noncomputable def f5c82 : Code := subCode [1, 1, 1, 1, 1, 0, 1, 0, 0, 1, 1, 0, 0, 1, 1, 1, 1, 1, 1, 1, 1, 0, 0, 1, 0, 0, 1, 1, 1] (bodyOf Try.prog 5)
def f5a82 : Ann := subAnn [1, 1, 1, 1, 1, 0, 1, 0, 0, 1, 1, 0, 0, 1, 1, 1, 1, 1, 1, 1, 1, 0, 0, 1, 0, 0, 1, 1, 1] ann5
noncomputable def f5c83 : Code := subCode [1, 1, 1, 1, 1, 0, 1, 0, 0, 1, 1, 0, 0, 1, 1, 1, 1, 1, 1, 1, 1, 0, 0, 1, 0, 0, 1, 1, 1, 0] (bodyOf Try.prog 5)
def f5a83 : Ann := subAnn [1, 1, 1, 1, 1, 0, 1, 0, 0, 1, 1, 0, 0, 1, 1, 1, 1, 1, 1, 1, 1, 0, 0, 1, 0, 0, 1, 1, 1, 0] ann5
noncomputable def f5c84 : Code := subCode [1, 1, 1, 1, 1, 0, 1, 0, 0, 1, 1, 0, 0, 1, 1, 1, 1, 1, 1, 1, 1, 0, 0, 1, 0, 0, 1, 1, 1, 1] (bodyOf Try.prog 5)
def f5a84 : Ann := subAnn [1, 1, 1, 1, 1, 0, 1, 0, 0, 1, 1, 0, 0, 1, 1, 1, 1, 1, 1, 1, 1, 0, 0, 1, 0, 0, 1, 1, 1, 1] ann5
noncomputable def f5c85 : Code := subCode [1, 1, 1, 1, 1, 0, 1, 0, 0, 1, 1, 0, 0, 1, 1, 1, 1, 1, 1, 1, 1, 0, 0, 1, 0, 0, 1, 1, 1, 1, 0] (bodyOf Try.prog 5)
def f5a85 : Ann := subAnn [1, 1, 1, 1, 1, 0, 1, 0, 0, 1, 1, 0, 0, 1, 1, 1, 1, 1, 1, 1, 1, 0, 0, 1, 0, 0, 1, 1, 1, 1, 0] ann5
noncomputable def f5c86 : Code := subCode [1, 1, 1, 1, 1, 0, 1, 0, 0, 1, 1, 0, 0, 1, 1, 1, 1, 1, 1, 1, 1, 0, 0, 1, 0, 0, 1, 1, 1, 1, 1] (bodyOf Try.prog 5)
def f5a86 : Ann := subAnn [1, 1, 1, 1, 1, 0, 1, 0, 0, 1, 1, 0, 0, 1, 1, 1, 1, 1, 1, 1, 1, 0, 0, 1, 0, 0, 1, 1, 1, 1, 1] ann5
noncomputable def f5c87 : Code := subCode [1, 1, 1, 1, 1, 0, 1, 0, 0, 1, 1, 0, 0, 1, 1, 1, 1, 1, 1, 1, 1, 0, 0, 1, 0, 0, 1, 1, 1, 1, 1, 0] (bodyOf Try.prog 5)
def f5a87 : Ann := subAnn [1, 1, 1, 1, 1, 0, 1, 0, 0, 1, 1, 0, 0, 1, 1, 1, 1, 1, 1, 1, 1, 0, 0, 1, 0, 0, 1, 1, 1, 1, 1, 0] ann5
noncomputable def f5c88 : Code := subCode [1, 1, 1, 1, 1, 0, 1, 0, 0, 1, 1, 0, 0, 1, 1, 1, 1, 1, 1, 1, 1, 0, 0, 1, 0, 0, 1, 1, 1, 1, 1, 1] (bodyOf Try.prog 5)
def f5a88 : Ann := subAnn [1, 1, 1, 1, 1, 0, 1, 0, 0, 1, 1, 0, 0, 1, 1, 1, 1, 1, 1, 1, 1, 0, 0, 1, 0, 0, 1, 1, 1, 1, 1, 1] ann5
noncomputable def f5c89 : Code := subCode [1, 1, 1, 1, 1, 0, 1, 0, 0, 1, 1, 0, 0, 1, 1, 1, 1, 1, 1, 1, 1, 0, 0, 1, 0, 0, 1, 1, 1, 1, 1, 0, 0] (bodyOf Try.prog 5)
def f5a89 : Ann := subAnn [1, 1, 1, 1, 1, 0, 1, 0, 0, 1, 1, 0, 0, 1, 1, 1, 1, 1, 1, 1, 1, 0, 0, 1, 0, 0, 1, 1, 1, 1, 1, 0, 0] ann5
noncomputable def f5c90 : Code := subCode [1, 1, 1, 1, 1, 0, 1, 0, 0, 1, 1, 0, 0, 1, 1, 1, 1, 1, 1, 1, 1, 0, 0, 1, 0, 0, 1, 1, 1, 1, 1, 0, 1] (bodyOf Try.prog 5)
def f5a90 : Ann := subAnn [1, 1, 1, 1, 1, 0, 1, 0, 0, 1, 1, 0, 0, 1, 1, 1, 1, 1, 1, 1, 1, 0, 0, 1, 0, 0, 1, 1, 1, 1, 1, 0, 1] ann5
noncomputable def f5c91 : Code := subCode [1, 1, 1, 1, 1, 1, 0] (bodyOf Try.prog 5)
def f5a91 : Ann := subAnn [1, 1, 1, 1, 1, 1, 0] ann5
noncomputable def f5c92 : Code := subCode [1, 1, 1, 1, 1, 1, 1] (bodyOf Try.prog 5)
def f5a92 : Ann := subAnn [1, 1, 1, 1, 1, 1, 1] ann5
noncomputable def f5L27 {R : Type} (call : CallF R) (N : Nat) : KF R → Env → St → Option R := fun K e σ => runK Try.prog call N f5c28 f5a28 K e σ
noncomputable def f5L66 {R : Type} (call : CallF R) (N : Nat) : KF R → Env → St → Option R := fun K e σ => runK Try.prog call N f5c67 f5a67 K e σ
def f5e0 (y0 : Int) (y1 : Int) (y2 : Int) (y3 : Option (Nat × Nat)) (y4 : Nat) (y5 : Option Nat) : Env := AV.agg [AV.int IntKind.i64 y0, AV.int IntKind.i64 y1, AV.int IntKind.i64 y2] :: AV.slice y3 y4 y5 (4 : Nat) :: Env.sp 199 []
def f5e1 (y0 : Int) (y1 : Int) (y2 : Int) (y3 : Option (Nat × Nat)) (y4 : Nat) (y5 : Option Nat) (y6 : Nat) (y7 : Bool) : Env := AV.agg [AV.int IntKind.i64 y0, AV.int IntKind.i64 y1, AV.int IntKind.i64 y2] :: AV.slice y3 y4 y5 (4 : Nat) :: AV.ptr (some (y6, (0 : Nat))) :: Env.sp 1 (AV.bool y7 :: Env.sp 196 [])
def f5e2 (y0 : Option (Nat × Nat)) (y1 : Nat) (y2 : Option Nat) (y3 : Nat) : Env := Env.sp 1 (AV.slice y0 y1 y2 (4 : Nat) :: AV.ptr (some (y3, (0 : Nat))) :: Env.sp 198 [])
def f5e3 (y0 : Option (Nat × Nat)) (y1 : Nat) (y2 : Option Nat) (y3 : Nat) (y4 : Option (Nat × Nat)) (y5 : Int) (y6 : Option (Nat × Nat)) (y7 : Int) (y8 : Nat) (y9 : Int) (y10 : Nat) (y11 : Int) (y12 : Nat) (y13 : Int) (y14 : Option (Nat × Nat)) (y15 : Int) (y16 : Option (Nat × Nat)) (y17 : Int) : Env := Env.sp 1 (AV.slice y0 y1 y2 (4 : Nat) :: AV.ptr (some (y3, (0 : Nat))) :: Env.sp 2 (AV.ptr y4 :: AV.int IntKind.i64 y5 :: Env.sp 22 (AV.tuple [AV.ptr y6, AV.int IntKind.i64 y7] :: AV.ptr (some (y8, (0 : Nat))) :: AV.int IntKind.i64 y9 :: AV.ptr (some (y10, (1 : Nat))) :: AV.int IntKind.i64 y11 :: AV.ptr (some (y12, (2 : Nat))) :: AV.int IntKind.i64 y13 :: AV.tuple [AV.ptr y14, AV.int IntKind.i64 y15] :: AV.ptr y16 :: AV.int IntKind.i64 y17 :: Env.sp 162 [])))
def f5e4 (y0 : Option (Nat × Nat)) (y1 : Nat) (y2 : Option Nat) (y3 : Nat) (y4 : Option (Nat × Nat)) (y5 : Int) : Env := Env.sp 1 (AV.slice y0 y1 y2 (4 : Nat) :: AV.ptr (some (y3, (0 : Nat))) :: Env.sp 2 (AV.ptr y4 :: AV.int IntKind.i64 y5 :: Env.sp 194 []))
def f5e5 (y0 : Option (Nat × Nat)) (y1 : Nat) (y2 : Option Nat) (y3 : Nat) (y4 : Option (Nat × Nat)) (y5 : Int) (y6 : Option (Nat × Nat)) (y7 : Int) (y8 : Option (Nat × Nat)) (y9 : Int) (y10 : Nat) (y11 : Int) (y12 : Nat) (y13 : Int) (y14 : Nat) (y15 : Int) (y16 : Option (Nat × Nat)) (y17 : Int) (y18 : Option (Nat × Nat)) (y19 : Int) : Env := Env.sp 1 (AV.slice y0 y1 y2 (4 : Nat) :: AV.ptr (some (y3, (0 : Nat))) :: Env.sp 2 (AV.ptr y4 :: AV.int IntKind.i64 y5 :: AV.ptr y6 :: AV.int IntKind.i64 y7 :: Env.sp 30 (AV.tuple [AV.ptr y8, AV.int IntKind.i64 y9] :: AV.ptr (some (y10, (0 : Nat))) :: AV.int IntKind.i64 y11 :: AV.ptr (some (y12, (1 : Nat))) :: AV.int IntKind.i64 y13 :: AV.ptr (some (y14, (2 : Nat))) :: AV.int IntKind.i64 y15 :: AV.tuple [AV.ptr y16, AV.int IntKind.i64 y17] :: AV.ptr y18 :: AV.int IntKind.i64 y19 :: Env.sp 152 [])))
def f5e6 (y0 : Option (Nat × Nat)) (y1 : Nat) (y2 : Option Nat) (y3 : Option (Nat × Nat)) (y4 : Int) (y5 : Option (Nat × Nat)) (y6 : Int) : Env := Env.sp 1 (AV.slice y0 y1 y2 (4 : Nat) :: Env.sp 3 (AV.ptr y3 :: AV.int IntKind.i64 y4 :: AV.ptr y5 :: AV.int IntKind.i64 y6 :: Env.sp 192 []))
def f5e7 (y0 : Option (Nat × Nat)) (y1 : Nat) (y2 : Option Nat) (y3 : Option (Nat × Nat)) (y4 : Int) (y5 : Option (Nat × Nat)) (y6 : Int) (y7 : Int) (y8 : Int) (y9 : Bool) (y10 : Bool) (y11 : Bool) : Env := Env.sp 1 (AV.slice y0 y1 y2 (4 : Nat) :: Env.sp 3 (AV.ptr y3 :: AV.int IntKind.i64 y4 :: AV.ptr y5 :: AV.int IntKind.i64 y6 :: Env.sp 40 (AV.int IntKind.i64 y7 :: AV.int IntKind.i64 y8 :: AV.bool y9 :: AV.bool y10 :: AV.tuple [] :: AV.tuple [] :: AV.tuple [] :: AV.tuple [] :: AV.tuple [] :: AV.bool y11 :: Env.sp 142 [])))
def f5e8 (y0 : Option (Nat × Nat)) (y1 : Nat) (y2 : Option Nat) (y3 : Option (Nat × Nat)) (y4 : Int) (y5 : Option (Nat × Nat)) (y6 : Int) (y7 : Int) (y8 : Int) (y9 : Bool) (y10 : Bool) (y11 : Option (Nat × Nat)) (y12 : Bool) (y13 : Option (Nat × Nat)) (y14 : Bool) (y15 : Bool) (y16 : Bool) : Env := Env.sp 1 (AV.slice y0 y1 y2 (4 : Nat) :: Env.sp 3 (AV.ptr y3 :: AV.int IntKind.i64 y4 :: AV.ptr y5 :: AV.int IntKind.i64 y6 :: Env.sp 40 (AV.int IntKind.i64 y7 :: AV.int IntKind.i64 y8 :: AV.bool y9 :: AV.bool y10 :: AV.ptr y11 :: AV.bool y12 :: AV.ptr y13 :: AV.bool y14 :: AV.bool y15 :: AV.bool y16 :: Env.sp 142 [])))
def f5e9 (y0 : Option (Nat × Nat)) (y1 : Nat) (y2 : Option Nat) (y3 : Option (Nat × Nat)) (y4 : Option (Nat × Nat)) (y5 : Int) (y6 : Bool) : Env := Env.sp 1 (AV.slice y0 y1 y2 (4 : Nat) :: Env.sp 3 (AV.ptr y3 :: Env.sp 1 (AV.ptr y4 :: AV.int IntKind.i64 y5 :: Env.sp 49 (AV.bool y6 :: Env.sp 142 []))))
def f5e10 (y0 : Option (Nat × Nat)) (y1 : Nat) (y2 : Option Nat) (y3 : Bool) (y4 : Option (Nat × Nat)) (y5 : Option (Nat × Nat)) (y6 : Int) (y7 : Bool) : Env := Env.sp 1 (AV.slice y0 y1 y2 (4 : Nat) :: Env.sp 2 (AV.bool y3 :: AV.ptr y4 :: Env.sp 1 (AV.ptr y5 :: AV.int IntKind.i64 y6 :: Env.sp 49 (AV.bool y7 :: Env.sp 142 []))))
def f5e11 (y0 : Bool) : Env := Env.sp 4 (AV.bool y0 :: Env.sp 196 [])
def f5e12 (y0 : Option (Nat × Nat)) (y1 : Nat) (y2 : Option Nat) (y3 : Option (Nat × Nat)) (y4 : Option (Nat × Nat)) (y5 : Int) : Env := Env.sp 1 (AV.slice y0 y1 y2 (4 : Nat) :: Env.sp 3 (AV.ptr y3 :: Env.sp 1 (AV.ptr y4 :: AV.int IntKind.i64 y5 :: Env.sp 192 [])))
def f5e13 (y0 : Option (Nat × Nat)) (y1 : Nat) (y2 : Option Nat) (y3 : Option (Nat × Nat)) (y4 : Option (Nat × Nat)) (y5 : Int) (y6 : Int) (y7 : Bool) (y8 : Bool) (y9 : Bool) : Env := Env.sp 1 (AV.slice y0 y1 y2 (4 : Nat) :: Env.sp 3 (AV.ptr y3 :: Env.sp 1 (AV.ptr y4 :: AV.int IntKind.i64 y5 :: Env.sp 50 (AV.int IntKind.i64 y6 :: AV.bool y7 :: AV.bool y8 :: AV.tuple [] :: AV.tuple [] :: AV.tuple [] :: AV.bool y9 :: Env.sp 135 []))))
def f5e14 (y0 : Option (Nat × Nat)) (y1 : Nat) (y2 : Option Nat) (y3 : Option (Nat × Nat)) (y4 : Option (Nat × Nat)) (y5 : Int) (y6 : Int) (y7 : Bool) (y8 : Bool) (y9 : Option (Nat × Nat)) (y10 : Nat) (y11 : Option Nat) (y12 : Int) (y13 : Bool) (y14 : Bool) : Env := Env.sp 1 (AV.slice y0 y1 y2 (4 : Nat) :: Env.sp 3 (AV.ptr y3 :: Env.sp 1 (AV.ptr y4 :: AV.int IntKind.i64 y5 :: Env.sp 50 (AV.int IntKind.i64 y6 :: AV.bool y7 :: AV.bool y8 :: AV.slice y9 y10 y11 (4 : Nat) :: AV.int IntKind.i64 y12 :: AV.bool y13 :: AV.bool y14 :: Env.sp 135 []))))
def f5e15 (y0 : Option (Nat × Nat)) (y1 : Nat) (y2 : Option Nat) (y3 : Option (Nat × Nat)) (y4 : Option (Nat × Nat)) (y5 : Bool) : Env := Env.sp 1 (AV.slice y0 y1 y2 (4 : Nat) :: Env.sp 3 (AV.ptr y3 :: Env.sp 1 (AV.ptr y4 :: Env.sp 57 (AV.bool y5 :: Env.sp 135 []))))
def f5e16 (y0 : Option (Nat × Nat)) (y1 : Nat) (y2 : Option Nat) (y3 : Bool) (y4 : Option (Nat × Nat)) (y5 : Option (Nat × Nat)) (y6 : Bool) (y7 : Bool) : Env := Env.sp 1 (AV.slice y0 y1 y2 (4 : Nat) :: Env.sp 2 (AV.bool y3 :: AV.ptr y4 :: Env.sp 1 (AV.ptr y5 :: Env.sp 57 (AV.bool y6 :: AV.bool y7 :: Env.sp 134 []))))
def f5e17 (y0 : Option (Nat × Nat)) (y1 : Nat) (y2 : Option Nat) (y3 : Option (Nat × Nat)) (y4 : Option (Nat × Nat)) : Env := Env.sp 1 (AV.slice y0 y1 y2 (4 : Nat) :: Env.sp 3 (AV.ptr y3 :: Env.sp 1 (AV.ptr y4 :: Env.sp 193 [])))
def f5e18 (y0 : Option (Nat × Nat)) (y1 : Nat) (y2 : Option Nat) (y3 : Option (Nat × Nat)) (y4 : Option (Nat × Nat)) (y5 : Option (Nat × Nat)) (y6 : Nat) (y7 : Option Nat) (y8 : Int) (y9 : Int) : Env := Env.sp 1 (AV.slice y0 y1 y2 (4 : Nat) :: Env.sp 3 (AV.ptr y3 :: Env.sp 1 (AV.ptr y4 :: Env.sp 59 (AV.slice y5 y6 y7 (4 : Nat) :: AV.int IntKind.i64 y8 :: AV.int IntKind.i64 y9 :: Env.sp 131 []))))
def f5e19 (y0 : Option (Nat × Nat)) (y1 : Option (Nat × Nat)) (y2 : Option (Nat × Nat)) (y3 : Nat) (y4 : Option Nat) (y5 : Int) (y6 : Int) : Env := Env.sp 5 (AV.ptr y0 :: Env.sp 1 (AV.ptr y1 :: Env.sp 59 (AV.slice y2 y3 y4 (4 : Nat) :: AV.int IntKind.i64 y5 :: AV.int IntKind.i64 y6 :: Env.sp 131 [])))
def f5e20 (y0 : Option (Nat × Nat)) (y1 : Option (Nat × Nat)) (y2 : Option (Nat × Nat)) (y3 : Nat) (y4 : Option Nat) (y5 : Int) (y6 : Int) (y7 : Bool) : Env := Env.sp 5 (AV.ptr y0 :: Env.sp 1 (AV.ptr y1 :: Env.sp 59 (AV.slice y2 y3 y4 (4 : Nat) :: AV.int IntKind.i64 y5 :: AV.int IntKind.i64 y6 :: AV.bool y7 :: Env.sp 130 [])))
def f5e21 : Env := Env.sp 201 []
def f5e22 (y0 : Option (Nat × Nat)) (y1 : Option (Nat × Nat)) (y2 : Nat) (y3 : Option (Nat × Nat)) (y4 : Nat) (y5 : Option Nat) (y6 : Int) (y7 : Int) (y8 : Option (Nat × Nat)) (y9 : Int) (y10 : Int) (y11 : ByteArray) (y12 : ByteArray) : Env := Env.sp 5 (AV.ptr y0 :: Env.sp 1 (AV.ptr y1 :: Env.sp 2 (AV.ptr (some (y2, (0 : Nat))) :: Env.sp 56 (AV.slice y3 y4 y5 (4 : Nat) :: AV.int IntKind.i64 y6 :: AV.int IntKind.i64 y7 :: Env.sp 1 (AV.ptr y8 :: AV.agg [AV.int IntKind.i64 y9, AV.int IntKind.i64 y10, AV.str y11, AV.str y12] :: Env.sp 128 [])))))
def f5e23 (y0 : Option (Nat × Nat)) (y1 : Option (Nat × Nat)) (y2 : Nat) (y3 : Option (Nat × Nat)) (y4 : Nat) (y5 : Option Nat) (y6 : Int) (y7 : Int) : Env := Env.sp 5 (AV.ptr y0 :: Env.sp 1 (AV.ptr y1 :: Env.sp 2 (AV.ptr (some (y2, (0 : Nat))) :: Env.sp 56 (AV.slice y3 y4 y5 (4 : Nat) :: AV.int IntKind.i64 y6 :: AV.int IntKind.i64 y7 :: Env.sp 131 []))))
def f5e24 (y0 : Option (Nat × Nat)) (y1 : Option (Nat × Nat)) (y2 : Nat) (y3 : Bool) (y4 : Int) (y5 : Option (Nat × Nat)) (y6 : Nat) (y7 : Option Nat) (y8 : Int) (y9 : Int) (y10 : Bool) (y11 : Int) (y12 : Option (Nat × Nat)) (y13 : Nat) (y14 : Int) (y15 : Nat) (y16 : Int) (y17 : Nat) (y18 : ByteArray) (y19 : Nat) (y20 : ByteArray) (y21 : Bool) (y22 : Int) (y23 : Bool) (y24 : Int) : Env := Env.sp 5 (AV.ptr y0 :: Env.sp 1 (AV.ptr y1 :: Env.sp 2 (AV.ptr (some (y2, (0 : Nat))) :: AV.bool y3 :: AV.int IntKind.i64 y4 :: Env.sp 54 (AV.slice y5 y6 y7 (4 : Nat) :: AV.int IntKind.i64 y8 :: AV.int IntKind.i64 y9 :: Env.sp 3 (AV.tuple [AV.bool y10, AV.int IntKind.i64 y11] :: AV.ptr y12 :: AV.ptr (some (y13, (0 : Nat))) :: AV.int IntKind.i64 y14 :: AV.ptr (some (y15, (1 : Nat))) :: AV.int IntKind.i64 y16 :: AV.ptr (some (y17, (2 : Nat))) :: AV.str y18 :: AV.ptr (some (y19, (3 : Nat))) :: AV.str y20 :: AV.tuple [AV.bool y21, AV.int IntKind.i64 y22] :: AV.bool y23 :: AV.int IntKind.i64 y24 :: Env.sp 115 [])))))
def f5e25 (y0 : Option (Nat × Nat)) (y1 : Option (Nat × Nat)) (y2 : Nat) (y3 : Bool) (y4 : Int) (y5 : Option (Nat × Nat)) (y6 : Nat) (y7 : Option Nat) (y8 : Int) (y9 : Int) : Env := Env.sp 5 (AV.ptr y0 :: Env.sp 1 (AV.ptr y1 :: Env.sp 2 (AV.ptr (some (y2, (0 : Nat))) :: AV.bool y3 :: AV.int IntKind.i64 y4 :: Env.sp 54 (AV.slice y5 y6 y7 (4 : Nat) :: AV.int IntKind.i64 y8 :: AV.int IntKind.i64 y9 :: Env.sp 131 []))))
def f5e26 (y0 : Option (Nat × Nat)) (y1 : Option (Nat × Nat)) (y2 : Nat) (y3 : Bool) (y4 : Int) (y5 : Bool) (y6 : Int) (y7 : Option (Nat × Nat)) (y8 : Nat) (y9 : Option Nat) (y10 : Int) (y11 : Int) (y12 : Bool) (y13 : Int) (y14 : Option (Nat × Nat)) (y15 : Nat) (y16 : Int) (y17 : Nat) (y18 : Int) (y19 : Nat) (y20 : ByteArray) (y21 : Nat) (y22 : ByteArray) (y23 : Int) (y24 : Int) (y25 : ByteArray) (y26 : ByteArray) (y27 : Bool) (y28 : Int) (y29 : Bool) (y30 : Int) : Env := Env.sp 5 (AV.ptr y0 :: Env.sp 1 (AV.ptr y1 :: Env.sp 2 (AV.ptr (some (y2, (0 : Nat))) :: AV.bool y3 :: AV.int IntKind.i64 y4 :: AV.bool y5 :: AV.int IntKind.i64 y6 :: Env.sp 52 (AV.slice y7 y8 y9 (4 : Nat) :: AV.int IntKind.i64 y10 :: AV.int IntKind.i64 y11 :: Env.sp 16 (AV.tuple [AV.bool y12, AV.int IntKind.i64 y13] :: AV.ptr y14 :: AV.ptr (some (y15, (0 : Nat))) :: AV.int IntKind.i64 y16 :: AV.ptr (some (y17, (1 : Nat))) :: AV.int IntKind.i64 y18 :: AV.ptr (some (y19, (2 : Nat))) :: AV.str y20 :: AV.ptr (some (y21, (3 : Nat))) :: AV.str y22 :: AV.agg [AV.int IntKind.i64 y23, AV.int IntKind.i64 y24, AV.str y25, AV.str y26] :: AV.tuple [AV.bool y27, AV.int IntKind.i64 y28] :: AV.bool y29 :: AV.int IntKind.i64 y30 :: Env.sp 101 [])))))
def f5e27 (y0 : Option (Nat × Nat)) (y1 : Option (Nat × Nat)) (y2 : Nat) (y3 : Bool) (y4 : Int) (y5 : Bool) (y6 : Int) (y7 : Option (Nat × Nat)) (y8 : Nat) (y9 : Option Nat) (y10 : Int) (y11 : Int) : Env := Env.sp 5 (AV.ptr y0 :: Env.sp 1 (AV.ptr y1 :: Env.sp 2 (AV.ptr (some (y2, (0 : Nat))) :: AV.bool y3 :: AV.int IntKind.i64 y4 :: AV.bool y5 :: AV.int IntKind.i64 y6 :: Env.sp 52 (AV.slice y7 y8 y9 (4 : Nat) :: AV.int IntKind.i64 y10 :: AV.int IntKind.i64 y11 :: Env.sp 131 []))))
def f5e28 (y0 : Option (Nat × Nat)) (y1 : Option (Nat × Nat)) (y2 : Nat) (y3 : Bool) (y4 : Int) (y5 : Bool) (y6 : Int) (y7 : Option (Nat × Nat)) (y8 : Nat) (y9 : Option Nat) (y10 : Int) (y11 : Int) (y12 : Bool) (y13 : Bool) (y14 : Bool) (y15 : Bool) (y16 : Bool) : Env := Env.sp 5 (AV.ptr y0 :: Env.sp 1 (AV.ptr y1 :: Env.sp 2 (AV.ptr (some (y2, (0 : Nat))) :: AV.bool y3 :: AV.int IntKind.i64 y4 :: AV.bool y5 :: AV.int IntKind.i64 y6 :: Env.sp 52 (AV.slice y7 y8 y9 (4 : Nat) :: AV.int IntKind.i64 y10 :: AV.int IntKind.i64 y11 :: Env.sp 30 (AV.bool y12 :: AV.bool y13 :: AV.bool y14 :: AV.bool y15 :: AV.tuple [] :: AV.tuple [] :: AV.tuple [] :: AV.bool y16 :: Env.sp 93 [])))))
def f5e29 (y0 : Option (Nat × Nat)) (y1 : Option (Nat × Nat)) (y2 : Nat) (y3 : Bool) (y4 : Int) (y5 : Bool) (y6 : Int) (y7 : Option (Nat × Nat)) (y8 : Nat) (y9 : Option Nat) (y10 : Int) (y11 : Int) (y12 : Bool) (y13 : Bool) (y14 : Bool) (y15 : Bool) (y16 : Int) (y17 : Int) (y18 : Bool) (y19 : Bool) : Env := Env.sp 5 (AV.ptr y0 :: Env.sp 1 (AV.ptr y1 :: Env.sp 2 (AV.ptr (some (y2, (0 : Nat))) :: AV.bool y3 :: AV.int IntKind.i64 y4 :: AV.bool y5 :: AV.int IntKind.i64 y6 :: Env.sp 52 (AV.slice y7 y8 y9 (4 : Nat) :: AV.int IntKind.i64 y10 :: AV.int IntKind.i64 y11 :: Env.sp 30 (AV.bool y12 :: AV.bool y13 :: AV.bool y14 :: AV.bool y15 :: AV.int IntKind.i64 y16 :: AV.int IntKind.i64 y17 :: AV.bool y18 :: AV.bool y19 :: Env.sp 93 [])))))
def f5e30 (y0 : Option (Nat × Nat)) (y1 : Option (Nat × Nat)) (y2 : Nat) (y3 : Option (Nat × Nat)) (y4 : Nat) (y5 : Option Nat) (y6 : Int) (y7 : Int) (y8 : Bool) : Env := Env.sp 5 (AV.ptr y0 :: Env.sp 1 (AV.ptr y1 :: Env.sp 2 (AV.ptr (some (y2, (0 : Nat))) :: Env.sp 56 (AV.slice y3 y4 y5 (4 : Nat) :: AV.int IntKind.i64 y6 :: AV.int IntKind.i64 y7 :: Env.sp 37 (AV.bool y8 :: Env.sp 93 [])))))
def f5e31 (y0 : Bool) (y1 : Option (Nat × Nat)) (y2 : Option (Nat × Nat)) (y3 : Nat) (y4 : Option (Nat × Nat)) (y5 : Nat) (y6 : Option Nat) (y7 : Int) (y8 : Int) (y9 : Bool) : Env := Env.sp 4 (AV.bool y0 :: AV.ptr y1 :: Env.sp 1 (AV.ptr y2 :: Env.sp 2 (AV.ptr (some (y3, (0 : Nat))) :: Env.sp 56 (AV.slice y4 y5 y6 (4 : Nat) :: AV.int IntKind.i64 y7 :: AV.int IntKind.i64 y8 :: Env.sp 37 (AV.bool y9 :: Env.sp 93 [])))))
def f5e32 (y0 : Option (Nat × Nat)) (y1 : Option (Nat × Nat)) (y2 : Nat) (y3 : ByteArray) (y4 : Bool) (y5 : Option (Nat × Nat)) (y6 : Nat) (y7 : Option Nat) (y8 : Int) (y9 : Int) (y10 : ByteArray) (y11 : Bool) (y12 : Option (Nat × Nat)) (y13 : ByteArray) (y14 : Bool) (y15 : ByteArray) (y16 : Bool) : Env := Env.sp 5 (AV.ptr y0 :: Env.sp 1 (AV.ptr y1 :: Env.sp 2 (AV.ptr (some (y2, (0 : Nat))) :: Env.sp 4 (AV.str y3 :: AV.bool y4 :: Env.sp 50 (AV.slice y5 y6 y7 (4 : Nat) :: AV.int IntKind.i64 y8 :: AV.int IntKind.i64 y9 :: Env.sp 38 (AV.tuple [AV.str y10, AV.bool y11] :: AV.ptr y12 :: AV.tuple [AV.str y13, AV.bool y14] :: AV.str y15 :: AV.bool y16 :: Env.sp 88 []))))))
def f5e33 (y0 : Option (Nat × Nat)) (y1 : Option (Nat × Nat)) (y2 : Nat) (y3 : ByteArray) (y4 : Bool) (y5 : Option (Nat × Nat)) (y6 : Nat) (y7 : Option Nat) (y8 : Int) (y9 : Int) : Env := Env.sp 5 (AV.ptr y0 :: Env.sp 1 (AV.ptr y1 :: Env.sp 2 (AV.ptr (some (y2, (0 : Nat))) :: Env.sp 4 (AV.str y3 :: AV.bool y4 :: Env.sp 50 (AV.slice y5 y6 y7 (4 : Nat) :: AV.int IntKind.i64 y8 :: AV.int IntKind.i64 y9 :: Env.sp 131 [])))))
def f5e34 (y0 : Option (Nat × Nat)) (y1 : Option (Nat × Nat)) (y2 : Nat) (y3 : ByteArray) (y4 : Bool) (y5 : Nat) (y6 : Bool) (y7 : Option (Nat × Nat)) (y8 : Nat) (y9 : Option Nat) (y10 : Int) (y11 : Int) (y12 : Int) (y13 : Int) (y14 : ByteArray) (y15 : ByteArray) (y16 : Bool) (y17 : Option (Nat × Nat)) (y18 : Option (Nat × Nat)) (y19 : Option (Nat × Nat)) (y20 : Option (Nat × Nat)) (y21 : Int) (y22 : Int) (y23 : Int) (y24 : ByteArray) (y25 : ByteArray) (y26 : Bool) (y27 : Int) (y28 : Int) (y29 : ByteArray) (y30 : ByteArray) (y31 : Bool) : Env := Env.sp 5 (AV.ptr y0 :: Env.sp 1 (AV.ptr y1 :: Env.sp 2 (AV.ptr (some (y2, (0 : Nat))) :: Env.sp 4 (AV.str y3 :: AV.bool y4 :: AV.ptr (some (y5, (0 : Nat))) :: AV.bool y6 :: Env.sp 48 (AV.slice y7 y8 y9 (4 : Nat) :: AV.int IntKind.i64 y10 :: AV.int IntKind.i64 y11 :: Env.sp 43 (AV.tuple [AV.agg [AV.int IntKind.i64 y12, AV.int IntKind.i64 y13, AV.str y14, AV.str y15], AV.bool y16] :: AV.ptr y17 :: AV.ptr y18 :: AV.ptr y19 :: AV.ptr y20 :: AV.int IntKind.i64 y21 :: AV.tuple [AV.agg [AV.int IntKind.i64 y22, AV.int IntKind.i64 y23, AV.str y24, AV.str y25], AV.bool y26] :: AV.agg [AV.int IntKind.i64 y27, AV.int IntKind.i64 y28, AV.str y29, AV.str y30] :: AV.bool y31 :: Env.sp 79 []))))))
def f5e35 (y0 : Option (Nat × Nat)) (y1 : Option (Nat × Nat)) (y2 : Nat) (y3 : ByteArray) (y4 : Bool) (y5 : Nat) (y6 : Bool) (y7 : Option (Nat × Nat)) (y8 : Nat) (y9 : Option Nat) (y10 : Int) (y11 : Int) : Env := Env.sp 5 (AV.ptr y0 :: Env.sp 1 (AV.ptr y1 :: Env.sp 2 (AV.ptr (some (y2, (0 : Nat))) :: Env.sp 4 (AV.str y3 :: AV.bool y4 :: AV.ptr (some (y5, (0 : Nat))) :: AV.bool y6 :: Env.sp 48 (AV.slice y7 y8 y9 (4 : Nat) :: AV.int IntKind.i64 y10 :: AV.int IntKind.i64 y11 :: Env.sp 131 [])))))
def f5e36 (y0 : Option (Nat × Nat)) (y1 : Option (Nat × Nat)) (y2 : Nat) (y3 : ByteArray) (y4 : Bool) (y5 : Nat) (y6 : Bool) (y7 : Option (Nat × Nat)) (y8 : Nat) (y9 : Option Nat) (y10 : Int) (y11 : Int) (y12 : Bool) (y13 : Bool) (y14 : Bool) (y15 : Bool) (y16 : Bool) : Env := Env.sp 5 (AV.ptr y0 :: Env.sp 1 (AV.ptr y1 :: Env.sp 2 (AV.ptr (some (y2, (0 : Nat))) :: Env.sp 4 (AV.str y3 :: AV.bool y4 :: AV.ptr (some (y5, (0 : Nat))) :: AV.bool y6 :: Env.sp 48 (AV.slice y7 y8 y9 (4 : Nat) :: AV.int IntKind.i64 y10 :: AV.int IntKind.i64 y11 :: Env.sp 52 (AV.bool y12 :: AV.bool y13 :: AV.bool y14 :: AV.bool y15 :: AV.tuple [] :: AV.tuple [] :: AV.tuple [] :: AV.tuple [] :: AV.bool y16 :: Env.sp 70 []))))))
def f5e37 (y0 : Option (Nat × Nat)) (y1 : Option (Nat × Nat)) (y2 : Nat) (y3 : ByteArray) (y4 : Bool) (y5 : Nat) (y6 : Bool) (y7 : Option (Nat × Nat)) (y8 : Nat) (y9 : Option Nat) (y10 : Int) (y11 : Int) (y12 : Bool) (y13 : Bool) (y14 : Bool) (y15 : Bool) (y16 : ByteArray) (y17 : Nat) (y18 : ByteArray) (y19 : Bool) (y20 : Bool) : Env := Env.sp 5 (AV.ptr y0 :: Env.sp 1 (AV.ptr y1 :: Env.sp 2 (AV.ptr (some (y2, (0 : Nat))) :: Env.sp 4 (AV.str y3 :: AV.bool y4 :: AV.ptr (some (y5, (0 : Nat))) :: AV.bool y6 :: Env.sp 48 (AV.slice y7 y8 y9 (4 : Nat) :: AV.int IntKind.i64 y10 :: AV.int IntKind.i64 y11 :: Env.sp 52 (AV.bool y12 :: AV.bool y13 :: AV.bool y14 :: AV.bool y15 :: AV.str y16 :: AV.ptr (some (y17, (2 : Nat))) :: AV.str y18 :: AV.bool y19 :: AV.bool y20 :: Env.sp 70 []))))))
def f5e38 (y0 : Option (Nat × Nat)) (y1 : Option (Nat × Nat)) (y2 : Nat) (y3 : Option (Nat × Nat)) (y4 : Nat) (y5 : Option Nat) (y6 : Int) (y7 : Int) (y8 : Bool) : Env := Env.sp 5 (AV.ptr y0 :: Env.sp 1 (AV.ptr y1 :: Env.sp 2 (AV.ptr (some (y2, (0 : Nat))) :: Env.sp 56 (AV.slice y3 y4 y5 (4 : Nat) :: AV.int IntKind.i64 y6 :: AV.int IntKind.i64 y7 :: Env.sp 60 (AV.bool y8 :: Env.sp 70 [])))))
def f5e39 (y0 : Bool) (y1 : Option (Nat × Nat)) (y2 : Option (Nat × Nat)) (y3 : Nat) (y4 : Option (Nat × Nat)) (y5 : Nat) (y6 : Option Nat) (y7 : Int) (y8 : Int) (y9 : Bool) : Env := Env.sp 4 (AV.bool y0 :: AV.ptr y1 :: Env.sp 1 (AV.ptr y2 :: Env.sp 2 (AV.ptr (some (y3, (0 : Nat))) :: Env.sp 56 (AV.slice y4 y5 y6 (4 : Nat) :: AV.int IntKind.i64 y7 :: AV.int IntKind.i64 y8 :: Env.sp 60 (AV.bool y9 :: Env.sp 70 [])))))
def f5e40 (y0 : Option (Nat × Nat)) (y1 : Option (Nat × Nat)) (y2 : Nat) (y3 : Int) (y4 : Option (Nat × Nat)) (y5 : Nat) (y6 : Option Nat) (y7 : Int) (y8 : Int) : Env := Env.sp 5 (AV.ptr y0 :: Env.sp 1 (AV.ptr y1 :: Env.sp 2 (AV.ptr (some (y2, (0 : Nat))) :: Env.sp 8 (AV.int IntKind.i64 y3 :: Env.sp 47 (AV.slice y4 y5 y6 (4 : Nat) :: AV.int IntKind.i64 y7 :: AV.int IntKind.i64 y8 :: Env.sp 131 [])))))
def f5e41 (y0 : Option (Nat × Nat)) (y1 : Option (Nat × Nat)) (y2 : Nat) (y3 : Int) (y4 : Option (Nat × Nat)) (y5 : Nat) (y6 : Option Nat) (y7 : Int) (y8 : Int) (y9 : Int) (y10 : Bool) : Env := Env.sp 5 (AV.ptr y0 :: Env.sp 1 (AV.ptr y1 :: Env.sp 2 (AV.ptr (some (y2, (0 : Nat))) :: Env.sp 8 (AV.int IntKind.i64 y3 :: Env.sp 47 (AV.slice y4 y5 y6 (4 : Nat) :: AV.int IntKind.i64 y7 :: AV.int IntKind.i64 y8 :: Env.sp 61 (AV.int IntKind.i64 y9 :: AV.bool y10 :: Env.sp 68 []))))))
def f5e42 (y0 : Option (Nat × Nat)) (y1 : Option (Nat × Nat)) (y2 : Nat) (y3 : Int) (y4 : Option (Nat × Nat)) (y5 : Nat) (y6 : Option Nat) (y7 : Int) (y8 : Int) (y9 : Bool) : Env := Env.sp 5 (AV.ptr y0 :: Env.sp 1 (AV.ptr y1 :: Env.sp 2 (AV.ptr (some (y2, (0 : Nat))) :: Env.sp 8 (AV.int IntKind.i64 y3 :: Env.sp 47 (AV.slice y4 y5 y6 (4 : Nat) :: AV.int IntKind.i64 y7 :: AV.int IntKind.i64 y8 :: Env.sp 62 (AV.bool y9 :: Env.sp 68 []))))))
def f5e43 (y0 : Option (Nat × Nat)) (y1 : Option (Nat × Nat)) (y2 : Nat) (y3 : Int) (y4 : Nat) (y5 : Bool) (y6 : Option (Nat × Nat)) (y7 : Nat) (y8 : Option Nat) (y9 : Int) (y10 : Int) (y11 : ByteArray) (y12 : Int) (y13 : Option (Nat × Nat)) (y14 : Nat) (y15 : Option Nat) (y16 : Bool) (y17 : Option (Nat × Nat)) (y18 : Int) (y19 : ByteArray) (y20 : Int) (y21 : Option (Nat × Nat)) (y22 : Nat) (y23 : Option Nat) (y24 : Bool) (y25 : ByteArray) (y26 : Int) (y27 : Option (Nat × Nat)) (y28 : Nat) (y29 : Option Nat) (y30 : Bool) : Env := Env.sp 5 (AV.ptr y0 :: Env.sp 1 (AV.ptr y1 :: Env.sp 2 (AV.ptr (some (y2, (0 : Nat))) :: Env.sp 8 (AV.int IntKind.i64 y3 :: AV.ptr (some (y4, (0 : Nat))) :: AV.bool y5 :: Env.sp 45 (AV.slice y6 y7 y8 (4 : Nat) :: AV.int IntKind.i64 y9 :: AV.int IntKind.i64 y10 :: Env.sp 65 (AV.tuple [AV.agg [AV.str y11, AV.int IntKind.i64 y12, AV.slice y13 y14 y15 (2 : Nat)], AV.bool y16] :: AV.ptr y17 :: AV.int IntKind.i64 y18 :: AV.tuple [AV.agg [AV.str y19, AV.int IntKind.i64 y20, AV.slice y21 y22 y23 (2 : Nat)], AV.bool y24] :: AV.agg [AV.str y25, AV.int IntKind.i64 y26, AV.slice y27 y28 y29 (2 : Nat)] :: AV.bool y30 :: Env.sp 60 []))))))
def f5e44 (y0 : Option (Nat × Nat)) (y1 : Option (Nat × Nat)) (y2 : Nat) (y3 : Int) (y4 : Nat) (y5 : Bool) (y6 : Option (Nat × Nat)) (y7 : Nat) (y8 : Option Nat) (y9 : Int) (y10 : Int) : Env := Env.sp 5 (AV.ptr y0 :: Env.sp 1 (AV.ptr y1 :: Env.sp 2 (AV.ptr (some (y2, (0 : Nat))) :: Env.sp 8 (AV.int IntKind.i64 y3 :: AV.ptr (some (y4, (0 : Nat))) :: AV.bool y5 :: Env.sp 45 (AV.slice y6 y7 y8 (4 : Nat) :: AV.int IntKind.i64 y9 :: AV.int IntKind.i64 y10 :: Env.sp 131 [])))))
def f5e45 (y0 : Option (Nat × Nat)) (y1 : Option (Nat × Nat)) (y2 : Nat) (y3 : Int) (y4 : Nat) (y5 : Bool) (y6 : Nat) (y7 : Bool) (y8 : Option (Nat × Nat)) (y9 : Nat) (y10 : Option Nat) (y11 : Int) (y12 : Int) (y13 : ByteArray) (y14 : Int) (y15 : Option (Nat × Nat)) (y16 : Nat) (y17 : Option Nat) (y18 : Bool) (y19 : Option (Nat × Nat)) (y20 : Int) (y21 : ByteArray) (y22 : Int) (y23 : Option (Nat × Nat)) (y24 : Nat) (y25 : Option Nat) (y26 : Bool) (y27 : ByteArray) (y28 : Int) (y29 : Option (Nat × Nat)) (y30 : Nat) (y31 : Option Nat) (y32 : Bool) : Env := Env.sp 5 (AV.ptr y0 :: Env.sp 1 (AV.ptr y1 :: Env.sp 2 (AV.ptr (some (y2, (0 : Nat))) :: Env.sp 8 (AV.int IntKind.i64 y3 :: AV.ptr (some (y4, (0 : Nat))) :: AV.bool y5 :: AV.ptr (some (y6, (0 : Nat))) :: AV.bool y7 :: Env.sp 43 (AV.slice y8 y9 y10 (4 : Nat) :: AV.int IntKind.i64 y11 :: AV.int IntKind.i64 y12 :: Env.sp 71 (AV.tuple [AV.agg [AV.str y13, AV.int IntKind.i64 y14, AV.slice y15 y16 y17 (2 : Nat)], AV.bool y18] :: AV.ptr y19 :: AV.int IntKind.i64 y20 :: AV.tuple [AV.agg [AV.str y21, AV.int IntKind.i64 y22, AV.slice y23 y24 y25 (2 : Nat)], AV.bool y26] :: AV.agg [AV.str y27, AV.int IntKind.i64 y28, AV.slice y29 y30 y31 (2 : Nat)] :: AV.bool y32 :: Env.sp 54 []))))))
def f5e46 (y0 : Option (Nat × Nat)) (y1 : Option (Nat × Nat)) (y2 : Nat) (y3 : Int) (y4 : Nat) (y5 : Bool) (y6 : Nat) (y7 : Bool) (y8 : Option (Nat × Nat)) (y9 : Nat) (y10 : Option Nat) (y11 : Int) (y12 : Int) : Env := Env.sp 5 (AV.ptr y0 :: Env.sp 1 (AV.ptr y1 :: Env.sp 2 (AV.ptr (some (y2, (0 : Nat))) :: Env.sp 8 (AV.int IntKind.i64 y3 :: AV.ptr (some (y4, (0 : Nat))) :: AV.bool y5 :: AV.ptr (some (y6, (0 : Nat))) :: AV.bool y7 :: Env.sp 43 (AV.slice y8 y9 y10 (4 : Nat) :: AV.int IntKind.i64 y11 :: AV.int IntKind.i64 y12 :: Env.sp 131 [])))))
def f5e47 (y0 : Option (Nat × Nat)) (y1 : Option (Nat × Nat)) (y2 : Nat) (y3 : Int) (y4 : Nat) (y5 : Bool) (y6 : Nat) (y7 : Bool) (y8 : ByteArray) (y9 : ByteArray) (y10 : Bool) (y11 : Option (Nat × Nat)) (y12 : Nat) (y13 : Option Nat) (y14 : Int) (y15 : Int) (y16 : ByteArray) (y17 : ByteArray) (y18 : Bool) (y19 : Option (Nat × Nat)) (y20 : Int) (y21 : Nat) (y22 : Int) (y23 : ByteArray) (y24 : ByteArray) (y25 : Bool) (y26 : ByteArray) (y27 : ByteArray) (y28 : Bool) : Env := Env.sp 5 (AV.ptr y0 :: Env.sp 1 (AV.ptr y1 :: Env.sp 2 (AV.ptr (some (y2, (0 : Nat))) :: Env.sp 8 (AV.int IntKind.i64 y3 :: AV.ptr (some (y4, (0 : Nat))) :: AV.bool y5 :: AV.ptr (some (y6, (0 : Nat))) :: AV.bool y7 :: AV.str y8 :: AV.str y9 :: AV.bool y10 :: Env.sp 40 (AV.slice y11 y12 y13 (4 : Nat) :: AV.int IntKind.i64 y14 :: AV.int IntKind.i64 y15 :: Env.sp 77 (AV.tuple [AV.str y16, AV.str y17, AV.bool y18] :: AV.ptr y19 :: AV.int IntKind.i64 y20 :: AV.ptr (some (y21, (1 : Nat))) :: AV.int IntKind.i64 y22 :: AV.tuple [AV.str y23, AV.str y24, AV.bool y25] :: AV.str y26 :: AV.str y27 :: AV.bool y28 :: Env.sp 45 []))))))
def f5e48 (y0 : Option (Nat × Nat)) (y1 : Option (Nat × Nat)) (y2 : Nat) (y3 : Int) (y4 : Nat) (y5 : Bool) (y6 : Nat) (y7 : Bool) (y8 : ByteArray) (y9 : ByteArray) (y10 : Bool) (y11 : Option (Nat × Nat)) (y12 : Nat) (y13 : Option Nat) (y14 : Int) (y15 : Int) : Env := Env.sp 5 (AV.ptr y0 :: Env.sp 1 (AV.ptr y1 :: Env.sp 2 (AV.ptr (some (y2, (0 : Nat))) :: Env.sp 8 (AV.int IntKind.i64 y3 :: AV.ptr (some (y4, (0 : Nat))) :: AV.bool y5 :: AV.ptr (some (y6, (0 : Nat))) :: AV.bool y7 :: AV.str y8 :: AV.str y9 :: AV.bool y10 :: Env.sp 40 (AV.slice y11 y12 y13 (4 : Nat) :: AV.int IntKind.i64 y14 :: AV.int IntKind.i64 y15 :: Env.sp 131 [])))))
def f5e49 (y0 : Option (Nat × Nat)) (y1 : Option (Nat × Nat)) (y2 : Nat) (y3 : Int) (y4 : Nat) (y5 : Bool) (y6 : Nat) (y7 : Bool) (y8 : ByteArray) (y9 : ByteArray) (y10 : Bool) (y11 : Nat) (y12 : Bool) (y13 : Option (Nat × Nat)) (y14 : Nat) (y15 : Option Nat) (y16 : Int) (y17 : Int) (y18 : Int) (y19 : Int) (y20 : ByteArray) (y21 : ByteArray) (y22 : Bool) (y23 : Option (Nat × Nat)) (y24 : Int) (y25 : Nat) (y26 : Int) (y27 : Int) (y28 : Int) (y29 : ByteArray) (y30 : ByteArray) (y31 : Bool) (y32 : Int) (y33 : Int) (y34 : ByteArray) (y35 : ByteArray) (y36 : Bool) : Env := Env.sp 5 (AV.ptr y0 :: Env.sp 1 (AV.ptr y1 :: Env.sp 2 (AV.ptr (some (y2, (0 : Nat))) :: Env.sp 8 (AV.int IntKind.i64 y3 :: AV.ptr (some (y4, (0 : Nat))) :: AV.bool y5 :: AV.ptr (some (y6, (0 : Nat))) :: AV.bool y7 :: AV.str y8 :: AV.str y9 :: AV.bool y10 :: AV.ptr (some (y11, (0 : Nat))) :: AV.bool y12 :: Env.sp 38 (AV.slice y13 y14 y15 (4 : Nat) :: AV.int IntKind.i64 y16 :: AV.int IntKind.i64 y17 :: Env.sp 86 (AV.tuple [AV.agg [AV.int IntKind.i64 y18, AV.int IntKind.i64 y19, AV.str y20, AV.str y21], AV.bool y22] :: AV.ptr y23 :: AV.int IntKind.i64 y24 :: AV.ptr (some (y25, (1 : Nat))) :: AV.int IntKind.i64 y26 :: AV.tuple [AV.agg [AV.int IntKind.i64 y27, AV.int IntKind.i64 y28, AV.str y29, AV.str y30], AV.bool y31] :: AV.agg [AV.int IntKind.i64 y32, AV.int IntKind.i64 y33, AV.str y34, AV.str y35] :: AV.bool y36 :: Env.sp 37 []))))))
def f5e50 (y0 : Option (Nat × Nat)) (y1 : Option (Nat × Nat)) (y2 : Nat) (y3 : Int) (y4 : Nat) (y5 : Bool) (y6 : Nat) (y7 : Bool) (y8 : ByteArray) (y9 : ByteArray) (y10 : Bool) (y11 : Nat) (y12 : Bool) (y13 : Option (Nat × Nat)) (y14 : Nat) (y15 : Option Nat) (y16 : Int) (y17 : Int) : Env := Env.sp 5 (AV.ptr y0 :: Env.sp 1 (AV.ptr y1 :: Env.sp 2 (AV.ptr (some (y2, (0 : Nat))) :: Env.sp 8 (AV.int IntKind.i64 y3 :: AV.ptr (some (y4, (0 : Nat))) :: AV.bool y5 :: AV.ptr (some (y6, (0 : Nat))) :: AV.bool y7 :: AV.str y8 :: AV.str y9 :: AV.bool y10 :: AV.ptr (some (y11, (0 : Nat))) :: AV.bool y12 :: Env.sp 38 (AV.slice y13 y14 y15 (4 : Nat) :: AV.int IntKind.i64 y16 :: AV.int IntKind.i64 y17 :: Env.sp 131 [])))))
def f5e51 (y0 : Option (Nat × Nat)) (y1 : Option (Nat × Nat)) (y2 : Nat) (y3 : Int) (y4 : Nat) (y5 : Bool) (y6 : Nat) (y7 : Bool) (y8 : ByteArray) (y9 : ByteArray) (y10 : Bool) (y11 : Nat) (y12 : Bool) (y13 : Option (Nat × Nat)) (y14 : Nat) (y15 : Option Nat) (y16 : Int) (y17 : Int) (y18 : Bool) (y19 : Bool) (y20 : Bool) (y21 : Bool) (y22 : Bool) (y23 : Bool) (y24 : Bool) (y25 : Bool) (y26 : Bool) (y27 : Bool) (y28 : Bool) (y29 : Bool) (y30 : Bool) : Env := Env.sp 5 (AV.ptr y0 :: Env.sp 1 (AV.ptr y1 :: Env.sp 2 (AV.ptr (some (y2, (0 : Nat))) :: Env.sp 8 (AV.int IntKind.i64 y3 :: AV.ptr (some (y4, (0 : Nat))) :: AV.bool y5 :: AV.ptr (some (y6, (0 : Nat))) :: AV.bool y7 :: AV.str y8 :: AV.str y9 :: AV.bool y10 :: AV.ptr (some (y11, (0 : Nat))) :: AV.bool y12 :: Env.sp 38 (AV.slice y13 y14 y15 (4 : Nat) :: AV.int IntKind.i64 y16 :: AV.int IntKind.i64 y17 :: Env.sp 94 (AV.bool y18 :: AV.bool y19 :: AV.bool y20 :: AV.bool y21 :: AV.tuple [] :: AV.tuple [] :: AV.tuple [] :: AV.tuple [] :: AV.bool y22 :: AV.bool y23 :: AV.tuple [] :: AV.tuple [] :: AV.tuple [] :: AV.tuple [] :: AV.tuple [] :: AV.tuple [] :: AV.tuple [] :: AV.bool y24 :: AV.bool y25 :: AV.tuple [] :: AV.tuple [] :: AV.tuple [] :: AV.bool y26 :: AV.bool y27 :: AV.tuple [] :: AV.tuple [] :: AV.tuple [] :: AV.tuple [] :: AV.bool y28 :: AV.bool y29 :: AV.tuple [] :: AV.tuple [] :: AV.tuple [] :: AV.tuple [] :: AV.bool y30 :: Env.sp 2 []))))))
def f5e52 (y0 : Option (Nat × Nat)) (y1 : Option (Nat × Nat)) (y2 : Nat) (y3 : Int) (y4 : Nat) (y5 : Bool) (y6 : Nat) (y7 : Bool) (y8 : ByteArray) (y9 : ByteArray) (y10 : Bool) (y11 : Nat) (y12 : Bool) (y13 : Option (Nat × Nat)) (y14 : Nat) (y15 : Option Nat) (y16 : Int) (y17 : Int) (y18 : Bool) (y19 : Bool) (y20 : Bool) (y21 : Bool) (y22 : ByteArray) (y23 : Int) (y24 : Option (Nat × Nat)) (y25 : Nat) (y26 : Option Nat) (y27 : ByteArray) (y28 : Int) (y29 : Option (Nat × Nat)) (y30 : Nat) (y31 : Option Nat) (y32 : Bool) (y33 : Bool) (y34 : Bool) (y35 : Bool) (y36 : Bool) (y37 : Bool) (y38 : Bool) (y39 : Bool) (y40 : Bool) (y41 : Bool) (y42 : Bool) : Env := Env.sp 5 (AV.ptr y0 :: Env.sp 1 (AV.ptr y1 :: Env.sp 2 (AV.ptr (some (y2, (0 : Nat))) :: Env.sp 8 (AV.int IntKind.i64 y3 :: AV.ptr (some (y4, (0 : Nat))) :: AV.bool y5 :: AV.ptr (some (y6, (0 : Nat))) :: AV.bool y7 :: AV.str y8 :: AV.str y9 :: AV.bool y10 :: AV.ptr (some (y11, (0 : Nat))) :: AV.bool y12 :: Env.sp 38 (AV.slice y13 y14 y15 (4 : Nat) :: AV.int IntKind.i64 y16 :: AV.int IntKind.i64 y17 :: Env.sp 94 (AV.bool y18 :: AV.bool y19 :: AV.bool y20 :: AV.bool y21 :: AV.agg [AV.str y22, AV.int IntKind.i64 y23, AV.slice y24 y25 y26 (2 : Nat)] :: AV.agg [AV.str y27, AV.int IntKind.i64 y28, AV.slice y29 y30 y31 (2 : Nat)] :: AV.bool y32 :: AV.bool y33 :: AV.bool y34 :: AV.bool y35 :: AV.tuple [] :: AV.tuple [] :: AV.tuple [] :: AV.tuple [] :: AV.tuple [] :: AV.tuple [] :: AV.tuple [] :: AV.bool y36 :: AV.bool y37 :: AV.tuple [] :: AV.tuple [] :: AV.tuple [] :: AV.bool y38 :: AV.bool y39 :: AV.tuple [] :: AV.tuple [] :: AV.tuple [] :: AV.tuple [] :: AV.bool y40 :: AV.bool y41 :: AV.tuple [] :: AV.tuple [] :: AV.tuple [] :: AV.tuple [] :: AV.bool y42 :: Env.sp 2 []))))))
def f5e53 (y0 : Option (Nat × Nat)) (y1 : Option (Nat × Nat)) (y2 : Nat) (y3 : Int) (y4 : Nat) (y5 : Bool) (y6 : Nat) (y7 : Bool) (y8 : ByteArray) (y9 : ByteArray) (y10 : Bool) (y11 : Nat) (y12 : Bool) (y13 : Option (Nat × Nat)) (y14 : Nat) (y15 : Option Nat) (y16 : Int) (y17 : Int) (y18 : Bool) (y19 : Bool) (y20 : Bool) (y21 : Bool) (y22 : ByteArray) (y23 : Int) (y24 : Option (Nat × Nat)) (y25 : Nat) (y26 : Option Nat) (y27 : ByteArray) (y28 : Int) (y29 : Option (Nat × Nat)) (y30 : Nat) (y31 : Option Nat) (y32 : Bool) (y33 : Bool) (y34 : Bool) (y35 : Bool) (y36 : Option (Nat × Nat)) (y37 : Int) (y38 : Int) (y39 : Option (Nat × Nat)) (y40 : Int) (y41 : Int) (y42 : Bool) (y43 : Bool) (y44 : Bool) (y45 : Bool) (y46 : Bool) (y47 : Bool) (y48 : Bool) (y49 : Bool) : Env := Env.sp 5 (AV.ptr y0 :: Env.sp 1 (AV.ptr y1 :: Env.sp 2 (AV.ptr (some (y2, (0 : Nat))) :: Env.sp 8 (AV.int IntKind.i64 y3 :: AV.ptr (some (y4, (0 : Nat))) :: AV.bool y5 :: AV.ptr (some (y6, (0 : Nat))) :: AV.bool y7 :: AV.str y8 :: AV.str y9 :: AV.bool y10 :: AV.ptr (some (y11, (0 : Nat))) :: AV.bool y12 :: Env.sp 38 (AV.slice y13 y14 y15 (4 : Nat) :: AV.int IntKind.i64 y16 :: AV.int IntKind.i64 y17 :: Env.sp 94 (AV.bool y18 :: AV.bool y19 :: AV.bool y20 :: AV.bool y21 :: AV.agg [AV.str y22, AV.int IntKind.i64 y23, AV.slice y24 y25 y26 (2 : Nat)] :: AV.agg [AV.str y27, AV.int IntKind.i64 y28, AV.slice y29 y30 y31 (2 : Nat)] :: AV.bool y32 :: AV.bool y33 :: AV.bool y34 :: AV.bool y35 :: AV.ptr y36 :: AV.int IntKind.i64 y37 :: AV.int IntKind.i64 y38 :: AV.ptr y39 :: AV.int IntKind.i64 y40 :: AV.int IntKind.i64 y41 :: AV.bool y42 :: AV.bool y43 :: AV.bool y44 :: AV.tuple [] :: AV.tuple [] :: AV.tuple [] :: AV.bool y45 :: AV.bool y46 :: AV.tuple [] :: AV.tuple [] :: AV.tuple [] :: AV.tuple [] :: AV.bool y47 :: AV.bool y48 :: AV.tuple [] :: AV.tuple [] :: AV.tuple [] :: AV.tuple [] :: AV.bool y49 :: Env.sp 2 []))))))
def f5e54 (y0 : Option (Nat × Nat)) (y1 : Option (Nat × Nat)) (y2 : Nat) (y3 : Int) (y4 : Nat) (y5 : Bool) (y6 : Nat) (y7 : Bool) (y8 : ByteArray) (y9 : ByteArray) (y10 : Bool) (y11 : Nat) (y12 : Bool) (y13 : Option (Nat × Nat)) (y14 : Nat) (y15 : Option Nat) (y16 : Int) (y17 : Int) (y18 : Bool) (y19 : Bool) (y20 : Bool) (y21 : Bool) (y22 : ByteArray) (y23 : Int) (y24 : Option (Nat × Nat)) (y25 : Nat) (y26 : Option Nat) (y27 : ByteArray) (y28 : Int) (y29 : Option (Nat × Nat)) (y30 : Nat) (y31 : Option Nat) (y32 : Bool) (y33 : Bool) (y34 : Bool) (y35 : Bool) (y36 : Option (Nat × Nat)) (y37 : Int) (y38 : Int) (y39 : Option (Nat × Nat)) (y40 : Int) (y41 : Int) (y42 : Bool) (y43 : Bool) (y44 : Bool) (y45 : Bool) (y46 : Bool) (y47 : Bool) (y48 : Bool) (y49 : Bool) (y50 : Bool) (y51 : Bool) (y52 : Bool) : Env := Env.sp 5 (AV.ptr y0 :: Env.sp 1 (AV.ptr y1 :: Env.sp 2 (AV.ptr (some (y2, (0 : Nat))) :: Env.sp 8 (AV.int IntKind.i64 y3 :: AV.ptr (some (y4, (0 : Nat))) :: AV.bool y5 :: AV.ptr (some (y6, (0 : Nat))) :: AV.bool y7 :: AV.str y8 :: AV.str y9 :: AV.bool y10 :: AV.ptr (some (y11, (0 : Nat))) :: AV.bool y12 :: Env.sp 38 (AV.slice y13 y14 y15 (4 : Nat) :: AV.int IntKind.i64 y16 :: AV.int IntKind.i64 y17 :: Env.sp 94 (AV.bool y18 :: AV.bool y19 :: AV.bool y20 :: AV.bool y21 :: AV.agg [AV.str y22, AV.int IntKind.i64 y23, AV.slice y24 y25 y26 (2 : Nat)] :: AV.agg [AV.str y27, AV.int IntKind.i64 y28, AV.slice y29 y30 y31 (2 : Nat)] :: AV.bool y32 :: AV.bool y33 :: AV.bool y34 :: AV.bool y35 :: AV.ptr y36 :: AV.int IntKind.i64 y37 :: AV.int IntKind.i64 y38 :: AV.ptr y39 :: AV.int IntKind.i64 y40 :: AV.int IntKind.i64 y41 :: AV.bool y42 :: AV.bool y43 :: AV.bool y44 :: AV.bool y45 :: AV.bool y46 :: AV.bool y47 :: AV.bool y48 :: AV.bool y49 :: AV.tuple [] :: AV.tuple [] :: AV.tuple [] :: AV.tuple [] :: AV.bool y50 :: AV.bool y51 :: AV.tuple [] :: AV.tuple [] :: AV.tuple [] :: AV.tuple [] :: AV.bool y52 :: Env.sp 2 []))))))
def f5e55 (y0 : Option (Nat × Nat)) (y1 : Option (Nat × Nat)) (y2 : Nat) (y3 : Int) (y4 : Nat) (y5 : Bool) (y6 : Nat) (y7 : Bool) (y8 : ByteArray) (y9 : ByteArray) (y10 : Bool) (y11 : Nat) (y12 : Bool) (y13 : Option (Nat × Nat)) (y14 : Nat) (y15 : Option Nat) (y16 : Int) (y17 : Int) (y18 : Bool) (y19 : Bool) (y20 : Bool) (y21 : Bool) (y22 : ByteArray) (y23 : Int) (y24 : Option (Nat × Nat)) (y25 : Nat) (y26 : Option Nat) (y27 : ByteArray) (y28 : Int) (y29 : Option (Nat × Nat)) (y30 : Nat) (y31 : Option Nat) (y32 : Bool) (y33 : Bool) (y34 : Bool) (y35 : Bool) (y36 : Option (Nat × Nat)) (y37 : Int) (y38 : Int) (y39 : Option (Nat × Nat)) (y40 : Int) (y41 : Int) (y42 : Bool) (y43 : Bool) (y44 : Bool) (y45 : Bool) (y46 : Bool) (y47 : Bool) (y48 : Bool) (y49 : Bool) (y50 : ByteArray) (y51 : Nat) (y52 : ByteArray) (y53 : Bool) (y54 : Bool) (y55 : Bool) (y56 : Bool) : Env := Env.sp 5 (AV.ptr y0 :: Env.sp 1 (AV.ptr y1 :: Env.sp 2 (AV.ptr (some (y2, (0 : Nat))) :: Env.sp 8 (AV.int IntKind.i64 y3 :: AV.ptr (some (y4, (0 : Nat))) :: AV.bool y5 :: AV.ptr (some (y6, (0 : Nat))) :: AV.bool y7 :: AV.str y8 :: AV.str y9 :: AV.bool y10 :: AV.ptr (some (y11, (0 : Nat))) :: AV.bool y12 :: Env.sp 38 (AV.slice y13 y14 y15 (4 : Nat) :: AV.int IntKind.i64 y16 :: AV.int IntKind.i64 y17 :: Env.sp 94 (AV.bool y18 :: AV.bool y19 :: AV.bool y20 :: AV.bool y21 :: AV.agg [AV.str y22, AV.int IntKind.i64 y23, AV.slice y24 y25 y26 (2 : Nat)] :: AV.agg [AV.str y27, AV.int IntKind.i64 y28, AV.slice y29 y30 y31 (2 : Nat)] :: AV.bool y32 :: AV.bool y33 :: AV.bool y34 :: AV.bool y35 :: AV.ptr y36 :: AV.int IntKind.i64 y37 :: AV.int IntKind.i64 y38 :: AV.ptr y39 :: AV.int IntKind.i64 y40 :: AV.int IntKind.i64 y41 :: AV.bool y42 :: AV.bool y43 :: AV.bool y44 :: AV.bool y45 :: AV.bool y46 :: AV.bool y47 :: AV.bool y48 :: AV.bool y49 :: AV.str y50 :: AV.ptr (some (y51, (2 : Nat))) :: AV.str y52 :: AV.bool y53 :: AV.bool y54 :: AV.bool y55 :: AV.tuple [] :: AV.tuple [] :: AV.tuple [] :: AV.tuple [] :: AV.bool y56 :: Env.sp 2 []))))))
def f5e56 (y0 : Option (Nat × Nat)) (y1 : Option (Nat × Nat)) (y2 : Nat) (y3 : Int) (y4 : Nat) (y5 : Bool) (y6 : Nat) (y7 : Bool) (y8 : ByteArray) (y9 : ByteArray) (y10 : Bool) (y11 : Nat) (y12 : Bool) (y13 : Option (Nat × Nat)) (y14 : Nat) (y15 : Option Nat) (y16 : Int) (y17 : Int) (y18 : Bool) (y19 : Bool) (y20 : Bool) (y21 : Bool) (y22 : ByteArray) (y23 : Int) (y24 : Option (Nat × Nat)) (y25 : Nat) (y26 : Option Nat) (y27 : ByteArray) (y28 : Int) (y29 : Option (Nat × Nat)) (y30 : Nat) (y31 : Option Nat) (y32 : Bool) (y33 : Bool) (y34 : Bool) (y35 : Bool) (y36 : Option (Nat × Nat)) (y37 : Int) (y38 : Int) (y39 : Option (Nat × Nat)) (y40 : Int) (y41 : Int) (y42 : Bool) (y43 : Bool) (y44 : Bool) (y45 : Bool) (y46 : Bool) (y47 : Bool) (y48 : Bool) (y49 : Bool) (y50 : ByteArray) (y51 : Nat) (y52 : ByteArray) (y53 : Bool) (y54 : Bool) (y55 : Bool) (y56 : ByteArray) (y57 : Nat) (y58 : ByteArray) (y59 : Bool) (y60 : Bool) : Env := Env.sp 5 (AV.ptr y0 :: Env.sp 1 (AV.ptr y1 :: Env.sp 2 (AV.ptr (some (y2, (0 : Nat))) :: Env.sp 8 (AV.int IntKind.i64 y3 :: AV.ptr (some (y4, (0 : Nat))) :: AV.bool y5 :: AV.ptr (some (y6, (0 : Nat))) :: AV.bool y7 :: AV.str y8 :: AV.str y9 :: AV.bool y10 :: AV.ptr (some (y11, (0 : Nat))) :: AV.bool y12 :: Env.sp 38 (AV.slice y13 y14 y15 (4 : Nat) :: AV.int IntKind.i64 y16 :: AV.int IntKind.i64 y17 :: Env.sp 94 (AV.bool y18 :: AV.bool y19 :: AV.bool y20 :: AV.bool y21 :: AV.agg [AV.str y22, AV.int IntKind.i64 y23, AV.slice y24 y25 y26 (2 : Nat)] :: AV.agg [AV.str y27, AV.int IntKind.i64 y28, AV.slice y29 y30 y31 (2 : Nat)] :: AV.bool y32 :: AV.bool y33 :: AV.bool y34 :: AV.bool y35 :: AV.ptr y36 :: AV.int IntKind.i64 y37 :: AV.int IntKind.i64 y38 :: AV.ptr y39 :: AV.int IntKind.i64 y40 :: AV.int IntKind.i64 y41 :: AV.bool y42 :: AV.bool y43 :: AV.bool y44 :: AV.bool y45 :: AV.bool y46 :: AV.bool y47 :: AV.bool y48 :: AV.bool y49 :: AV.str y50 :: AV.ptr (some (y51, (2 : Nat))) :: AV.str y52 :: AV.bool y53 :: AV.bool y54 :: AV.bool y55 :: AV.str y56 :: AV.ptr (some (y57, (3 : Nat))) :: AV.str y58 :: AV.bool y59 :: AV.bool y60 :: Env.sp 2 []))))))
def f5e57 (y0 : Option (Nat × Nat)) (y1 : Option (Nat × Nat)) (y2 : Nat) (y3 : Int) (y4 : Option (Nat × Nat)) (y5 : Nat) (y6 : Option Nat) (y7 : Int) (y8 : Int) (y9 : Bool) : Env := Env.sp 5 (AV.ptr y0 :: Env.sp 1 (AV.ptr y1 :: Env.sp 2 (AV.ptr (some (y2, (0 : Nat))) :: Env.sp 8 (AV.int IntKind.i64 y3 :: Env.sp 47 (AV.slice y4 y5 y6 (4 : Nat) :: AV.int IntKind.i64 y7 :: AV.int IntKind.i64 y8 :: Env.sp 128 (AV.bool y9 :: Env.sp 2 []))))))
def f5e58 (y0 : Bool) (y1 : Option (Nat × Nat)) (y2 : Option (Nat × Nat)) (y3 : Nat) (y4 : Int) (y5 : Option (Nat × Nat)) (y6 : Nat) (y7 : Option Nat) (y8 : Int) (y9 : Int) (y10 : Bool) : Env := Env.sp 4 (AV.bool y0 :: AV.ptr y1 :: Env.sp 1 (AV.ptr y2 :: Env.sp 2 (AV.ptr (some (y3, (0 : Nat))) :: Env.sp 8 (AV.int IntKind.i64 y4 :: Env.sp 47 (AV.slice y5 y6 y7 (4 : Nat) :: AV.int IntKind.i64 y8 :: AV.int IntKind.i64 y9 :: Env.sp 128 (AV.bool y10 :: Env.sp 2 []))))))
def f5e59 (y0 : Option (Nat × Nat)) (y1 : Option (Nat × Nat)) (y2 : Nat) (y3 : Int) (y4 : Option (Nat × Nat)) (y5 : Nat) (y6 : Option Nat) (y7 : Int) (y8 : Int) (y9 : Int) (y10 : Int) : Env := Env.sp 5 (AV.ptr y0 :: Env.sp 1 (AV.ptr y1 :: Env.sp 2 (AV.ptr (some (y2, (0 : Nat))) :: Env.sp 8 (AV.int IntKind.i64 y3 :: Env.sp 47 (AV.slice y4 y5 y6 (4 : Nat) :: AV.int IntKind.i64 y7 :: AV.int IntKind.i64 y8 :: Env.sp 63 (AV.int IntKind.i64 y9 :: AV.int IntKind.i64 y10 :: Env.sp 66 []))))))
def f5e60 (y0 : Option (Nat × Nat)) (y1 : Option (Nat × Nat)) (y2 : Option (Nat × Nat)) (y3 : Nat) (y4 : Option Nat) (y5 : Int) (y6 : Int) (y7 : Int) : Env := Env.sp 5 (AV.ptr y0 :: Env.sp 1 (AV.ptr y1 :: Env.sp 59 (AV.slice y2 y3 y4 (4 : Nat) :: AV.int IntKind.i64 y5 :: AV.int IntKind.i64 y6 :: Env.sp 129 (AV.int IntKind.i64 y7 :: Env.sp 1 []))))
def f5e61 (y0 : Bool) (y1 : Bool) : Env := Env.sp 4 (AV.bool y0 :: Env.sp 195 (AV.bool y1 :: []))

/- function 5 -/
theorem f5_eq {R : Type} (call : CallF R) (N : Nat) (y0 : Int) (y1 : Int) (y2 : Int) (y3 : Option (Nat × Nat)) (y4 : Nat) (y5 : Option Nat) (σ : St) (K : AV → St → Option R) :
    bodyK Try.prog call N ann 5 [AV.agg [AV.int IntKind.i64 y0, AV.int IntKind.i64 y1, AV.int IntKind.i64 y2], AV.slice y3 y4 y5 (4 : Nat)] σ K = runK Try.prog call N f5c0 f5a0 (bodyC Try.prog f5rs K) (f5e0 y0 y1 y2 y3 y4 y5) σ := bodyK_of (fn := ((Try.prog.funcs[5]?).get rfl)) (by kernel_rfl) (by kernel_rfl) (by kernel_rfl) (by kernel_rfl) (by kernel_rfl) (by kernel_rfl)
theorem f5n0 {R : Type} (call : CallF R) (N : Nat) (J : KF R) (e : Env) (σ : St) : runK Try.prog call N f5c0 f5a0 J e σ = runK Try.prog call N f5c1 f5a1 (seqC (fun K e σ => runK Try.prog call N f5c2 f5a2 K e σ) f5a0 J) e σ := runK_seq' (by kernel_rfl) (by kernel_rfl) (by kernel_rfl)
theorem f5r1_f5e0 {R : Type} (call : CallF R) (N : Nat) (y0 : Int) (y1 : Int) (y2 : Int) (y3 : Option (Nat × Nat)) (y4 : Nat) (y5 : Option Nat) (J : KF R) (σ : St) :
    runK Try.prog call N f5c1 f5a1 J (f5e0 y0 y1 y2 y3 y4 y5) σ =
J Ex.normal (f5e1 y0 y1 y2 y3 y4 y5 (St.next σ) false)
  (St.new σ (Blk.cells [AV.int IntKind.i64 y0, AV.int IntKind.i64 y1, AV.int IntKind.i64 y2] true)) := hide (by kernel_rfl)
theorem f5z0_f5e1 (y0 : Int) (y1 : Int) (y2 : Int) (y3 : Option (Nat × Nat)) (y4 : Nat) (y5 : Option Nat) (y6 : Nat) (y7 : Bool) : Ann.clr f5a0 (f5e1 y0 y1 y2 y3 y4 y5 y6 y7) = f5e2 y3 y4 y5 y6 := hide (by kernel_rfl)
theorem f5n2 {R : Type} (call : CallF R) (N : Nat) (J : KF R) (e : Env) (σ : St) : runK Try.prog call N f5c2 f5a2 J e σ = runK Try.prog call N f5c3 f5a3 (seqC (fun K e σ => runK Try.prog call N f5c4 f5a4 K e σ) f5a2 J) e σ := runK_seq' (by kernel_rfl) (by kernel_rfl) (by kernel_rfl)
theorem f5r3_f5e2 {R : Type} (call : CallF R) (N : Nat) (y0 : Option (Nat × Nat)) (y1 : Nat) (y2 : Option Nat) (y3 : Nat) (J : KF R) (σ : St) :
    runK Try.prog call N f5c3 f5a3 J (f5e2 y0 y1 y2 y3) σ =
Option.bind (St.ld σ y3 (0 : Nat)) fun v0 =>
  Option.bind (AV.toInt IntKind.i64 v0) fun v1 =>
    Option.bind (St.ld σ y3 (1 : Nat)) fun v2 =>
      Option.bind (AV.toInt IntKind.i64 v2) fun v3 =>
        Option.bind (St.ld σ y3 (2 : Nat)) fun v4 =>
          Option.bind (AV.toInt IntKind.i64 v4) fun v5 =>
            call (22 : Nat) [AV.int IntKind.i64 v1, AV.int IntKind.i64 v3, AV.int IntKind.i64 v5] σ fun v6 v7 =>
              Option.bind (AV.toTuple v6) fun v8 =>
                if List.length v8 = (2 : Nat) then
                  Option.bind (List.head? v8) fun v9 =>
                    Option.bind (AV.toPtr v9) fun v10 =>
                      Option.bind (List.head? (List.tail v8)) fun v11 =>
                        Option.bind (AV.toInt IntKind.i64 v11) fun v12 =>
                          J Ex.normal (f5e3 y0 y1 y2 y3 v10 v12 v10 v12 y3 v1 y3 v3 y3 v5 v10 v12 v10 v12) v7
                else none := hide (by kernel_rfl)
theorem f5z2_f5e3 (y0 : Option (Nat × Nat)) (y1 : Nat) (y2 : Option Nat) (y3 : Nat) (y4 : Option (Nat × Nat)) (y5 : Int) (y6 : Option (Nat × Nat)) (y7 : Int) (y8 : Nat) (y9 : Int) (y10 : Nat) (y11 : Int) (y12 : Nat) (y13 : Int) (y14 : Option (Nat × Nat)) (y15 : Int) (y16 : Option (Nat × Nat)) (y17 : Int) : Ann.clr f5a2 (f5e3 y0 y1 y2 y3 y4 y5 y6 y7 y8 y9 y10 y11 y12 y13 y14 y15 y16 y17) = f5e4 y0 y1 y2 y3 y4 y5 := hide (by kernel_rfl)
theorem f5n4 {R : Type} (call : CallF R) (N : Nat) (J : KF R) (e : Env) (σ : St) : runK Try.prog call N f5c4 f5a4 J e σ = runK Try.prog call N f5c5 f5a5 (seqC (fun K e σ => runK Try.prog call N f5c6 f5a6 K e σ) f5a4 J) e σ := runK_seq' (by kernel_rfl) (by kernel_rfl) (by kernel_rfl)
theorem f5r5_f5e4 {R : Type} (call : CallF R) (N : Nat) (y0 : Option (Nat × Nat)) (y1 : Nat) (y2 : Option Nat) (y3 : Nat) (y4 : Option (Nat × Nat)) (y5 : Int) (J : KF R) (σ : St) :
    runK Try.prog call N f5c5 f5a5 J (f5e4 y0 y1 y2 y3 y4 y5) σ =
Option.bind (St.ld σ y3 (0 : Nat)) fun v0 =>
  Option.bind (AV.toInt IntKind.i64 v0) fun v1 =>
    Option.bind (St.ld σ y3 (1 : Nat)) fun v2 =>
      Option.bind (AV.toInt IntKind.i64 v2) fun v3 =>
        Option.bind (St.ld σ y3 (2 : Nat)) fun v4 =>
          Option.bind (AV.toInt IntKind.i64 v4) fun v5 =>
            call (23 : Nat) [AV.int IntKind.i64 v1, AV.int IntKind.i64 v3, AV.int IntKind.i64 v5] σ fun v6 v7 =>
              Option.bind (AV.toTuple v6) fun v8 =>
                if List.length v8 = (2 : Nat) then
                  Option.bind (List.head? v8) fun v9 =>
                    Option.bind (AV.toPtr v9) fun v10 =>
                      Option.bind (List.head? (List.tail v8)) fun v11 =>
                        Option.bind (AV.toInt IntKind.i64 v11) fun v12 =>
                          J Ex.normal (f5e5 y0 y1 y2 y3 y4 y5 v10 v12 v10 v12 y3 v1 y3 v3 y3 v5 v10 v12 v10 v12) v7
                else none := hide (by kernel_rfl)
theorem f5z4_f5e5 (y0 : Option (Nat × Nat)) (y1 : Nat) (y2 : Option Nat) (y3 : Nat) (y4 : Option (Nat × Nat)) (y5 : Int) (y6 : Option (Nat × Nat)) (y7 : Int) (y8 : Option (Nat × Nat)) (y9 : Int) (y10 : Nat) (y11 : Int) (y12 : Nat) (y13 : Int) (y14 : Nat) (y15 : Int) (y16 : Option (Nat × Nat)) (y17 : Int) (y18 : Option (Nat × Nat)) (y19 : Int) : Ann.clr f5a4 (f5e5 y0 y1 y2 y3 y4 y5 y6 y7 y8 y9 y10 y11 y12 y13 y14 y15 y16 y17 y18 y19) = f5e6 y0 y1 y2 y4 y5 y6 y7 := hide (by kernel_rfl)
theorem f5n6 {R : Type} (call : CallF R) (N : Nat) (J : KF R) (e : Env) (σ : St) : runK Try.prog call N f5c6 f5a6 J e σ = runK Try.prog call N f5c7 f5a7 (seqC (fun K e σ => runK Try.prog call N f5c8 f5a8 K e σ) f5a6 J) e σ := runK_seq' (by kernel_rfl) (by kernel_rfl) (by kernel_rfl)
theorem f5n7 {R : Type} (call : CallF R) (N : Nat) (J : KF R) (e : Env) (σ : St) : runK Try.prog call N f5c7 f5a7 J e σ = runK Try.prog call N f5c9 f5a9 (seqC (fun K e σ => runK Try.prog call N f5c10 f5a10 K e σ) f5a7 J) e σ := runK_seq' (by kernel_rfl) (by kernel_rfl) (by kernel_rfl)
theorem f5r9_f5e6 {R : Type} (call : CallF R) (N : Nat) (y0 : Option (Nat × Nat)) (y1 : Nat) (y2 : Option Nat) (y3 : Option (Nat × Nat)) (y4 : Int) (y5 : Option (Nat × Nat)) (y6 : Int) (J : KF R) (σ : St) :
    runK Try.prog call N f5c9 f5a9 J (f5e6 y0 y1 y2 y3 y4 y5 y6) σ =
if (y4 != y6) = true then J Ex.normal (f5e7 y0 y1 y2 y3 y4 y5 y6 y4 y6 (y4 != y6) true true) σ
else
  J Ex.normal
    (f5e8 y0 y1 y2 y3 y4 y5 y6 y4 y6 (y4 != y6) false y3 (Option.isNone y3) y5 (Option.isNone y5) (!Option.isNone y3 == Option.isNone y5)
      !Option.isNone y3 == Option.isNone y5)
    σ := hide (by kernel_rfl)
theorem f5z7_f5e7 (y0 : Option (Nat × Nat)) (y1 : Nat) (y2 : Option Nat) (y3 : Option (Nat × Nat)) (y4 : Int) (y5 : Option (Nat × Nat)) (y6 : Int) (y7 : Int) (y8 : Int) (y9 : Bool) (y10 : Bool) (y11 : Bool) : Ann.clr f5a7 (f5e7 y0 y1 y2 y3 y4 y5 y6 y7 y8 y9 y10 y11) = f5e9 y0 y1 y2 y3 y5 y6 y11 := hide (by kernel_rfl)
theorem f5x10_f5e9 {R : Type} (call : CallF R) (N : Nat) (y0 : Option (Nat × Nat)) (y1 : Nat) (y2 : Option Nat) (y3 : Option (Nat × Nat)) (y4 : Option (Nat × Nat)) (y5 : Int) (y6 : Bool) (J : KF R) (σ : St) : runK Try.prog call N f5c10 f5a10 J (f5e9 y0 y1 y2 y3 y4 y5 y6) σ = if y6 = true then runK Try.prog call N f5c11 f5a11 (condC f5a10 J) (f5e9 y0 y1 y2 y3 y4 y5 y6) σ else runK Try.prog call N f5c12 f5a12 (condC f5a10 J) (f5e9 y0 y1 y2 y3 y4 y5 y6) σ := runK_cond' (o := Operand.tmp (58 : Nat)) (by kernel_rfl) (by kernel_rfl) (by kernel_rfl) (by kernel_rfl)
theorem f5n11 {R : Type} (call : CallF R) (N : Nat) (J : KF R) (e : Env) (σ : St) : runK Try.prog call N f5c11 f5a11 J e σ = runK Try.prog call N f5c13 f5a13 (seqC (fun K e σ => runK Try.prog call N f5c14 f5a14 K e σ) f5a11 J) e σ := runK_seq' (by kernel_rfl) (by kernel_rfl) (by kernel_rfl)
theorem f5r13_f5e9 {R : Type} (call : CallF R) (N : Nat) (y0 : Option (Nat × Nat)) (y1 : Nat) (y2 : Option Nat) (y3 : Option (Nat × Nat)) (y4 : Option (Nat × Nat)) (y5 : Int) (y6 : Bool) (J : KF R) (σ : St) :
    runK Try.prog call N f5c13 f5a13 J (f5e9 y0 y1 y2 y3 y4 y5 y6) σ =
J Ex.normal (f5e10 y0 y1 y2 false y3 y4 y5 y6) σ := hide (by kernel_rfl)
theorem f5z11_f5e10 (y0 : Option (Nat × Nat)) (y1 : Nat) (y2 : Option Nat) (y3 : Bool) (y4 : Option (Nat × Nat)) (y5 : Option (Nat × Nat)) (y6 : Int) (y7 : Bool) : Ann.clr f5a11 (f5e10 y0 y1 y2 y3 y4 y5 y6 y7) = f5e11 y3 := hide (by kernel_rfl)
theorem f5y14_f5e11 {R : Type} (call : CallF R) (N : Nat) (y0 : Bool) (J : KF R) (σ : St) : runK Try.prog call N f5c14 f5a14 J (f5e11 y0) σ = J .ret (f5e11 y0) σ := runK_ret' (by kernel_rfl) (by kernel_rfl)
theorem f5n12 {R : Type} (call : CallF R) (N : Nat) (J : KF R) (e : Env) (σ : St) : runK Try.prog call N f5c12 f5a12 J e σ = J .normal e σ := runK_skip' (by kernel_rfl)
theorem f5z10_f5e9 (y0 : Option (Nat × Nat)) (y1 : Nat) (y2 : Option Nat) (y3 : Option (Nat × Nat)) (y4 : Option (Nat × Nat)) (y5 : Int) (y6 : Bool) : Ann.clr f5a10 (f5e9 y0 y1 y2 y3 y4 y5 y6) = f5e12 y0 y1 y2 y3 y4 y5 := hide (by kernel_rfl)
theorem f5z7_f5e8 (y0 : Option (Nat × Nat)) (y1 : Nat) (y2 : Option Nat) (y3 : Option (Nat × Nat)) (y4 : Int) (y5 : Option (Nat × Nat)) (y6 : Int) (y7 : Int) (y8 : Int) (y9 : Bool) (y10 : Bool) (y11 : Option (Nat × Nat)) (y12 : Bool) (y13 : Option (Nat × Nat)) (y14 : Bool) (y15 : Bool) (y16 : Bool) : Ann.clr f5a7 (f5e8 y0 y1 y2 y3 y4 y5 y6 y7 y8 y9 y10 y11 y12 y13 y14 y15 y16) = f5e9 y0 y1 y2 y3 y5 y6 y16 := hide (by kernel_rfl)
theorem f5z6_f5e12 (y0 : Option (Nat × Nat)) (y1 : Nat) (y2 : Option Nat) (y3 : Option (Nat × Nat)) (y4 : Option (Nat × Nat)) (y5 : Int) : Ann.clr f5a6 (f5e12 y0 y1 y2 y3 y4 y5) = f5e12 y0 y1 y2 y3 y4 y5 := hide (by kernel_rfl)
theorem f5n8 {R : Type} (call : CallF R) (N : Nat) (J : KF R) (e : Env) (σ : St) : runK Try.prog call N f5c8 f5a8 J e σ = runK Try.prog call N f5c15 f5a15 (seqC (fun K e σ => runK Try.prog call N f5c16 f5a16 K e σ) f5a8 J) e σ := runK_seq' (by kernel_rfl) (by kernel_rfl) (by kernel_rfl)
theorem f5n15 {R : Type} (call : CallF R) (N : Nat) (J : KF R) (e : Env) (σ : St) : runK Try.prog call N f5c15 f5a15 J e σ = runK Try.prog call N f5c17 f5a17 (seqC (fun K e σ => runK Try.prog call N f5c18 f5a18 K e σ) f5a15 J) e σ := runK_seq' (by kernel_rfl) (by kernel_rfl) (by kernel_rfl)
theorem f5r17_f5e12 {R : Type} (call : CallF R) (N : Nat) (y0 : Option (Nat × Nat)) (y1 : Nat) (y2 : Option Nat) (y3 : Option (Nat × Nat)) (y4 : Option (Nat × Nat)) (y5 : Int) (J : KF R) (σ : St) :
    runK Try.prog call N f5c17 f5a17 J (f5e12 y0 y1 y2 y3 y4 y5) σ =
if (y5 != (0 : Int)) = true then J Ex.normal (f5e13 y0 y1 y2 y3 y4 y5 y5 (y5 != (0 : Int)) true true) σ
else
  J Ex.normal
    (f5e14 y0 y1 y2 y3 y4 y5 y5 (y5 != (0 : Int)) false y0 y1 y2 (↑y1 : Int) (decide ((↑y1 : Int) > (200 : Int)))
      (decide ((↑y1 : Int) > (200 : Int))))
    σ := hide (by kernel_rfl)
theorem f5z15_f5e13 (y0 : Option (Nat × Nat)) (y1 : Nat) (y2 : Option Nat) (y3 : Option (Nat × Nat)) (y4 : Option (Nat × Nat)) (y5 : Int) (y6 : Int) (y7 : Bool) (y8 : Bool) (y9 : Bool) : Ann.clr f5a15 (f5e13 y0 y1 y2 y3 y4 y5 y6 y7 y8 y9) = f5e15 y0 y1 y2 y3 y4 y9 := hide (by kernel_rfl)
theorem f5x18_f5e15 {R : Type} (call : CallF R) (N : Nat) (y0 : Option (Nat × Nat)) (y1 : Nat) (y2 : Option Nat) (y3 : Option (Nat × Nat)) (y4 : Option (Nat × Nat)) (y5 : Bool) (J : KF R) (σ : St) : runK Try.prog call N f5c18 f5a18 J (f5e15 y0 y1 y2 y3 y4 y5) σ = if y5 = true then runK Try.prog call N f5c19 f5a19 (condC f5a18 J) (f5e15 y0 y1 y2 y3 y4 y5) σ else runK Try.prog call N f5c20 f5a20 (condC f5a18 J) (f5e15 y0 y1 y2 y3 y4 y5) σ := runK_cond' (o := Operand.tmp (65 : Nat)) (by kernel_rfl) (by kernel_rfl) (by kernel_rfl) (by kernel_rfl)
theorem f5n19 {R : Type} (call : CallF R) (N : Nat) (J : KF R) (e : Env) (σ : St) : runK Try.prog call N f5c19 f5a19 J e σ = runK Try.prog call N f5c21 f5a21 (seqC (fun K e σ => runK Try.prog call N f5c22 f5a22 K e σ) f5a19 J) e σ := runK_seq' (by kernel_rfl) (by kernel_rfl) (by kernel_rfl)
theorem f5r21_f5e15 {R : Type} (call : CallF R) (N : Nat) (y0 : Option (Nat × Nat)) (y1 : Nat) (y2 : Option Nat) (y3 : Option (Nat × Nat)) (y4 : Option (Nat × Nat)) (y5 : Bool) (J : KF R) (σ : St) :
    runK Try.prog call N f5c21 f5a21 J (f5e15 y0 y1 y2 y3 y4 y5) σ =
call (19 : Nat) [] σ fun v0 v1 => Option.bind (AV.toBool v0) fun v2 => J Ex.normal (f5e16 y0 y1 y2 v2 y3 y4 y5 v2) v1 := hide (by kernel_rfl)
theorem f5z19_f5e16 (y0 : Option (Nat × Nat)) (y1 : Nat) (y2 : Option Nat) (y3 : Bool) (y4 : Option (Nat × Nat)) (y5 : Option (Nat × Nat)) (y6 : Bool) (y7 : Bool) : Ann.clr f5a19 (f5e16 y0 y1 y2 y3 y4 y5 y6 y7) = f5e11 y3 := hide (by kernel_rfl)
theorem f5y22_f5e11 {R : Type} (call : CallF R) (N : Nat) (y0 : Bool) (J : KF R) (σ : St) : runK Try.prog call N f5c22 f5a22 J (f5e11 y0) σ = J .ret (f5e11 y0) σ := runK_ret' (by kernel_rfl) (by kernel_rfl)
theorem f5n20 {R : Type} (call : CallF R) (N : Nat) (J : KF R) (e : Env) (σ : St) : runK Try.prog call N f5c20 f5a20 J e σ = J .normal e σ := runK_skip' (by kernel_rfl)
theorem f5z18_f5e15 (y0 : Option (Nat × Nat)) (y1 : Nat) (y2 : Option Nat) (y3 : Option (Nat × Nat)) (y4 : Option (Nat × Nat)) (y5 : Bool) : Ann.clr f5a18 (f5e15 y0 y1 y2 y3 y4 y5) = f5e17 y0 y1 y2 y3 y4 := hide (by kernel_rfl)
theorem f5z15_f5e14 (y0 : Option (Nat × Nat)) (y1 : Nat) (y2 : Option Nat) (y3 : Option (Nat × Nat)) (y4 : Option (Nat × Nat)) (y5 : Int) (y6 : Int) (y7 : Bool) (y8 : Bool) (y9 : Option (Nat × Nat)) (y10 : Nat) (y11 : Option Nat) (y12 : Int) (y13 : Bool) (y14 : Bool) : Ann.clr f5a15 (f5e14 y0 y1 y2 y3 y4 y5 y6 y7 y8 y9 y10 y11 y12 y13 y14) = f5e15 y0 y1 y2 y3 y4 y14 := hide (by kernel_rfl)
theorem f5z8_f5e17 (y0 : Option (Nat × Nat)) (y1 : Nat) (y2 : Option Nat) (y3 : Option (Nat × Nat)) (y4 : Option (Nat × Nat)) : Ann.clr f5a8 (f5e17 y0 y1 y2 y3 y4) = f5e17 y0 y1 y2 y3 y4 := hide (by kernel_rfl)
theorem f5n16 {R : Type} (call : CallF R) (N : Nat) (J : KF R) (e : Env) (σ : St) : runK Try.prog call N f5c16 f5a16 J e σ = runK Try.prog call N f5c23 f5a23 (seqC (fun K e σ => runK Try.prog call N f5c24 f5a24 K e σ) f5a16 J) e σ := runK_seq' (by kernel_rfl) (by kernel_rfl) (by kernel_rfl)
theorem f5n23 {R : Type} (call : CallF R) (N : Nat) (J : KF R) (e : Env) (σ : St) : runK Try.prog call N f5c23 f5a23 J e σ = runK Try.prog call N f5c25 f5a25 (seqC (fun K e σ => runK Try.prog call N f5c26 f5a26 K e σ) f5a23 J) e σ := runK_seq' (by kernel_rfl) (by kernel_rfl) (by kernel_rfl)
theorem f5r25_f5e17 {R : Type} (call : CallF R) (N : Nat) (y0 : Option (Nat × Nat)) (y1 : Nat) (y2 : Option Nat) (y3 : Option (Nat × Nat)) (y4 : Option (Nat × Nat)) (J : KF R) (σ : St) :
    runK Try.prog call N f5c25 f5a25 J (f5e17 y0 y1 y2 y3 y4) σ =
J Ex.normal (f5e18 y0 y1 y2 y3 y4 y0 y1 y2 (↑y1 : Int) (0 : Int)) σ := hide (by kernel_rfl)
theorem f5z23_f5e18 (y0 : Option (Nat × Nat)) (y1 : Nat) (y2 : Option Nat) (y3 : Option (Nat × Nat)) (y4 : Option (Nat × Nat)) (y5 : Option (Nat × Nat)) (y6 : Nat) (y7 : Option Nat) (y8 : Int) (y9 : Int) : Ann.clr f5a23 (f5e18 y0 y1 y2 y3 y4 y5 y6 y7 y8 y9) = f5e19 y3 y4 y5 y6 y7 y8 y9 := hide (by kernel_rfl)
theorem f5n26 {R : Type} (call : CallF R) (N : Nat) (J : KF R) (e : Env) (σ : St) : runK Try.prog call N f5c26 f5a26 J e σ = runK Try.prog call N f5c27 f5a27 (blockC 0 f5a26 J) e σ := runK_block' (by kernel_rfl) (by kernel_rfl)
theorem f5L27_eq {R : Type} (call : CallF R) (N : Nat) (J : KF R) (e : Env) (σ : St) : f5L27 call N J e σ = runK Try.prog call N f5c28 f5a28 J e σ := hide rfl
theorem f5z27_f5e19 (y0 : Option (Nat × Nat)) (y1 : Option (Nat × Nat)) (y2 : Option (Nat × Nat)) (y3 : Nat) (y4 : Option Nat) (y5 : Int) (y6 : Int) : Ann.clr f5a27 (f5e19 y0 y1 y2 y3 y4 y5 y6) = f5e19 y0 y1 y2 y3 y4 y5 y6 := hide (by kernel_rfl)
theorem f5l27_f5e19 {R : Type} (call : CallF R) (N : Nat) (y0 : Option (Nat × Nat)) (y1 : Option (Nat × Nat)) (y2 : Option (Nat × Nat)) (y3 : Nat) (y4 : Option Nat) (y5 : Int) (y6 : Int) (J : KF R) (σ : St) : runK Try.prog call N f5c27 f5a27 J (f5e19 y0 y1 y2 y3 y4 y5 y6) σ = loopK (f5L27 call N) f5a27 N J (f5e19 y0 y1 y2 y3 y4 y5 y6) σ := runK_loop' (by kernel_rfl) (by kernel_rfl) (by kernel_rfl)
theorem f5n28 {R : Type} (call : CallF R) (N : Nat) (J : KF R) (e : Env) (σ : St) : runK Try.prog call N f5c28 f5a28 J e σ = runK Try.prog call N f5c29 f5a29 (seqC (fun K e σ => runK Try.prog call N f5c30 f5a30 K e σ) f5a28 J) e σ := runK_seq' (by kernel_rfl) (by kernel_rfl) (by kernel_rfl)
theorem f5r29_f5e19 {R : Type} (call : CallF R) (N : Nat) (y0 : Option (Nat × Nat)) (y1 : Option (Nat × Nat)) (y2 : Option (Nat × Nat)) (y3 : Nat) (y4 : Option Nat) (y5 : Int) (y6 : Int) (J : KF R) (σ : St) :
    runK Try.prog call N f5c29 f5a29 J (f5e19 y0 y1 y2 y3 y4 y5 y6) σ =
J Ex.normal (f5e20 y0 y1 y2 y3 y4 y5 y6 (decide (y6 < y5))) σ := hide (by kernel_rfl)
theorem f5z28_f5e20 (y0 : Option (Nat × Nat)) (y1 : Option (Nat × Nat)) (y2 : Option (Nat × Nat)) (y3 : Nat) (y4 : Option Nat) (y5 : Int) (y6 : Int) (y7 : Bool) : Ann.clr f5a28 (f5e20 y0 y1 y2 y3 y4 y5 y6 y7) = f5e20 y0 y1 y2 y3 y4 y5 y6 y7 := hide (by kernel_rfl)
theorem f5n30 {R : Type} (call : CallF R) (N : Nat) (J : KF R) (e : Env) (σ : St) : runK Try.prog call N f5c30 f5a30 J e σ = runK Try.prog call N f5c31 f5a31 (seqC (fun K e σ => runK Try.prog call N f5c32 f5a32 K e σ) f5a30 J) e σ := runK_seq' (by kernel_rfl) (by kernel_rfl) (by kernel_rfl)
theorem f5x31_f5e20 {R : Type} (call : CallF R) (N : Nat) (y0 : Option (Nat × Nat)) (y1 : Option (Nat × Nat)) (y2 : Option (Nat × Nat)) (y3 : Nat) (y4 : Option Nat) (y5 : Int) (y6 : Int) (y7 : Bool) (J : KF R) (σ : St) : runK Try.prog call N f5c31 f5a31 J (f5e20 y0 y1 y2 y3 y4 y5 y6 y7) σ = if y7 = true then runK Try.prog call N f5c33 f5a33 (condC f5a31 J) (f5e20 y0 y1 y2 y3 y4 y5 y6 y7) σ else runK Try.prog call N f5c34 f5a34 (condC f5a31 J) (f5e20 y0 y1 y2 y3 y4 y5 y6 y7) σ := runK_cond' (o := Operand.tmp (70 : Nat)) (by kernel_rfl) (by kernel_rfl) (by kernel_rfl) (by kernel_rfl)
theorem f5n33 {R : Type} (call : CallF R) (N : Nat) (J : KF R) (e : Env) (σ : St) : runK Try.prog call N f5c33 f5a33 J e σ = J .normal e σ := runK_skip' (by kernel_rfl)
theorem f5z31_f5e20 (y0 : Option (Nat × Nat)) (y1 : Option (Nat × Nat)) (y2 : Option (Nat × Nat)) (y3 : Nat) (y4 : Option Nat) (y5 : Int) (y6 : Int) (y7 : Bool) : Ann.clr f5a31 (f5e20 y0 y1 y2 y3 y4 y5 y6 y7) = f5e19 y0 y1 y2 y3 y4 y5 y6 := hide (by kernel_rfl)
theorem f5y34_f5e20 {R : Type} (call : CallF R) (N : Nat) (y0 : Option (Nat × Nat)) (y1 : Option (Nat × Nat)) (y2 : Option (Nat × Nat)) (y3 : Nat) (y4 : Option Nat) (y5 : Int) (y6 : Int) (y7 : Bool) (J : KF R) (σ : St) : runK Try.prog call N f5c34 f5a34 J (f5e20 y0 y1 y2 y3 y4 y5 y6 y7) σ = J (.exit 0) (f5e21) σ := runK_exit' (by kernel_rfl) (by kernel_rfl)
theorem f5z30_f5e19 (y0 : Option (Nat × Nat)) (y1 : Option (Nat × Nat)) (y2 : Option (Nat × Nat)) (y3 : Nat) (y4 : Option Nat) (y5 : Int) (y6 : Int) : Ann.clr f5a30 (f5e19 y0 y1 y2 y3 y4 y5 y6) = f5e19 y0 y1 y2 y3 y4 y5 y6 := hide (by kernel_rfl)
theorem f5n32 {R : Type} (call : CallF R) (N : Nat) (J : KF R) (e : Env) (σ : St) : runK Try.prog call N f5c32 f5a32 J e σ = runK Try.prog call N f5c35 f5a35 (seqC (fun K e σ => runK Try.prog call N f5c36 f5a36 K e σ) f5a32 J) e σ := runK_seq' (by kernel_rfl) (by kernel_rfl) (by kernel_rfl)
theorem f5n35 {R : Type} (call : CallF R) (N : Nat) (J : KF R) (e : Env) (σ : St) : runK Try.prog call N f5c35 f5a35 J e σ = runK Try.prog call N f5c37 f5a37 (blockC 1 f5a35 J) e σ := runK_block' (by kernel_rfl) (by kernel_rfl)
theorem f5n37 {R : Type} (call : CallF R) (N : Nat) (J : KF R) (e : Env) (σ : St) : runK Try.prog call N f5c37 f5a37 J e σ = runK Try.prog call N f5c38 f5a38 (seqC (fun K e σ => runK Try.prog call N f5c39 f5a39 K e σ) f5a37 J) e σ := runK_seq' (by kernel_rfl) (by kernel_rfl) (by kernel_rfl)
theorem f5r38_f5e19 {R : Type} (call : CallF R) (N : Nat) (y0 : Option (Nat × Nat)) (y1 : Option (Nat × Nat)) (y2 : Option (Nat × Nat)) (y3 : Nat) (y4 : Option Nat) (y5 : Int) (y6 : Int) (J : KF R) (σ : St) :
    runK Try.prog call N f5c38 f5a38 J (f5e19 y0 y1 y2 y3 y4 y5 y6) σ =
if (0 : Int) ≤ y6 ∧ y6 < (↑y3 : Int) then
  Option.bind y2 fun v0 =>
    Option.bind (St.ld σ (Prod.fst v0) (Prod.snd v0 + Int.toNat y6 * (4 : Nat))) fun v1 =>
      Option.bind (AV.toInt IntKind.i64 v1) fun v2 =>
        Option.bind (St.ld σ (Prod.fst v0) (Prod.snd v0 + Int.toNat y6 * (4 : Nat) + (1 : Nat))) fun v3 =>
          Option.bind (AV.toInt IntKind.i64 v3) fun v4 =>
            Option.bind (St.ld σ (Prod.fst v0) (Prod.snd v0 + Int.toNat y6 * (4 : Nat) + (2 : Nat))) fun v5 =>
              Option.bind (AV.toStr v5) fun v6 =>
                Option.bind (St.ld σ (Prod.fst v0) (Prod.snd v0 + Int.toNat y6 * (4 : Nat) + (3 : Nat))) fun v7 =>
                  Option.bind (AV.toStr v7) fun v8 =>
                    Option.bind
                      (St.st
                        (St.new σ
                          (Blk.cells
                            [AV.int IntKind.i64 (0 : Int), AV.int IntKind.i64 (0 : Int), AV.str (ByteArray.mk #[]), AV.str (ByteArray.mk #[])] true))
                        (St.next σ) (0 : Nat) [AV.int IntKind.i64 v2, AV.int IntKind.i64 v4, AV.str v6, AV.str v8])
                      fun v9 =>
                      J Ex.normal (f5e22 y0 y1 (St.next σ) y2 y3 y4 y5 y6 (some (Prod.fst v0, Prod.snd v0 + Int.toNat y6 * (4 : Nat))) v2 v4 v6 v8) v9
else none := hide (by kernel_rfl)
theorem f5z37_f5e22 (y0 : Option (Nat × Nat)) (y1 : Option (Nat × Nat)) (y2 : Nat) (y3 : Option (Nat × Nat)) (y4 : Nat) (y5 : Option Nat) (y6 : Int) (y7 : Int) (y8 : Option (Nat × Nat)) (y9 : Int) (y10 : Int) (y11 : ByteArray) (y12 : ByteArray) : Ann.clr f5a37 (f5e22 y0 y1 y2 y3 y4 y5 y6 y7 y8 y9 y10 y11 y12) = f5e23 y0 y1 y2 y3 y4 y5 y6 y7 := hide (by kernel_rfl)
theorem f5n39 {R : Type} (call : CallF R) (N : Nat) (J : KF R) (e : Env) (σ : St) : runK Try.prog call N f5c39 f5a39 J e σ = runK Try.prog call N f5c40 f5a40 (seqC (fun K e σ => runK Try.prog call N f5c41 f5a41 K e σ) f5a39 J) e σ := runK_seq' (by kernel_rfl) (by kernel_rfl) (by kernel_rfl)
theorem f5r40_f5e23 {R : Type} (call : CallF R) (N : Nat) (y0 : Option (Nat × Nat)) (y1 : Option (Nat × Nat)) (y2 : Nat) (y3 : Option (Nat × Nat)) (y4 : Nat) (y5 : Option Nat) (y6 : Int) (y7 : Int) (J : KF R) (σ : St) :
    runK Try.prog call N f5c40 f5a40 J (f5e23 y0 y1 y2 y3 y4 y5 y6 y7) σ =
Option.bind (St.ld σ y2 (0 : Nat)) fun v0 =>
  Option.bind (AV.toInt IntKind.i64 v0) fun v1 =>
    Option.bind (St.ld σ y2 (1 : Nat)) fun v2 =>
      Option.bind (AV.toInt IntKind.i64 v2) fun v3 =>
        Option.bind (St.ld σ y2 (2 : Nat)) fun v4 =>
          Option.bind (AV.toStr v4) fun v5 =>
            Option.bind (St.ld σ y2 (3 : Nat)) fun v6 =>
              Option.bind (AV.toStr v6) fun v7 =>
                call (24 : Nat) [AV.ptr y0, AV.int IntKind.i64 v1, AV.int IntKind.i64 v3, AV.str v5, AV.str v7] σ fun v8 v9 =>
                  Option.bind (AV.toTuple v8) fun v10 =>
                    if List.length v10 = (2 : Nat) then
                      Option.bind (List.head? v10) fun v11 =>
                        Option.bind (AV.toBool v11) fun v12 =>
                          Option.bind (List.head? (List.tail v10)) fun v13 =>
                            Option.bind (AV.toInt IntKind.i64 v13) fun v14 =>
                              J Ex.normal (f5e24 y0 y1 y2 v12 v14 y3 y4 y5 y6 y7 v12 v14 y0 y2 v1 y2 v3 y2 v5 y2 v7 v12 v14 v12 v14) v9
                    else none := hide (by kernel_rfl)
theorem f5z39_f5e24 (y0 : Option (Nat × Nat)) (y1 : Option (Nat × Nat)) (y2 : Nat) (y3 : Bool) (y4 : Int) (y5 : Option (Nat × Nat)) (y6 : Nat) (y7 : Option Nat) (y8 : Int) (y9 : Int) (y10 : Bool) (y11 : Int) (y12 : Option (Nat × Nat)) (y13 : Nat) (y14 : Int) (y15 : Nat) (y16 : Int) (y17 : Nat) (y18 : ByteArray) (y19 : Nat) (y20 : ByteArray) (y21 : Bool) (y22 : Int) (y23 : Bool) (y24 : Int) : Ann.clr f5a39 (f5e24 y0 y1 y2 y3 y4 y5 y6 y7 y8 y9 y10 y11 y12 y13 y14 y15 y16 y17 y18 y19 y20 y21 y22 y23 y24) = f5e25 y0 y1 y2 y3 y4 y5 y6 y7 y8 y9 := hide (by kernel_rfl)
theorem f5n41 {R : Type} (call : CallF R) (N : Nat) (J : KF R) (e : Env) (σ : St) : runK Try.prog call N f5c41 f5a41 J e σ = runK Try.prog call N f5c42 f5a42 (seqC (fun K e σ => runK Try.prog call N f5c43 f5a43 K e σ) f5a41 J) e σ := runK_seq' (by kernel_rfl) (by kernel_rfl) (by kernel_rfl)
theorem f5r42_f5e25 {R : Type} (call : CallF R) (N : Nat) (y0 : Option (Nat × Nat)) (y1 : Option (Nat × Nat)) (y2 : Nat) (y3 : Bool) (y4 : Int) (y5 : Option (Nat × Nat)) (y6 : Nat) (y7 : Option Nat) (y8 : Int) (y9 : Int) (J : KF R) (σ : St) :
    runK Try.prog call N f5c42 f5a42 J (f5e25 y0 y1 y2 y3 y4 y5 y6 y7 y8 y9) σ =
Option.bind (St.ld σ y2 (0 : Nat)) fun v0 =>
  Option.bind (AV.toInt IntKind.i64 v0) fun v1 =>
    Option.bind (St.ld σ y2 (1 : Nat)) fun v2 =>
      Option.bind (AV.toInt IntKind.i64 v2) fun v3 =>
        Option.bind (St.ld σ y2 (2 : Nat)) fun v4 =>
          Option.bind (AV.toStr v4) fun v5 =>
            Option.bind (St.ld σ y2 (3 : Nat)) fun v6 =>
              Option.bind (AV.toStr v6) fun v7 =>
                call (25 : Nat) [AV.ptr y1, AV.agg [AV.int IntKind.i64 v1, AV.int IntKind.i64 v3, AV.str v5, AV.str v7]] σ fun v8 v9 =>
                  Option.bind (AV.toTuple v8) fun v10 =>
                    if List.length v10 = (2 : Nat) then
                      Option.bind (List.head? v10) fun v11 =>
                        Option.bind (AV.toBool v11) fun v12 =>
                          Option.bind (List.head? (List.tail v10)) fun v13 =>
                            Option.bind (AV.toInt IntKind.i64 v13) fun v14 =>
                              J Ex.normal (f5e26 y0 y1 y2 y3 y4 v12 v14 y5 y6 y7 y8 y9 v12 v14 y1 y2 v1 y2 v3 y2 v5 y2 v7 v1 v3 v5 v7 v12 v14 v12 v14)
                                v9
                    else none := hide (by kernel_rfl)
theorem f5z41_f5e26 (y0 : Option (Nat × Nat)) (y1 : Option (Nat × Nat)) (y2 : Nat) (y3 : Bool) (y4 : Int) (y5 : Bool) (y6 : Int) (y7 : Option (Nat × Nat)) (y8 : Nat) (y9 : Option Nat) (y10 : Int) (y11 : Int) (y12 : Bool) (y13 : Int) (y14 : Option (Nat × Nat)) (y15 : Nat) (y16 : Int) (y17 : Nat) (y18 : Int) (y19 : Nat) (y20 : ByteArray) (y21 : Nat) (y22 : ByteArray) (y23 : Int) (y24 : Int) (y25 : ByteArray) (y26 : ByteArray) (y27 : Bool) (y28 : Int) (y29 : Bool) (y30 : Int) : Ann.clr f5a41 (f5e26 y0 y1 y2 y3 y4 y5 y6 y7 y8 y9 y10 y11 y12 y13 y14 y15 y16 y17 y18 y19 y20 y21 y22 y23 y24 y25 y26 y27 y28 y29 y30) = f5e27 y0 y1 y2 y3 y4 y5 y6 y7 y8 y9 y10 y11 := hide (by kernel_rfl)
theorem f5n43 {R : Type} (call : CallF R) (N : Nat) (J : KF R) (e : Env) (σ : St) : runK Try.prog call N f5c43 f5a43 J e σ = runK Try.prog call N f5c44 f5a44 (seqC (fun K e σ => runK Try.prog call N f5c45 f5a45 K e σ) f5a43 J) e σ := runK_seq' (by kernel_rfl) (by kernel_rfl) (by kernel_rfl)
theorem f5n44 {R : Type} (call : CallF R) (N : Nat) (J : KF R) (e : Env) (σ : St) : runK Try.prog call N f5c44 f5a44 J e σ = runK Try.prog call N f5c46 f5a46 (seqC (fun K e σ => runK Try.prog call N f5c47 f5a47 K e σ) f5a44 J) e σ := runK_seq' (by kernel_rfl) (by kernel_rfl) (by kernel_rfl)
theorem f5r46_f5e27 {R : Type} (call : CallF R) (N : Nat) (y0 : Option (Nat × Nat)) (y1 : Option (Nat × Nat)) (y2 : Nat) (y3 : Bool) (y4 : Int) (y5 : Bool) (y6 : Int) (y7 : Option (Nat × Nat)) (y8 : Nat) (y9 : Option Nat) (y10 : Int) (y11 : Int) (J : KF R) (σ : St) :
    runK Try.prog call N f5c46 f5a46 J (f5e27 y0 y1 y2 y3 y4 y5 y6 y7 y8 y9 y10 y11) σ =
if (!y3 == y5) = true then J Ex.normal (f5e28 y0 y1 y2 y3 y4 y5 y6 y7 y8 y9 y10 y11 y3 y5 (!y3 == y5) true true) σ
else J Ex.normal (f5e29 y0 y1 y2 y3 y4 y5 y6 y7 y8 y9 y10 y11 y3 y5 (!y3 == y5) false y4 y6 (y4 != y6) (y4 != y6)) σ := hide (by kernel_rfl)
theorem f5z44_f5e28 (y0 : Option (Nat × Nat)) (y1 : Option (Nat × Nat)) (y2 : Nat) (y3 : Bool) (y4 : Int) (y5 : Bool) (y6 : Int) (y7 : Option (Nat × Nat)) (y8 : Nat) (y9 : Option Nat) (y10 : Int) (y11 : Int) (y12 : Bool) (y13 : Bool) (y14 : Bool) (y15 : Bool) (y16 : Bool) : Ann.clr f5a44 (f5e28 y0 y1 y2 y3 y4 y5 y6 y7 y8 y9 y10 y11 y12 y13 y14 y15 y16) = f5e30 y0 y1 y2 y7 y8 y9 y10 y11 y16 := hide (by kernel_rfl)
theorem f5x47_f5e30 {R : Type} (call : CallF R) (N : Nat) (y0 : Option (Nat × Nat)) (y1 : Option (Nat × Nat)) (y2 : Nat) (y3 : Option (Nat × Nat)) (y4 : Nat) (y5 : Option Nat) (y6 : Int) (y7 : Int) (y8 : Bool) (J : KF R) (σ : St) : runK Try.prog call N f5c47 f5a47 J (f5e30 y0 y1 y2 y3 y4 y5 y6 y7 y8) σ = if y8 = true then runK Try.prog call N f5c48 f5a48 (condC f5a47 J) (f5e30 y0 y1 y2 y3 y4 y5 y6 y7 y8) σ else runK Try.prog call N f5c49 f5a49 (condC f5a47 J) (f5e30 y0 y1 y2 y3 y4 y5 y6 y7 y8) σ := runK_cond' (o := Operand.tmp (107 : Nat)) (by kernel_rfl) (by kernel_rfl) (by kernel_rfl) (by kernel_rfl)
theorem f5n48 {R : Type} (call : CallF R) (N : Nat) (J : KF R) (e : Env) (σ : St) : runK Try.prog call N f5c48 f5a48 J e σ = runK Try.prog call N f5c50 f5a50 (seqC (fun K e σ => runK Try.prog call N f5c51 f5a51 K e σ) f5a48 J) e σ := runK_seq' (by kernel_rfl) (by kernel_rfl) (by kernel_rfl)
theorem f5r50_f5e30 {R : Type} (call : CallF R) (N : Nat) (y0 : Option (Nat × Nat)) (y1 : Option (Nat × Nat)) (y2 : Nat) (y3 : Option (Nat × Nat)) (y4 : Nat) (y5 : Option Nat) (y6 : Int) (y7 : Int) (y8 : Bool) (J : KF R) (σ : St) :
    runK Try.prog call N f5c50 f5a50 J (f5e30 y0 y1 y2 y3 y4 y5 y6 y7 y8) σ =
J Ex.normal (f5e31 false y0 y1 y2 y3 y4 y5 y6 y7 y8) σ := hide (by kernel_rfl)
theorem f5z48_f5e31 (y0 : Bool) (y1 : Option (Nat × Nat)) (y2 : Option (Nat × Nat)) (y3 : Nat) (y4 : Option (Nat × Nat)) (y5 : Nat) (y6 : Option Nat) (y7 : Int) (y8 : Int) (y9 : Bool) : Ann.clr f5a48 (f5e31 y0 y1 y2 y3 y4 y5 y6 y7 y8 y9) = f5e11 y0 := hide (by kernel_rfl)
theorem f5y51_f5e11 {R : Type} (call : CallF R) (N : Nat) (y0 : Bool) (J : KF R) (σ : St) : runK Try.prog call N f5c51 f5a51 J (f5e11 y0) σ = J .ret (f5e11 y0) σ := runK_ret' (by kernel_rfl) (by kernel_rfl)
theorem f5n49 {R : Type} (call : CallF R) (N : Nat) (J : KF R) (e : Env) (σ : St) : runK Try.prog call N f5c49 f5a49 J e σ = J .normal e σ := runK_skip' (by kernel_rfl)
theorem f5z47_f5e30 (y0 : Option (Nat × Nat)) (y1 : Option (Nat × Nat)) (y2 : Nat) (y3 : Option (Nat × Nat)) (y4 : Nat) (y5 : Option Nat) (y6 : Int) (y7 : Int) (y8 : Bool) : Ann.clr f5a47 (f5e30 y0 y1 y2 y3 y4 y5 y6 y7 y8) = f5e23 y0 y1 y2 y3 y4 y5 y6 y7 := hide (by kernel_rfl)
theorem f5z44_f5e29 (y0 : Option (Nat × Nat)) (y1 : Option (Nat × Nat)) (y2 : Nat) (y3 : Bool) (y4 : Int) (y5 : Bool) (y6 : Int) (y7 : Option (Nat × Nat)) (y8 : Nat) (y9 : Option Nat) (y10 : Int) (y11 : Int) (y12 : Bool) (y13 : Bool) (y14 : Bool) (y15 : Bool) (y16 : Int) (y17 : Int) (y18 : Bool) (y19 : Bool) : Ann.clr f5a44 (f5e29 y0 y1 y2 y3 y4 y5 y6 y7 y8 y9 y10 y11 y12 y13 y14 y15 y16 y17 y18 y19) = f5e30 y0 y1 y2 y7 y8 y9 y10 y11 y19 := hide (by kernel_rfl)
theorem f5z43_f5e23 (y0 : Option (Nat × Nat)) (y1 : Option (Nat × Nat)) (y2 : Nat) (y3 : Option (Nat × Nat)) (y4 : Nat) (y5 : Option Nat) (y6 : Int) (y7 : Int) : Ann.clr f5a43 (f5e23 y0 y1 y2 y3 y4 y5 y6 y7) = f5e23 y0 y1 y2 y3 y4 y5 y6 y7 := hide (by kernel_rfl)
theorem f5n45 {R : Type} (call : CallF R) (N : Nat) (J : KF R) (e : Env) (σ : St) : runK Try.prog call N f5c45 f5a45 J e σ = runK Try.prog call N f5c52 f5a52 (seqC (fun K e σ => runK Try.prog call N f5c53 f5a53 K e σ) f5a45 J) e σ := runK_seq' (by kernel_rfl) (by kernel_rfl) (by kernel_rfl)
theorem f5r52_f5e23 {R : Type} (call : CallF R) (N : Nat) (y0 : Option (Nat × Nat)) (y1 : Option (Nat × Nat)) (y2 : Nat) (y3 : Option (Nat × Nat)) (y4 : Nat) (y5 : Option Nat) (y6 : Int) (y7 : Int) (J : KF R) (σ : St) :
    runK Try.prog call N f5c52 f5a52 J (f5e23 y0 y1 y2 y3 y4 y5 y6 y7) σ =
call (26 : Nat) [AV.ptr y0] σ fun v0 v1 =>
  Option.bind (AV.toTuple v0) fun v2 =>
    if List.length v2 = (2 : Nat) then
      Option.bind (List.head? v2) fun v3 =>
        Option.bind (AV.toStr v3) fun v4 =>
          Option.bind (List.head? (List.tail v2)) fun v5 =>
            Option.bind (AV.toBool v5) fun v6 => J Ex.normal (f5e32 y0 y1 y2 v4 v6 y3 y4 y5 y6 y7 v4 v6 y0 v4 v6 v4 v6) v1
    else none := hide (by kernel_rfl)
theorem f5z45_f5e32 (y0 : Option (Nat × Nat)) (y1 : Option (Nat × Nat)) (y2 : Nat) (y3 : ByteArray) (y4 : Bool) (y5 : Option (Nat × Nat)) (y6 : Nat) (y7 : Option Nat) (y8 : Int) (y9 : Int) (y10 : ByteArray) (y11 : Bool) (y12 : Option (Nat × Nat)) (y13 : ByteArray) (y14 : Bool) (y15 : ByteArray) (y16 : Bool) : Ann.clr f5a45 (f5e32 y0 y1 y2 y3 y4 y5 y6 y7 y8 y9 y10 y11 y12 y13 y14 y15 y16) = f5e33 y0 y1 y2 y3 y4 y5 y6 y7 y8 y9 := hide (by kernel_rfl)
theorem f5n53 {R : Type} (call : CallF R) (N : Nat) (J : KF R) (e : Env) (σ : St) : runK Try.prog call N f5c53 f5a53 J e σ = runK Try.prog call N f5c54 f5a54 (seqC (fun K e σ => runK Try.prog call N f5c55 f5a55 K e σ) f5a53 J) e σ := runK_seq' (by kernel_rfl) (by kernel_rfl) (by kernel_rfl)
theorem f5r54_f5e33 {R : Type} (call : CallF R) (N : Nat) (y0 : Option (Nat × Nat)) (y1 : Option (Nat × Nat)) (y2 : Nat) (y3 : ByteArray) (y4 : Bool) (y5 : Option (Nat × Nat)) (y6 : Nat) (y7 : Option Nat) (y8 : Int) (y9 : Int) (J : KF R) (σ : St) :
    runK Try.prog call N f5c54 f5a54 J (f5e33 y0 y1 y2 y3 y4 y5 y6 y7 y8 y9) σ =
Option.bind y1 fun v0 =>
  Option.bind (St.ld σ (Prod.fst v0) (Prod.snd v0 + (2 : Nat))) fun v1 =>
    Option.bind (AV.toInt IntKind.i64 v1) fun v2 =>
      call (27 : Nat) [AV.ptr y1, AV.int IntKind.i64 (1 : Int), AV.int IntKind.i64 v2] σ fun v3 v4 =>
        Option.bind (AV.toTuple v3) fun v5 =>
          if List.length v5 = (2 : Nat) then
            Option.bind (List.head? v5) fun v6 =>
              Option.bind (AV.toAgg v6) fun v7 =>
                if List.length v7 = (4 : Nat) then
                  Option.bind (List.head? v7) fun v8 =>
                    Option.bind (AV.toInt IntKind.i64 v8) fun v9 =>
                      Option.bind (List.head? (List.tail v7)) fun v10 =>
                        Option.bind (AV.toInt IntKind.i64 v10) fun v11 =>
                          Option.bind (List.head? (List.tail (List.tail v7))) fun v12 =>
                            Option.bind (AV.toStr v12) fun v13 =>
                              Option.bind (List.head? (List.tail (List.tail (List.tail v7)))) fun v14 =>
                                Option.bind (AV.toStr v14) fun v15 =>
                                  Option.bind (List.head? (List.tail v5)) fun v16 =>
                                    Option.bind (AV.toBool v16) fun v17 =>
                                      Option.bind
                                        (St.st
                                          (St.new v4
                                            (Blk.cells
                                              [AV.int IntKind.i64 (0 : Int), AV.int IntKind.i64 (0 : Int), AV.str (ByteArray.mk #[]),
                                                AV.str (ByteArray.mk #[])]
                                              true))
                                          (St.next v4) (0 : Nat) [AV.int IntKind.i64 v9, AV.int IntKind.i64 v11, AV.str v13, AV.str v15])
                                        fun v18 =>
                                        J Ex.normal
                                          (f5e34 y0 y1 y2 y3 y4 (St.next v4) v17 y5 y6 y7 y8 y9 v9 v11 v13 v15 v17 y1 y1 (some v0)
                                            (some (Prod.fst v0, Prod.snd v0 + (2 : Nat))) v2 v9 v11 v13 v15 v17 v9 v11 v13 v15 v17)
                                          v18
                else none
          else none := hide (by kernel_rfl)
theorem f5z53_f5e34 (y0 : Option (Nat × Nat)) (y1 : Option (Nat × Nat)) (y2 : Nat) (y3 : ByteArray) (y4 : Bool) (y5 : Nat) (y6 : Bool) (y7 : Option (Nat × Nat)) (y8 : Nat) (y9 : Option Nat) (y10 : Int) (y11 : Int) (y12 : Int) (y13 : Int) (y14 : ByteArray) (y15 : ByteArray) (y16 : Bool) (y17 : Option (Nat × Nat)) (y18 : Option (Nat × Nat)) (y19 : Option (Nat × Nat)) (y20 : Option (Nat × Nat)) (y21 : Int) (y22 : Int) (y23 : Int) (y24 : ByteArray) (y25 : ByteArray) (y26 : Bool) (y27 : Int) (y28 : Int) (y29 : ByteArray) (y30 : ByteArray) (y31 : Bool) : Ann.clr f5a53 (f5e34 y0 y1 y2 y3 y4 y5 y6 y7 y8 y9 y10 y11 y12 y13 y14 y15 y16 y17 y18 y19 y20 y21 y22 y23 y24 y25 y26 y27 y28 y29 y30 y31) = f5e35 y0 y1 y2 y3 y4 y5 y6 y7 y8 y9 y10 y11 := hide (by kernel_rfl)
theorem f5n55 {R : Type} (call : CallF R) (N : Nat) (J : KF R) (e : Env) (σ : St) : runK Try.prog call N f5c55 f5a55 J e σ = runK Try.prog call N f5c56 f5a56 (seqC (fun K e σ => runK Try.prog call N f5c57 f5a57 K e σ) f5a55 J) e σ := runK_seq' (by kernel_rfl) (by kernel_rfl) (by kernel_rfl)
theorem f5n56 {R : Type} (call : CallF R) (N : Nat) (J : KF R) (e : Env) (σ : St) : runK Try.prog call N f5c56 f5a56 J e σ = runK Try.prog call N f5c58 f5a58 (seqC (fun K e σ => runK Try.prog call N f5c59 f5a59 K e σ) f5a56 J) e σ := runK_seq' (by kernel_rfl) (by kernel_rfl) (by kernel_rfl)
theorem f5r58_f5e35 {R : Type} (call : CallF R) (N : Nat) (y0 : Option (Nat × Nat)) (y1 : Option (Nat × Nat)) (y2 : Nat) (y3 : ByteArray) (y4 : Bool) (y5 : Nat) (y6 : Bool) (y7 : Option (Nat × Nat)) (y8 : Nat) (y9 : Option Nat) (y10 : Int) (y11 : Int) (J : KF R) (σ : St) :
    runK Try.prog call N f5c58 f5a58 J (f5e35 y0 y1 y2 y3 y4 y5 y6 y7 y8 y9 y10 y11) σ =
if (!y4 == y6) = true then J Ex.normal (f5e36 y0 y1 y2 y3 y4 y5 y6 y7 y8 y9 y10 y11 y4 y6 (!y4 == y6) true true) σ
else
  Option.bind (St.ld σ y5 (2 : Nat)) fun v0 =>
    Option.bind (AV.toStr v0) fun v1 =>
      J Ex.normal (f5e37 y0 y1 y2 y3 y4 y5 y6 y7 y8 y9 y10 y11 y4 y6 (!y4 == y6) false y3 y5 v1 (!decide (y3 = v1)) !decide (y3 = v1)) σ := hide (by kernel_rfl)
theorem f5z56_f5e36 (y0 : Option (Nat × Nat)) (y1 : Option (Nat × Nat)) (y2 : Nat) (y3 : ByteArray) (y4 : Bool) (y5 : Nat) (y6 : Bool) (y7 : Option (Nat × Nat)) (y8 : Nat) (y9 : Option Nat) (y10 : Int) (y11 : Int) (y12 : Bool) (y13 : Bool) (y14 : Bool) (y15 : Bool) (y16 : Bool) : Ann.clr f5a56 (f5e36 y0 y1 y2 y3 y4 y5 y6 y7 y8 y9 y10 y11 y12 y13 y14 y15 y16) = f5e38 y0 y1 y2 y7 y8 y9 y10 y11 y16 := hide (by kernel_rfl)
theorem f5x59_f5e38 {R : Type} (call : CallF R) (N : Nat) (y0 : Option (Nat × Nat)) (y1 : Option (Nat × Nat)) (y2 : Nat) (y3 : Option (Nat × Nat)) (y4 : Nat) (y5 : Option Nat) (y6 : Int) (y7 : Int) (y8 : Bool) (J : KF R) (σ : St) : runK Try.prog call N f5c59 f5a59 J (f5e38 y0 y1 y2 y3 y4 y5 y6 y7 y8) σ = if y8 = true then runK Try.prog call N f5c60 f5a60 (condC f5a59 J) (f5e38 y0 y1 y2 y3 y4 y5 y6 y7 y8) σ else runK Try.prog call N f5c61 f5a61 (condC f5a59 J) (f5e38 y0 y1 y2 y3 y4 y5 y6 y7 y8) σ := runK_cond' (o := Operand.tmp (130 : Nat)) (by kernel_rfl) (by kernel_rfl) (by kernel_rfl) (by kernel_rfl)
theorem f5n60 {R : Type} (call : CallF R) (N : Nat) (J : KF R) (e : Env) (σ : St) : runK Try.prog call N f5c60 f5a60 J e σ = runK Try.prog call N f5c62 f5a62 (seqC (fun K e σ => runK Try.prog call N f5c63 f5a63 K e σ) f5a60 J) e σ := runK_seq' (by kernel_rfl) (by kernel_rfl) (by kernel_rfl)
theorem f5r62_f5e38 {R : Type} (call : CallF R) (N : Nat) (y0 : Option (Nat × Nat)) (y1 : Option (Nat × Nat)) (y2 : Nat) (y3 : Option (Nat × Nat)) (y4 : Nat) (y5 : Option Nat) (y6 : Int) (y7 : Int) (y8 : Bool) (J : KF R) (σ : St) :
    runK Try.prog call N f5c62 f5a62 J (f5e38 y0 y1 y2 y3 y4 y5 y6 y7 y8) σ =
J Ex.normal (f5e39 false y0 y1 y2 y3 y4 y5 y6 y7 y8) σ := hide (by kernel_rfl)
theorem f5z60_f5e39 (y0 : Bool) (y1 : Option (Nat × Nat)) (y2 : Option (Nat × Nat)) (y3 : Nat) (y4 : Option (Nat × Nat)) (y5 : Nat) (y6 : Option Nat) (y7 : Int) (y8 : Int) (y9 : Bool) : Ann.clr f5a60 (f5e39 y0 y1 y2 y3 y4 y5 y6 y7 y8 y9) = f5e11 y0 := hide (by kernel_rfl)
theorem f5y63_f5e11 {R : Type} (call : CallF R) (N : Nat) (y0 : Bool) (J : KF R) (σ : St) : runK Try.prog call N f5c63 f5a63 J (f5e11 y0) σ = J .ret (f5e11 y0) σ := runK_ret' (by kernel_rfl) (by kernel_rfl)
theorem f5n61 {R : Type} (call : CallF R) (N : Nat) (J : KF R) (e : Env) (σ : St) : runK Try.prog call N f5c61 f5a61 J e σ = J .normal e σ := runK_skip' (by kernel_rfl)
theorem f5z59_f5e38 (y0 : Option (Nat × Nat)) (y1 : Option (Nat × Nat)) (y2 : Nat) (y3 : Option (Nat × Nat)) (y4 : Nat) (y5 : Option Nat) (y6 : Int) (y7 : Int) (y8 : Bool) : Ann.clr f5a59 (f5e38 y0 y1 y2 y3 y4 y5 y6 y7 y8) = f5e23 y0 y1 y2 y3 y4 y5 y6 y7 := hide (by kernel_rfl)
theorem f5z56_f5e37 (y0 : Option (Nat × Nat)) (y1 : Option (Nat × Nat)) (y2 : Nat) (y3 : ByteArray) (y4 : Bool) (y5 : Nat) (y6 : Bool) (y7 : Option (Nat × Nat)) (y8 : Nat) (y9 : Option Nat) (y10 : Int) (y11 : Int) (y12 : Bool) (y13 : Bool) (y14 : Bool) (y15 : Bool) (y16 : ByteArray) (y17 : Nat) (y18 : ByteArray) (y19 : Bool) (y20 : Bool) : Ann.clr f5a56 (f5e37 y0 y1 y2 y3 y4 y5 y6 y7 y8 y9 y10 y11 y12 y13 y14 y15 y16 y17 y18 y19 y20) = f5e38 y0 y1 y2 y7 y8 y9 y10 y11 y20 := hide (by kernel_rfl)
theorem f5z55_f5e23 (y0 : Option (Nat × Nat)) (y1 : Option (Nat × Nat)) (y2 : Nat) (y3 : Option (Nat × Nat)) (y4 : Nat) (y5 : Option Nat) (y6 : Int) (y7 : Int) : Ann.clr f5a55 (f5e23 y0 y1 y2 y3 y4 y5 y6 y7) = f5e23 y0 y1 y2 y3 y4 y5 y6 y7 := hide (by kernel_rfl)
theorem f5n57 {R : Type} (call : CallF R) (N : Nat) (J : KF R) (e : Env) (σ : St) : runK Try.prog call N f5c57 f5a57 J e σ = runK Try.prog call N f5c64 f5a64 (seqC (fun K e σ => runK Try.prog call N f5c65 f5a65 K e σ) f5a57 J) e σ := runK_seq' (by kernel_rfl) (by kernel_rfl) (by kernel_rfl)
theorem f5r64_f5e23 {R : Type} (call : CallF R) (N : Nat) (y0 : Option (Nat × Nat)) (y1 : Option (Nat × Nat)) (y2 : Nat) (y3 : Option (Nat × Nat)) (y4 : Nat) (y5 : Option Nat) (y6 : Int) (y7 : Int) (J : KF R) (σ : St) :
    runK Try.prog call N f5c64 f5a64 J (f5e23 y0 y1 y2 y3 y4 y5 y6 y7) σ =
J Ex.normal (f5e40 y0 y1 y2 (0 : Int) y3 y4 y5 y6 y7) σ := hide (by kernel_rfl)
theorem f5z57_f5e40 (y0 : Option (Nat × Nat)) (y1 : Option (Nat × Nat)) (y2 : Nat) (y3 : Int) (y4 : Option (Nat × Nat)) (y5 : Nat) (y6 : Option Nat) (y7 : Int) (y8 : Int) : Ann.clr f5a57 (f5e40 y0 y1 y2 y3 y4 y5 y6 y7 y8) = f5e40 y0 y1 y2 y3 y4 y5 y6 y7 y8 := hide (by kernel_rfl)
theorem f5n65 {R : Type} (call : CallF R) (N : Nat) (J : KF R) (e : Env) (σ : St) : runK Try.prog call N f5c65 f5a65 J e σ = runK Try.prog call N f5c66 f5a66 (blockC 2 f5a65 J) e σ := runK_block' (by kernel_rfl) (by kernel_rfl)
theorem f5L66_eq {R : Type} (call : CallF R) (N : Nat) (J : KF R) (e : Env) (σ : St) : f5L66 call N J e σ = runK Try.prog call N f5c67 f5a67 J e σ := hide rfl
theorem f5z66_f5e40 (y0 : Option (Nat × Nat)) (y1 : Option (Nat × Nat)) (y2 : Nat) (y3 : Int) (y4 : Option (Nat × Nat)) (y5 : Nat) (y6 : Option Nat) (y7 : Int) (y8 : Int) : Ann.clr f5a66 (f5e40 y0 y1 y2 y3 y4 y5 y6 y7 y8) = f5e40 y0 y1 y2 y3 y4 y5 y6 y7 y8 := hide (by kernel_rfl)
theorem f5l66_f5e40 {R : Type} (call : CallF R) (N : Nat) (y0 : Option (Nat × Nat)) (y1 : Option (Nat × Nat)) (y2 : Nat) (y3 : Int) (y4 : Option (Nat × Nat)) (y5 : Nat) (y6 : Option Nat) (y7 : Int) (y8 : Int) (J : KF R) (σ : St) : runK Try.prog call N f5c66 f5a66 J (f5e40 y0 y1 y2 y3 y4 y5 y6 y7 y8) σ = loopK (f5L66 call N) f5a66 N J (f5e40 y0 y1 y2 y3 y4 y5 y6 y7 y8) σ := runK_loop' (by kernel_rfl) (by kernel_rfl) (by kernel_rfl)
theorem f5n67 {R : Type} (call : CallF R) (N : Nat) (J : KF R) (e : Env) (σ : St) : runK Try.prog call N f5c67 f5a67 J e σ = runK Try.prog call N f5c68 f5a68 (seqC (fun K e σ => runK Try.prog call N f5c69 f5a69 K e σ) f5a67 J) e σ := runK_seq' (by kernel_rfl) (by kernel_rfl) (by kernel_rfl)
theorem f5n68 {R : Type} (call : CallF R) (N : Nat) (J : KF R) (e : Env) (σ : St) : runK Try.prog call N f5c68 f5a68 J e σ = runK Try.prog call N f5c70 f5a70 (seqC (fun K e σ => runK Try.prog call N f5c71 f5a71 K e σ) f5a68 J) e σ := runK_seq' (by kernel_rfl) (by kernel_rfl) (by kernel_rfl)
theorem f5r70_f5e40 {R : Type} (call : CallF R) (N : Nat) (y0 : Option (Nat × Nat)) (y1 : Option (Nat × Nat)) (y2 : Nat) (y3 : Int) (y4 : Option (Nat × Nat)) (y5 : Nat) (y6 : Option Nat) (y7 : Int) (y8 : Int) (J : KF R) (σ : St) :
    runK Try.prog call N f5c70 f5a70 J (f5e40 y0 y1 y2 y3 y4 y5 y6 y7 y8) σ =
J Ex.normal (f5e41 y0 y1 y2 y3 y4 y5 y6 y7 y8 y3 (decide (y3 ≤ (3 : Int)))) σ := hide (by kernel_rfl)
theorem f5z68_f5e41 (y0 : Option (Nat × Nat)) (y1 : Option (Nat × Nat)) (y2 : Nat) (y3 : Int) (y4 : Option (Nat × Nat)) (y5 : Nat) (y6 : Option Nat) (y7 : Int) (y8 : Int) (y9 : Int) (y10 : Bool) : Ann.clr f5a68 (f5e41 y0 y1 y2 y3 y4 y5 y6 y7 y8 y9 y10) = f5e42 y0 y1 y2 y3 y4 y5 y6 y7 y8 y10 := hide (by kernel_rfl)
theorem f5x71_f5e42 {R : Type} (call : CallF R) (N : Nat) (y0 : Option (Nat × Nat)) (y1 : Option (Nat × Nat)) (y2 : Nat) (y3 : Int) (y4 : Option (Nat × Nat)) (y5 : Nat) (y6 : Option Nat) (y7 : Int) (y8 : Int) (y9 : Bool) (J : KF R) (σ : St) : runK Try.prog call N f5c71 f5a71 J (f5e42 y0 y1 y2 y3 y4 y5 y6 y7 y8 y9) σ = if y9 = true then runK Try.prog call N f5c72 f5a72 (condC f5a71 J) (f5e42 y0 y1 y2 y3 y4 y5 y6 y7 y8 y9) σ else runK Try.prog call N f5c73 f5a73 (condC f5a71 J) (f5e42 y0 y1 y2 y3 y4 y5 y6 y7 y8 y9) σ := runK_cond' (o := Operand.tmp (132 : Nat)) (by kernel_rfl) (by kernel_rfl) (by kernel_rfl) (by kernel_rfl)
theorem f5n72 {R : Type} (call : CallF R) (N : Nat) (J : KF R) (e : Env) (σ : St) : runK Try.prog call N f5c72 f5a72 J e σ = J .normal e σ := runK_skip' (by kernel_rfl)
theorem f5z71_f5e42 (y0 : Option (Nat × Nat)) (y1 : Option (Nat × Nat)) (y2 : Nat) (y3 : Int) (y4 : Option (Nat × Nat)) (y5 : Nat) (y6 : Option Nat) (y7 : Int) (y8 : Int) (y9 : Bool) : Ann.clr f5a71 (f5e42 y0 y1 y2 y3 y4 y5 y6 y7 y8 y9) = f5e40 y0 y1 y2 y3 y4 y5 y6 y7 y8 := hide (by kernel_rfl)
theorem f5y73_f5e42 {R : Type} (call : CallF R) (N : Nat) (y0 : Option (Nat × Nat)) (y1 : Option (Nat × Nat)) (y2 : Nat) (y3 : Int) (y4 : Option (Nat × Nat)) (y5 : Nat) (y6 : Option Nat) (y7 : Int) (y8 : Int) (y9 : Bool) (J : KF R) (σ : St) : runK Try.prog call N f5c73 f5a73 J (f5e42 y0 y1 y2 y3 y4 y5 y6 y7 y8 y9) σ = J (.exit 2) (f5e19 y0 y1 y4 y5 y6 y7 y8) σ := runK_exit' (by kernel_rfl) (by kernel_rfl)
theorem f5z67_f5e40 (y0 : Option (Nat × Nat)) (y1 : Option (Nat × Nat)) (y2 : Nat) (y3 : Int) (y4 : Option (Nat × Nat)) (y5 : Nat) (y6 : Option Nat) (y7 : Int) (y8 : Int) : Ann.clr f5a67 (f5e40 y0 y1 y2 y3 y4 y5 y6 y7 y8) = f5e40 y0 y1 y2 y3 y4 y5 y6 y7 y8 := hide (by kernel_rfl)
theorem f5n69 {R : Type} (call : CallF R) (N : Nat) (J : KF R) (e : Env) (σ : St) : runK Try.prog call N f5c69 f5a69 J e σ = runK Try.prog call N f5c74 f5a74 (seqC (fun K e σ => runK Try.prog call N f5c75 f5a75 K e σ) f5a69 J) e σ := runK_seq' (by kernel_rfl) (by kernel_rfl) (by kernel_rfl)
theorem f5n74 {R : Type} (call : CallF R) (N : Nat) (J : KF R) (e : Env) (σ : St) : runK Try.prog call N f5c74 f5a74 J e σ = runK Try.prog call N f5c76 f5a76 (blockC 3 f5a74 J) e σ := runK_block' (by kernel_rfl) (by kernel_rfl)
theorem f5n76 {R : Type} (call : CallF R) (N : Nat) (J : KF R) (e : Env) (σ : St) : runK Try.prog call N f5c76 f5a76 J e σ = runK Try.prog call N f5c77 f5a77 (seqC (fun K e σ => runK Try.prog call N f5c78 f5a78 K e σ) f5a76 J) e σ := runK_seq' (by kernel_rfl) (by kernel_rfl) (by kernel_rfl)
theorem f5r77_f5e40 {R : Type} (call : CallF R) (N : Nat) (y0 : Option (Nat × Nat)) (y1 : Option (Nat × Nat)) (y2 : Nat) (y3 : Int) (y4 : Option (Nat × Nat)) (y5 : Nat) (y6 : Option Nat) (y7 : Int) (y8 : Int) (J : KF R) (σ : St) :
    runK Try.prog call N f5c77 f5a77 J (f5e40 y0 y1 y2 y3 y4 y5 y6 y7 y8) σ =
call (21 : Nat) [AV.ptr y0, AV.int IntKind.i64 y3] σ fun v0 v1 =>
  Option.bind (AV.toTuple v0) fun v2 =>
    if List.length v2 = (2 : Nat) then
      Option.bind (List.head? v2) fun v3 =>
        Option.bind (AV.toAgg v3) fun v4 =>
          if List.length v4 = (3 : Nat) then
            Option.bind (List.head? v4) fun v5 =>
              Option.bind (AV.toStr v5) fun v6 =>
                Option.bind (List.head? (List.tail v4)) fun v7 =>
                  Option.bind (AV.toInt IntKind.i64 v7) fun v8 =>
                    Option.bind (List.head? (List.tail (List.tail v4))) fun v9 =>
                      Option.bind (AV.toSl (2 : Nat) v9) fun v10 =>
                        Option.bind (List.head? (List.tail v2)) fun v11 =>
                          Option.bind (AV.toBool v11) fun v12 =>
                            Option.bind
                              (St.st
                                (St.new v1
                                  (Blk.cells
                                    [AV.str (ByteArray.mk #[]), AV.int IntKind.i64 (0 : Int), AV.slice none (0 : Nat) (some (0 : Nat)) (2 : Nat)]
                                    true))
                                (St.next v1) (0 : Nat) [AV.str v6, AV.int IntKind.i64 v8, AV.slice (Sl.o v10) (Sl.len v10) (Sl.cap v10) (2 : Nat)])
                              fun v13 =>
                              J Ex.normal
                                (f5e43 y0 y1 y2 y3 (St.next v1) v12 y4 y5 y6 y7 y8 v6 v8 (Sl.o v10) (Sl.len v10) (Sl.cap v10) v12 y0 y3 v6 v8
                                  (Sl.o v10) (Sl.len v10) (Sl.cap v10) v12 v6 v8 (Sl.o v10) (Sl.len v10) (Sl.cap v10) v12)
                                v13
          else none
    else none := hide (by kernel_rfl)
theorem f5z76_f5e43 (y0 : Option (Nat × Nat)) (y1 : Option (Nat × Nat)) (y2 : Nat) (y3 : Int) (y4 : Nat) (y5 : Bool) (y6 : Option (Nat × Nat)) (y7 : Nat) (y8 : Option Nat) (y9 : Int) (y10 : Int) (y11 : ByteArray) (y12 : Int) (y13 : Option (Nat × Nat)) (y14 : Nat) (y15 : Option Nat) (y16 : Bool) (y17 : Option (Nat × Nat)) (y18 : Int) (y19 : ByteArray) (y20 : Int) (y21 : Option (Nat × Nat)) (y22 : Nat) (y23 : Option Nat) (y24 : Bool) (y25 : ByteArray) (y26 : Int) (y27 : Option (Nat × Nat)) (y28 : Nat) (y29 : Option Nat) (y30 : Bool) : Ann.clr f5a76 (f5e43 y0 y1 y2 y3 y4 y5 y6 y7 y8 y9 y10 y11 y12 y13 y14 y15 y16 y17 y18 y19 y20 y21 y22 y23 y24 y25 y26 y27 y28 y29 y30) = f5e44 y0 y1 y2 y3 y4 y5 y6 y7 y8 y9 y10 := hide (by kernel_rfl)
theorem f5n78 {R : Type} (call : CallF R) (N : Nat) (J : KF R) (e : Env) (σ : St) : runK Try.prog call N f5c78 f5a78 J e σ = runK Try.prog call N f5c79 f5a79 (seqC (fun K e σ => runK Try.prog call N f5c80 f5a80 K e σ) f5a78 J) e σ := runK_seq' (by kernel_rfl) (by kernel_rfl) (by kernel_rfl)
theorem f5r79_f5e44 {R : Type} (call : CallF R) (N : Nat) (y0 : Option (Nat × Nat)) (y1 : Option (Nat × Nat)) (y2 : Nat) (y3 : Int) (y4 : Nat) (y5 : Bool) (y6 : Option (Nat × Nat)) (y7 : Nat) (y8 : Option Nat) (y9 : Int) (y10 : Int) (J : KF R) (σ : St) :
    runK Try.prog call N f5c79 f5a79 J (f5e44 y0 y1 y2 y3 y4 y5 y6 y7 y8 y9 y10) σ =
call (28 : Nat) [AV.ptr y1, AV.int IntKind.i64 y3] σ fun v0 v1 =>
  Option.bind (AV.toTuple v0) fun v2 =>
    if List.length v2 = (2 : Nat) then
      Option.bind (List.head? v2) fun v3 =>
        Option.bind (AV.toAgg v3) fun v4 =>
          if List.length v4 = (3 : Nat) then
            Option.bind (List.head? v4) fun v5 =>
              Option.bind (AV.toStr v5) fun v6 =>
                Option.bind (List.head? (List.tail v4)) fun v7 =>
                  Option.bind (AV.toInt IntKind.i64 v7) fun v8 =>
                    Option.bind (List.head? (List.tail (List.tail v4))) fun v9 =>
                      Option.bind (AV.toSl (2 : Nat) v9) fun v10 =>
                        Option.bind (List.head? (List.tail v2)) fun v11 =>
                          Option.bind (AV.toBool v11) fun v12 =>
                            Option.bind
                              (St.st
                                (St.new v1
                                  (Blk.cells
                                    [AV.str (ByteArray.mk #[]), AV.int IntKind.i64 (0 : Int), AV.slice none (0 : Nat) (some (0 : Nat)) (2 : Nat)]
                                    true))
                                (St.next v1) (0 : Nat) [AV.str v6, AV.int IntKind.i64 v8, AV.slice (Sl.o v10) (Sl.len v10) (Sl.cap v10) (2 : Nat)])
                              fun v13 =>
                              J Ex.normal
                                (f5e45 y0 y1 y2 y3 y4 y5 (St.next v1) v12 y6 y7 y8 y9 y10 v6 v8 (Sl.o v10) (Sl.len v10) (Sl.cap v10) v12 y1 y3 v6 v8
                                  (Sl.o v10) (Sl.len v10) (Sl.cap v10) v12 v6 v8 (Sl.o v10) (Sl.len v10) (Sl.cap v10) v12)
                                v13
          else none
    else none := hide (by kernel_rfl)
theorem f5z78_f5e45 (y0 : Option (Nat × Nat)) (y1 : Option (Nat × Nat)) (y2 : Nat) (y3 : Int) (y4 : Nat) (y5 : Bool) (y6 : Nat) (y7 : Bool) (y8 : Option (Nat × Nat)) (y9 : Nat) (y10 : Option Nat) (y11 : Int) (y12 : Int) (y13 : ByteArray) (y14 : Int) (y15 : Option (Nat × Nat)) (y16 : Nat) (y17 : Option Nat) (y18 : Bool) (y19 : Option (Nat × Nat)) (y20 : Int) (y21 : ByteArray) (y22 : Int) (y23 : Option (Nat × Nat)) (y24 : Nat) (y25 : Option Nat) (y26 : Bool) (y27 : ByteArray) (y28 : Int) (y29 : Option (Nat × Nat)) (y30 : Nat) (y31 : Option Nat) (y32 : Bool) : Ann.clr f5a78 (f5e45 y0 y1 y2 y3 y4 y5 y6 y7 y8 y9 y10 y11 y12 y13 y14 y15 y16 y17 y18 y19 y20 y21 y22 y23 y24 y25 y26 y27 y28 y29 y30 y31 y32) = f5e46 y0 y1 y2 y3 y4 y5 y6 y7 y8 y9 y10 y11 y12 := hide (by kernel_rfl)
theorem f5n80 {R : Type} (call : CallF R) (N : Nat) (J : KF R) (e : Env) (σ : St) : runK Try.prog call N f5c80 f5a80 J e σ = runK Try.prog call N f5c81 f5a81 (seqC (fun K e σ => runK Try.prog call N f5c82 f5a82 K e σ) f5a80 J) e σ := runK_seq' (by kernel_rfl) (by kernel_rfl) (by kernel_rfl)
theorem f5r81_f5e46 {R : Type} (call : CallF R) (N : Nat) (y0 : Option (Nat × Nat)) (y1 : Option (Nat × Nat)) (y2 : Nat) (y3 : Int) (y4 : Nat) (y5 : Bool) (y6 : Nat) (y7 : Bool) (y8 : Option (Nat × Nat)) (y9 : Nat) (y10 : Option Nat) (y11 : Int) (y12 : Int) (J : KF R) (σ : St) :
    runK Try.prog call N f5c81 f5a81 J (f5e46 y0 y1 y2 y3 y4 y5 y6 y7 y8 y9 y10 y11 y12) σ =
Option.bind (St.ld σ y2 (1 : Nat)) fun v0 =>
  Option.bind (AV.toInt IntKind.i64 v0) fun v1 =>
    call (29 : Nat) [AV.ptr y0, AV.int IntKind.i64 y3, AV.int IntKind.i64 v1] σ fun v2 v3 =>
      Option.bind (AV.toTuple v2) fun v4 =>
        if List.length v4 = (3 : Nat) then
          Option.bind (List.head? v4) fun v5 =>
            Option.bind (AV.toStr v5) fun v6 =>
              Option.bind (List.head? (List.tail v4)) fun v7 =>
                Option.bind (AV.toStr v7) fun v8 =>
                  Option.bind (List.head? (List.tail (List.tail v4))) fun v9 =>
                    Option.bind (AV.toBool v9) fun v10 =>
                      J Ex.normal (f5e47 y0 y1 y2 y3 y4 y5 y6 y7 v6 v8 v10 y8 y9 y10 y11 y12 v6 v8 v10 y0 y3 y2 v1 v6 v8 v10 v6 v8 v10) v3
        else none := hide (by kernel_rfl)
theorem f5z80_f5e47 (y0 : Option (Nat × Nat)) (y1 : Option (Nat × Nat)) (y2 : Nat) (y3 : Int) (y4 : Nat) (y5 : Bool) (y6 : Nat) (y7 : Bool) (y8 : ByteArray) (y9 : ByteArray) (y10 : Bool) (y11 : Option (Nat × Nat)) (y12 : Nat) (y13 : Option Nat) (y14 : Int) (y15 : Int) (y16 : ByteArray) (y17 : ByteArray) (y18 : Bool) (y19 : Option (Nat × Nat)) (y20 : Int) (y21 : Nat) (y22 : Int) (y23 : ByteArray) (y24 : ByteArray) (y25 : Bool) (y26 : ByteArray) (y27 : ByteArray) (y28 : Bool) : Ann.clr f5a80 (f5e47 y0 y1 y2 y3 y4 y5 y6 y7 y8 y9 y10 y11 y12 y13 y14 y15 y16 y17 y18 y19 y20 y21 y22 y23 y24 y25 y26 y27 y28) = f5e48 y0 y1 y2 y3 y4 y5 y6 y7 y8 y9 y10 y11 y12 y13 y14 y15 := hide (by kernel_rfl)
theorem f5n82 {R : Type} (call : CallF R) (N : Nat) (J : KF R) (e : Env) (σ : St) : runK Try.prog call N f5c82 f5a82 J e σ = runK Try.prog call N f5c83 f5a83 (seqC (fun K e σ => runK Try.prog call N f5c84 f5a84 K e σ) f5a82 J) e σ := runK_seq' (by kernel_rfl) (by kernel_rfl) (by kernel_rfl)
theorem f5r83_f5e48 {R : Type} (call : CallF R) (N : Nat) (y0 : Option (Nat × Nat)) (y1 : Option (Nat × Nat)) (y2 : Nat) (y3 : Int) (y4 : Nat) (y5 : Bool) (y6 : Nat) (y7 : Bool) (y8 : ByteArray) (y9 : ByteArray) (y10 : Bool) (y11 : Option (Nat × Nat)) (y12 : Nat) (y13 : Option Nat) (y14 : Int) (y15 : Int) (J : KF R) (σ : St) :
    runK Try.prog call N f5c83 f5a83 J (f5e48 y0 y1 y2 y3 y4 y5 y6 y7 y8 y9 y10 y11 y12 y13 y14 y15) σ =
Option.bind (St.ld σ y2 (1 : Nat)) fun v0 =>
  Option.bind (AV.toInt IntKind.i64 v0) fun v1 =>
    call (27 : Nat) [AV.ptr y1, AV.int IntKind.i64 y3, AV.int IntKind.i64 v1] σ fun v2 v3 =>
      Option.bind (AV.toTuple v2) fun v4 =>
        if List.length v4 = (2 : Nat) then
          Option.bind (List.head? v4) fun v5 =>
            Option.bind (AV.toAgg v5) fun v6 =>
              if List.length v6 = (4 : Nat) then
                Option.bind (List.head? v6) fun v7 =>
                  Option.bind (AV.toInt IntKind.i64 v7) fun v8 =>
                    Option.bind (List.head? (List.tail v6)) fun v9 =>
                      Option.bind (AV.toInt IntKind.i64 v9) fun v10 =>
                        Option.bind (List.head? (List.tail (List.tail v6))) fun v11 =>
                          Option.bind (AV.toStr v11) fun v12 =>
                            Option.bind (List.head? (List.tail (List.tail (List.tail v6)))) fun v13 =>
                              Option.bind (AV.toStr v13) fun v14 =>
                                Option.bind (List.head? (List.tail v4)) fun v15 =>
                                  Option.bind (AV.toBool v15) fun v16 =>
                                    Option.bind
                                      (St.st
                                        (St.new v3
                                          (Blk.cells
                                            [AV.int IntKind.i64 (0 : Int), AV.int IntKind.i64 (0 : Int), AV.str (ByteArray.mk #[]),
                                              AV.str (ByteArray.mk #[])]
                                            true))
                                        (St.next v3) (0 : Nat) [AV.int IntKind.i64 v8, AV.int IntKind.i64 v10, AV.str v12, AV.str v14])
                                      fun v17 =>
                                      J Ex.normal
                                        (f5e49 y0 y1 y2 y3 y4 y5 y6 y7 y8 y9 y10 (St.next v3) v16 y11 y12 y13 y14 y15 v8 v10 v12 v14 v16 y1 y3 y2 v1
                                          v8 v10 v12 v14 v16 v8 v10 v12 v14 v16)
                                        v17
              else none
        else none := hide (by kernel_rfl)
theorem f5z82_f5e49 (y0 : Option (Nat × Nat)) (y1 : Option (Nat × Nat)) (y2 : Nat) (y3 : Int) (y4 : Nat) (y5 : Bool) (y6 : Nat) (y7 : Bool) (y8 : ByteArray) (y9 : ByteArray) (y10 : Bool) (y11 : Nat) (y12 : Bool) (y13 : Option (Nat × Nat)) (y14 : Nat) (y15 : Option Nat) (y16 : Int) (y17 : Int) (y18 : Int) (y19 : Int) (y20 : ByteArray) (y21 : ByteArray) (y22 : Bool) (y23 : Option (Nat × Nat)) (y24 : Int) (y25 : Nat) (y26 : Int) (y27 : Int) (y28 : Int) (y29 : ByteArray) (y30 : ByteArray) (y31 : Bool) (y32 : Int) (y33 : Int) (y34 : ByteArray) (y35 : ByteArray) (y36 : Bool) : Ann.clr f5a82 (f5e49 y0 y1 y2 y3 y4 y5 y6 y7 y8 y9 y10 y11 y12 y13 y14 y15 y16 y17 y18 y19 y20 y21 y22 y23 y24 y25 y26 y27 y28 y29 y30 y31 y32 y33 y34 y35 y36) = f5e50 y0 y1 y2 y3 y4 y5 y6 y7 y8 y9 y10 y11 y12 y13 y14 y15 y16 y17 := hide (by kernel_rfl)
theorem f5n84 {R : Type} (call : CallF R) (N : Nat) (J : KF R) (e : Env) (σ : St) : runK Try.prog call N f5c84 f5a84 J e σ = runK Try.prog call N f5c85 f5a85 (seqC (fun K e σ => runK Try.prog call N f5c86 f5a86 K e σ) f5a84 J) e σ := runK_seq' (by kernel_rfl) (by kernel_rfl) (by kernel_rfl)
theorem f5r85_f5e50 {R : Type} (call : CallF R) (N : Nat) (y0 : Option (Nat × Nat)) (y1 : Option (Nat × Nat)) (y2 : Nat) (y3 : Int) (y4 : Nat) (y5 : Bool) (y6 : Nat) (y7 : Bool) (y8 : ByteArray) (y9 : ByteArray) (y10 : Bool) (y11 : Nat) (y12 : Bool) (y13 : Option (Nat × Nat)) (y14 : Nat) (y15 : Option Nat) (y16 : Int) (y17 : Int) (J : KF R) (σ : St) :
    runK Try.prog call N f5c85 f5a85 J (f5e50 y0 y1 y2 y3 y4 y5 y6 y7 y8 y9 y10 y11 y12 y13 y14 y15 y16 y17) σ =
if (!y5 == y7) = true then
  J Ex.normal
    (f5e51 y0 y1 y2 y3 y4 y5 y6 y7 y8 y9 y10 y11 y12 y13 y14 y15 y16 y17 y5 y7 (!y5 == y7) true true true true true true true true true true) σ
else
  Option.bind (St.ld σ y4 (0 : Nat)) fun v0 =>
    Option.bind (AV.toStr v0) fun v1 =>
      Option.bind (St.ld σ y4 (1 : Nat)) fun v2 =>
        Option.bind (AV.toInt IntKind.i64 v2) fun v3 =>
          Option.bind (St.ld σ y4 (2 : Nat)) fun v4 =>
            Option.bind (AV.toSl (2 : Nat) v4) fun v5 =>
              Option.bind (St.ld σ y6 (0 : Nat)) fun v6 =>
                Option.bind (AV.toStr v6) fun v7 =>
                  Option.bind (St.ld σ y6 (1 : Nat)) fun v8 =>
                    Option.bind (AV.toInt IntKind.i64 v8) fun v9 =>
                      Option.bind (St.ld σ y6 (2 : Nat)) fun v10 =>
                        Option.bind (AV.toSl (2 : Nat) v10) fun v11 =>
                          call (30 : Nat)
                            [AV.agg [AV.str v1, AV.int IntKind.i64 v3, AV.slice (Sl.o v5) (Sl.len v5) (Sl.cap v5) (2 : Nat)],
                              AV.agg [AV.str v7, AV.int IntKind.i64 v9, AV.slice (Sl.o v11) (Sl.len v11) (Sl.cap v11) (2 : Nat)]]
                            σ fun v12 v13 =>
                            Option.bind (AV.toBool v12) fun v14 =>
                              if (!v14) = true then
                                J Ex.normal
                                  (f5e52 y0 y1 y2 y3 y4 y5 y6 y7 y8 y9 y10 y11 y12 y13 y14 y15 y16 y17 y5 y7 (!y5 == y7) false v1 v3 (Sl.o v5)
                                    (Sl.len v5) (Sl.cap v5) v7 v9 (Sl.o v11) (Sl.len v11) (Sl.cap v11) v14 (!v14) (!v14) true true true true true true
                                    true true)
                                  v13
                              else
                                call (31 : Nat) [AV.ptr y0, AV.int IntKind.i64 y3] v13 fun v15 v16 =>
                                  Option.bind (AV.toInt IntKind.i64 v15) fun v17 =>
                                    call (32 : Nat) [AV.ptr y1, AV.int IntKind.i64 y3] v16 fun v18 v19 =>
                                      Option.bind (AV.toInt IntKind.i64 v18) fun v20 =>
                                        if (v17 != v20) = true then
                                          J Ex.normal
                                            (f5e53 y0 y1 y2 y3 y4 y5 y6 y7 y8 y9 y10 y11 y12 y13 y14 y15 y16 y17 y5 y7 (!y5 == y7) false v1 v3
                                              (Sl.o v5) (Sl.len v5) (Sl.cap v5) v7 v9 (Sl.o v11) (Sl.len v11) (Sl.cap v11) v14 (!v14) (!v14) false y0
                                              y3 v17 y1 y3 v20 (v17 != v20) (v17 != v20) true true true true true true)
                                            v19
                                        else
                                          if (!y10 == y12) = true then
                                            J Ex.normal
                                              (f5e54 y0 y1 y2 y3 y4 y5 y6 y7 y8 y9 y10 y11 y12 y13 y14 y15 y16 y17 y5 y7 (!y5 == y7) false v1 v3
                                                (Sl.o v5) (Sl.len v5) (Sl.cap v5) v7 v9 (Sl.o v11) (Sl.len v11) (Sl.cap v11) v14 (!v14) (!v14) false
                                                y0 y3 v17 y1 y3 v20 (v17 != v20) (v17 != v20) false y10 y12 (!y10 == y12) (!y10 == y12) true true true
                                                true)
                                              v19
                                          else
                                            Option.bind (St.ld v19 y11 (2 : Nat)) fun v21 =>
                                              Option.bind (AV.toStr v21) fun v22 =>
                                                if (!decide (y8 = v22)) = true then
                                                  J Ex.normal
                                                    (f5e55 y0 y1 y2 y3 y4 y5 y6 y7 y8 y9 y10 y11 y12 y13 y14 y15 y16 y17 y5 y7 (!y5 == y7) false v1 v3
                                                      (Sl.o v5) (Sl.len v5) (Sl.cap v5) v7 v9 (Sl.o v11) (Sl.len v11) (Sl.cap v11) v14 (!v14) (!v14)
                                                      false y0 y3 v17 y1 y3 v20 (v17 != v20) (v17 != v20) false y10 y12 (!y10 == y12) (!y10 == y12)
                                                      false y8 y11 v22 (!decide (y8 = v22)) (!decide (y8 = v22)) true true)
                                                    v19
                                                else
                                                  Option.bind (St.ld v19 y11 (3 : Nat)) fun v23 =>
                                                    Option.bind (AV.toStr v23) fun v24 =>
                                                      J Ex.normal
                                                        (f5e56 y0 y1 y2 y3 y4 y5 y6 y7 y8 y9 y10 y11 y12 y13 y14 y15 y16 y17 y5 y7 (!y5 == y7) false
                                                          v1 v3 (Sl.o v5) (Sl.len v5) (Sl.cap v5) v7 v9 (Sl.o v11) (Sl.len v11) (Sl.cap v11) v14
                                                          (!v14) (!v14) false y0 y3 v17 y1 y3 v20 (v17 != v20) (v17 != v20) false y10 y12
                                                          (!y10 == y12) (!y10 == y12) false y8 y11 v22 (!decide (y8 = v22)) (!decide (y8 = v22)) false
                                                          y9 y11 v24 (!decide (y9 = v24)) !decide (y9 = v24))
                                                        v19 := hide (by kernel_rfl)
theorem f5z84_f5e51 (y0 : Option (Nat × Nat)) (y1 : Option (Nat × Nat)) (y2 : Nat) (y3 : Int) (y4 : Nat) (y5 : Bool) (y6 : Nat) (y7 : Bool) (y8 : ByteArray) (y9 : ByteArray) (y10 : Bool) (y11 : Nat) (y12 : Bool) (y13 : Option (Nat × Nat)) (y14 : Nat) (y15 : Option Nat) (y16 : Int) (y17 : Int) (y18 : Bool) (y19 : Bool) (y20 : Bool) (y21 : Bool) (y22 : Bool) (y23 : Bool) (y24 : Bool) (y25 : Bool) (y26 : Bool) (y27 : Bool) (y28 : Bool) (y29 : Bool) (y30 : Bool) : Ann.clr f5a84 (f5e51 y0 y1 y2 y3 y4 y5 y6 y7 y8 y9 y10 y11 y12 y13 y14 y15 y16 y17 y18 y19 y20 y21 y22 y23 y24 y25 y26 y27 y28 y29 y30) = f5e57 y0 y1 y2 y3 y13 y14 y15 y16 y17 y30 := hide (by kernel_rfl)
theorem f5x86_f5e57 {R : Type} (call : CallF R) (N : Nat) (y0 : Option (Nat × Nat)) (y1 : Option (Nat × Nat)) (y2 : Nat) (y3 : Int) (y4 : Option (Nat × Nat)) (y5 : Nat) (y6 : Option Nat) (y7 : Int) (y8 : Int) (y9 : Bool) (J : KF R) (σ : St) : runK Try.prog call N f5c86 f5a86 J (f5e57 y0 y1 y2 y3 y4 y5 y6 y7 y8 y9) σ = if y9 = true then runK Try.prog call N f5c87 f5a87 (condC f5a86 J) (f5e57 y0 y1 y2 y3 y4 y5 y6 y7 y8 y9) σ else runK Try.prog call N f5c88 f5a88 (condC f5a86 J) (f5e57 y0 y1 y2 y3 y4 y5 y6 y7 y8 y9) σ := runK_cond' (o := Operand.tmp (198 : Nat)) (by kernel_rfl) (by kernel_rfl) (by kernel_rfl) (by kernel_rfl)
theorem f5n87 {R : Type} (call : CallF R) (N : Nat) (J : KF R) (e : Env) (σ : St) : runK Try.prog call N f5c87 f5a87 J e σ = runK Try.prog call N f5c89 f5a89 (seqC (fun K e σ => runK Try.prog call N f5c90 f5a90 K e σ) f5a87 J) e σ := runK_seq' (by kernel_rfl) (by kernel_rfl) (by kernel_rfl)
theorem f5r89_f5e57 {R : Type} (call : CallF R) (N : Nat) (y0 : Option (Nat × Nat)) (y1 : Option (Nat × Nat)) (y2 : Nat) (y3 : Int) (y4 : Option (Nat × Nat)) (y5 : Nat) (y6 : Option Nat) (y7 : Int) (y8 : Int) (y9 : Bool) (J : KF R) (σ : St) :
    runK Try.prog call N f5c89 f5a89 J (f5e57 y0 y1 y2 y3 y4 y5 y6 y7 y8 y9) σ =
J Ex.normal (f5e58 false y0 y1 y2 y3 y4 y5 y6 y7 y8 y9) σ := hide (by kernel_rfl)
theorem f5z87_f5e58 (y0 : Bool) (y1 : Option (Nat × Nat)) (y2 : Option (Nat × Nat)) (y3 : Nat) (y4 : Int) (y5 : Option (Nat × Nat)) (y6 : Nat) (y7 : Option Nat) (y8 : Int) (y9 : Int) (y10 : Bool) : Ann.clr f5a87 (f5e58 y0 y1 y2 y3 y4 y5 y6 y7 y8 y9 y10) = f5e11 y0 := hide (by kernel_rfl)
theorem f5y90_f5e11 {R : Type} (call : CallF R) (N : Nat) (y0 : Bool) (J : KF R) (σ : St) : runK Try.prog call N f5c90 f5a90 J (f5e11 y0) σ = J .ret (f5e11 y0) σ := runK_ret' (by kernel_rfl) (by kernel_rfl)
theorem f5n88 {R : Type} (call : CallF R) (N : Nat) (J : KF R) (e : Env) (σ : St) : runK Try.prog call N f5c88 f5a88 J e σ = J .normal e σ := runK_skip' (by kernel_rfl)
theorem f5z86_f5e57 (y0 : Option (Nat × Nat)) (y1 : Option (Nat × Nat)) (y2 : Nat) (y3 : Int) (y4 : Option (Nat × Nat)) (y5 : Nat) (y6 : Option Nat) (y7 : Int) (y8 : Int) (y9 : Bool) : Ann.clr f5a86 (f5e57 y0 y1 y2 y3 y4 y5 y6 y7 y8 y9) = f5e40 y0 y1 y2 y3 y4 y5 y6 y7 y8 := hide (by kernel_rfl)
theorem f5z84_f5e52 (y0 : Option (Nat × Nat)) (y1 : Option (Nat × Nat)) (y2 : Nat) (y3 : Int) (y4 : Nat) (y5 : Bool) (y6 : Nat) (y7 : Bool) (y8 : ByteArray) (y9 : ByteArray) (y10 : Bool) (y11 : Nat) (y12 : Bool) (y13 : Option (Nat × Nat)) (y14 : Nat) (y15 : Option Nat) (y16 : Int) (y17 : Int) (y18 : Bool) (y19 : Bool) (y20 : Bool) (y21 : Bool) (y22 : ByteArray) (y23 : Int) (y24 : Option (Nat × Nat)) (y25 : Nat) (y26 : Option Nat) (y27 : ByteArray) (y28 : Int) (y29 : Option (Nat × Nat)) (y30 : Nat) (y31 : Option Nat) (y32 : Bool) (y33 : Bool) (y34 : Bool) (y35 : Bool) (y36 : Bool) (y37 : Bool) (y38 : Bool) (y39 : Bool) (y40 : Bool) (y41 : Bool) (y42 : Bool) : Ann.clr f5a84 (f5e52 y0 y1 y2 y3 y4 y5 y6 y7 y8 y9 y10 y11 y12 y13 y14 y15 y16 y17 y18 y19 y20 y21 y22 y23 y24 y25 y26 y27 y28 y29 y30 y31 y32 y33 y34 y35 y36 y37
  y38 y39 y40 y41 y42) = f5e57 y0 y1 y2 y3 y13 y14 y15 y16 y17 y42 := hide (by kernel_rfl)
theorem f5z84_f5e53 (y0 : Option (Nat × Nat)) (y1 : Option (Nat × Nat)) (y2 : Nat) (y3 : Int) (y4 : Nat) (y5 : Bool) (y6 : Nat) (y7 : Bool) (y8 : ByteArray) (y9 : ByteArray) (y10 : Bool) (y11 : Nat) (y12 : Bool) (y13 : Option (Nat × Nat)) (y14 : Nat) (y15 : Option Nat) (y16 : Int) (y17 : Int) (y18 : Bool) (y19 : Bool) (y20 : Bool) (y21 : Bool) (y22 : ByteArray) (y23 : Int) (y24 : Option (Nat × Nat)) (y25 : Nat) (y26 : Option Nat) (y27 : ByteArray) (y28 : Int) (y29 : Option (Nat × Nat)) (y30 : Nat) (y31 : Option Nat) (y32 : Bool) (y33 : Bool) (y34 : Bool) (y35 : Bool) (y36 : Option (Nat × Nat)) (y37 : Int) (y38 : Int) (y39 : Option (Nat × Nat)) (y40 : Int) (y41 : Int) (y42 : Bool) (y43 : Bool) (y44 : Bool) (y45 : Bool) (y46 : Bool) (y47 : Bool) (y48 : Bool) (y49 : Bool) : Ann.clr f5a84 (f5e53 y0 y1 y2 y3 y4 y5 y6 y7 y8 y9 y10 y11 y12 y13 y14 y15 y16 y17 y18 y19 y20 y21 y22 y23 y24 y25 y26 y27 y28 y29 y30 y31 y32 y33 y34 y35 y36 y37
  y38 y39 y40 y41 y42 y43 y44 y45 y46 y47 y48 y49) = f5e57 y0 y1 y2 y3 y13 y14 y15 y16 y17 y49 := hide (by kernel_rfl)
theorem f5z84_f5e54 (y0 : Option (Nat × Nat)) (y1 : Option (Nat × Nat)) (y2 : Nat) (y3 : Int) (y4 : Nat) (y5 : Bool) (y6 : Nat) (y7 : Bool) (y8 : ByteArray) (y9 : ByteArray) (y10 : Bool) (y11 : Nat) (y12 : Bool) (y13 : Option (Nat × Nat)) (y14 : Nat) (y15 : Option Nat) (y16 : Int) (y17 : Int) (y18 : Bool) (y19 : Bool) (y20 : Bool) (y21 : Bool) (y22 : ByteArray) (y23 : Int) (y24 : Option (Nat × Nat)) (y25 : Nat) (y26 : Option Nat) (y27 : ByteArray) (y28 : Int) (y29 : Option (Nat × Nat)) (y30 : Nat) (y31 : Option Nat) (y32 : Bool) (y33 : Bool) (y34 : Bool) (y35 : Bool) (y36 : Option (Nat × Nat)) (y37 : Int) (y38 : Int) (y39 : Option (Nat × Nat)) (y40 : Int) (y41 : Int) (y42 : Bool) (y43 : Bool) (y44 : Bool) (y45 : Bool) (y46 : Bool) (y47 : Bool) (y48 : Bool) (y49 : Bool) (y50 : Bool) (y51 : Bool) (y52 : Bool) : Ann.clr f5a84 (f5e54 y0 y1 y2 y3 y4 y5 y6 y7 y8 y9 y10 y11 y12 y13 y14 y15 y16 y17 y18 y19 y20 y21 y22 y23 y24 y25 y26 y27 y28 y29 y30 y31 y32 y33 y34 y35 y36 y37
  y38 y39 y40 y41 y42 y43 y44 y45 y46 y47 y48 y49 y50 y51 y52) = f5e57 y0 y1 y2 y3 y13 y14 y15 y16 y17 y52 := hide (by kernel_rfl)
theorem f5z84_f5e55 (y0 : Option (Nat × Nat)) (y1 : Option (Nat × Nat)) (y2 : Nat) (y3 : Int) (y4 : Nat) (y5 : Bool) (y6 : Nat) (y7 : Bool) (y8 : ByteArray) (y9 : ByteArray) (y10 : Bool) (y11 : Nat) (y12 : Bool) (y13 : Option (Nat × Nat)) (y14 : Nat) (y15 : Option Nat) (y16 : Int) (y17 : Int) (y18 : Bool) (y19 : Bool) (y20 : Bool) (y21 : Bool) (y22 : ByteArray) (y23 : Int) (y24 : Option (Nat × Nat)) (y25 : Nat) (y26 : Option Nat) (y27 : ByteArray) (y28 : Int) (y29 : Option (Nat × Nat)) (y30 : Nat) (y31 : Option Nat) (y32 : Bool) (y33 : Bool) (y34 : Bool) (y35 : Bool) (y36 : Option (Nat × Nat)) (y37 : Int) (y38 : Int) (y39 : Option (Nat × Nat)) (y40 : Int) (y41 : Int) (y42 : Bool) (y43 : Bool) (y44 : Bool) (y45 : Bool) (y46 : Bool) (y47 : Bool) (y48 : Bool) (y49 : Bool) (y50 : ByteArray) (y51 : Nat) (y52 : ByteArray) (y53 : Bool) (y54 : Bool) (y55 : Bool) (y56 : Bool) : Ann.clr f5a84 (f5e55 y0 y1 y2 y3 y4 y5 y6 y7 y8 y9 y10 y11 y12 y13 y14 y15 y16 y17 y18 y19 y20 y21 y22 y23 y24 y25 y26 y27 y28 y29 y30 y31 y32 y33 y34 y35 y36 y37
  y38 y39 y40 y41 y42 y43 y44 y45 y46 y47 y48 y49 y50 y51 y52 y53 y54 y55 y56) = f5e57 y0 y1 y2 y3 y13 y14 y15 y16 y17 y56 := hide (by kernel_rfl)
theorem f5z84_f5e56 (y0 : Option (Nat × Nat)) (y1 : Option (Nat × Nat)) (y2 : Nat) (y3 : Int) (y4 : Nat) (y5 : Bool) (y6 : Nat) (y7 : Bool) (y8 : ByteArray) (y9 : ByteArray) (y10 : Bool) (y11 : Nat) (y12 : Bool) (y13 : Option (Nat × Nat)) (y14 : Nat) (y15 : Option Nat) (y16 : Int) (y17 : Int) (y18 : Bool) (y19 : Bool) (y20 : Bool) (y21 : Bool) (y22 : ByteArray) (y23 : Int) (y24 : Option (Nat × Nat)) (y25 : Nat) (y26 : Option Nat) (y27 : ByteArray) (y28 : Int) (y29 : Option (Nat × Nat)) (y30 : Nat) (y31 : Option Nat) (y32 : Bool) (y33 : Bool) (y34 : Bool) (y35 : Bool) (y36 : Option (Nat × Nat)) (y37 : Int) (y38 : Int) (y39 : Option (Nat × Nat)) (y40 : Int) (y41 : Int) (y42 : Bool) (y43 : Bool) (y44 : Bool) (y45 : Bool) (y46 : Bool) (y47 : Bool) (y48 : Bool) (y49 : Bool) (y50 : ByteArray) (y51 : Nat) (y52 : ByteArray) (y53 : Bool) (y54 : Bool) (y55 : Bool) (y56 : ByteArray) (y57 : Nat) (y58 : ByteArray) (y59 : Bool) (y60 : Bool) : Ann.clr f5a84 (f5e56 y0 y1 y2 y3 y4 y5 y6 y7 y8 y9 y10 y11 y12 y13 y14 y15 y16 y17 y18 y19 y20 y21 y22 y23 y24 y25 y26 y27 y28 y29 y30 y31 y32 y33 y34 y35 y36 y37
  y38 y39 y40 y41 y42 y43 y44 y45 y46 y47 y48 y49 y50 y51 y52 y53 y54 y55 y56 y57 y58 y59 y60) = f5e57 y0 y1 y2 y3 y13 y14 y15 y16 y17 y60 := hide (by kernel_rfl)
theorem f5z74_f5e40 (y0 : Option (Nat × Nat)) (y1 : Option (Nat × Nat)) (y2 : Nat) (y3 : Int) (y4 : Option (Nat × Nat)) (y5 : Nat) (y6 : Option Nat) (y7 : Int) (y8 : Int) : Ann.clr f5a74 (f5e40 y0 y1 y2 y3 y4 y5 y6 y7 y8) = f5e40 y0 y1 y2 y3 y4 y5 y6 y7 y8 := hide (by kernel_rfl)
theorem f5z69_f5e40 (y0 : Option (Nat × Nat)) (y1 : Option (Nat × Nat)) (y2 : Nat) (y3 : Int) (y4 : Option (Nat × Nat)) (y5 : Nat) (y6 : Option Nat) (y7 : Int) (y8 : Int) : Ann.clr f5a69 (f5e40 y0 y1 y2 y3 y4 y5 y6 y7 y8) = f5e40 y0 y1 y2 y3 y4 y5 y6 y7 y8 := hide (by kernel_rfl)
theorem f5r75_f5e40 {R : Type} (call : CallF R) (N : Nat) (y0 : Option (Nat × Nat)) (y1 : Option (Nat × Nat)) (y2 : Nat) (y3 : Int) (y4 : Option (Nat × Nat)) (y5 : Nat) (y6 : Option Nat) (y7 : Int) (y8 : Int) (J : KF R) (σ : St) :
    runK Try.prog call N f5c75 f5a75 J (f5e40 y0 y1 y2 y3 y4 y5 y6 y7 y8) σ =
J Ex.normal (f5e59 y0 y1 y2 (IntKind.wrap IntKind.i64 (y3 + (1 : Int))) y4 y5 y6 y7 y8 y3 (IntKind.wrap IntKind.i64 (y3 + (1 : Int)))) σ := hide (by kernel_rfl)
theorem f5z66_f5e59 (y0 : Option (Nat × Nat)) (y1 : Option (Nat × Nat)) (y2 : Nat) (y3 : Int) (y4 : Option (Nat × Nat)) (y5 : Nat) (y6 : Option Nat) (y7 : Int) (y8 : Int) (y9 : Int) (y10 : Int) : Ann.clr f5a66 (f5e59 y0 y1 y2 y3 y4 y5 y6 y7 y8 y9 y10) = f5e40 y0 y1 y2 y3 y4 y5 y6 y7 y8 := hide (by kernel_rfl)
theorem f5z65_f5e19 (y0 : Option (Nat × Nat)) (y1 : Option (Nat × Nat)) (y2 : Option (Nat × Nat)) (y3 : Nat) (y4 : Option Nat) (y5 : Int) (y6 : Int) : Ann.clr f5a65 (f5e19 y0 y1 y2 y3 y4 y5 y6) = f5e19 y0 y1 y2 y3 y4 y5 y6 := hide (by kernel_rfl)
theorem f5z35_f5e19 (y0 : Option (Nat × Nat)) (y1 : Option (Nat × Nat)) (y2 : Option (Nat × Nat)) (y3 : Nat) (y4 : Option Nat) (y5 : Int) (y6 : Int) : Ann.clr f5a35 (f5e19 y0 y1 y2 y3 y4 y5 y6) = f5e19 y0 y1 y2 y3 y4 y5 y6 := hide (by kernel_rfl)
theorem f5z32_f5e19 (y0 : Option (Nat × Nat)) (y1 : Option (Nat × Nat)) (y2 : Option (Nat × Nat)) (y3 : Nat) (y4 : Option Nat) (y5 : Int) (y6 : Int) : Ann.clr f5a32 (f5e19 y0 y1 y2 y3 y4 y5 y6) = f5e19 y0 y1 y2 y3 y4 y5 y6 := hide (by kernel_rfl)
theorem f5r36_f5e19 {R : Type} (call : CallF R) (N : Nat) (y0 : Option (Nat × Nat)) (y1 : Option (Nat × Nat)) (y2 : Option (Nat × Nat)) (y3 : Nat) (y4 : Option Nat) (y5 : Int) (y6 : Int) (J : KF R) (σ : St) :
    runK Try.prog call N f5c36 f5a36 J (f5e19 y0 y1 y2 y3 y4 y5 y6) σ =
J Ex.normal (f5e60 y0 y1 y2 y3 y4 y5 (IntKind.wrap IntKind.i64 (y6 + (1 : Int))) (IntKind.wrap IntKind.i64 (y6 + (1 : Int)))) σ := hide (by kernel_rfl)
theorem f5z27_f5e60 (y0 : Option (Nat × Nat)) (y1 : Option (Nat × Nat)) (y2 : Option (Nat × Nat)) (y3 : Nat) (y4 : Option Nat) (y5 : Int) (y6 : Int) (y7 : Int) : Ann.clr f5a27 (f5e60 y0 y1 y2 y3 y4 y5 y6 y7) = f5e19 y0 y1 y2 y3 y4 y5 y6 := hide (by kernel_rfl)
theorem f5z26_f5e21 : Ann.clr f5a26 (f5e21) = f5e21 := hide (by kernel_rfl)
theorem f5z16_f5e21 : Ann.clr f5a16 (f5e21) = f5e21 := hide (by kernel_rfl)
theorem f5n24 {R : Type} (call : CallF R) (N : Nat) (J : KF R) (e : Env) (σ : St) : runK Try.prog call N f5c24 f5a24 J e σ = runK Try.prog call N f5c91 f5a91 (seqC (fun K e σ => runK Try.prog call N f5c92 f5a92 K e σ) f5a24 J) e σ := runK_seq' (by kernel_rfl) (by kernel_rfl) (by kernel_rfl)
theorem f5r91_f5e21 {R : Type} (call : CallF R) (N : Nat) (J : KF R) (σ : St) :
    runK Try.prog call N f5c91 f5a91 J (f5e21) σ =
call (19 : Nat) [] σ fun v0 v1 => Option.bind (AV.toBool v0) fun v2 => J Ex.normal (f5e61 v2 v2) v1 := hide (by kernel_rfl)
theorem f5z24_f5e61 (y0 : Bool) (y1 : Bool) : Ann.clr f5a24 (f5e61 y0 y1) = f5e11 y0 := hide (by kernel_rfl)
theorem f5y92_f5e11 {R : Type} (call : CallF R) (N : Nat) (y0 : Bool) (J : KF R) (σ : St) : runK Try.prog call N f5c92 f5a92 J (f5e11 y0) σ = J .ret (f5e11 y0) σ := runK_ret' (by kernel_rfl) (by kernel_rfl)
theorem f5b_f5e11_r {R : Type} (y0 : Bool) (σ : St) (K : AV → St → Option R) : bodyC Try.prog f5rs K (Ex.ret) (f5e11 y0) σ =
K (AV.bool y0) σ := hide (by kernel_rfl)
attribute [go_sem] f5_eq f5n0 f5r1_f5e0 f5z0_f5e1 f5n2 f5r3_f5e2 f5z2_f5e3 f5n4 f5r5_f5e4 f5z4_f5e5 f5n6 f5n7 f5r9_f5e6 f5z7_f5e7 f5x10_f5e9 f5n11 f5r13_f5e9 f5z11_f5e10 f5y14_f5e11 f5n12 f5z10_f5e9 f5z7_f5e8 f5z6_f5e12 f5n8 f5n15 f5r17_f5e12 f5z15_f5e13 f5x18_f5e15 f5n19 f5r21_f5e15 f5z19_f5e16 f5y22_f5e11 f5n20 f5z18_f5e15 f5z15_f5e14 f5z8_f5e17 f5n16 f5n23 f5r25_f5e17 f5z23_f5e18 f5n26 f5L27_eq f5z27_f5e19 f5l27_f5e19 f5n28 f5r29_f5e19 f5z28_f5e20 f5n30 f5x31_f5e20 f5n33 f5z31_f5e20 f5y34_f5e20 f5z30_f5e19 f5n32 f5n35 f5n37 f5r38_f5e19 f5z37_f5e22 f5n39 f5r40_f5e23 f5z39_f5e24 f5n41 f5r42_f5e25 f5z41_f5e26 f5n43 f5n44 f5r46_f5e27 f5z44_f5e28 f5x47_f5e30 f5n48 f5r50_f5e30 f5z48_f5e31 f5y51_f5e11 f5n49 f5z47_f5e30 f5z44_f5e29 f5z43_f5e23 f5n45 f5r52_f5e23 f5z45_f5e32 f5n53 f5r54_f5e33 f5z53_f5e34 f5n55 f5n56 f5r58_f5e35 f5z56_f5e36 f5x59_f5e38 f5n60 f5r62_f5e38 f5z60_f5e39 f5y63_f5e11 f5n61 f5z59_f5e38 f5z56_f5e37 f5z55_f5e23 f5n57 f5r64_f5e23 f5z57_f5e40 f5n65 f5L66_eq f5z66_f5e40 f5l66_f5e40 f5n67 f5n68 f5r70_f5e40 f5z68_f5e41 f5x71_f5e42 f5n72 f5z71_f5e42 f5y73_f5e42 f5z67_f5e40 f5n69 f5n74 f5n76 f5r77_f5e40 f5z76_f5e43 f5n78 f5r79_f5e44 f5z78_f5e45 f5n80 f5r81_f5e46 f5z80_f5e47 f5n82 f5r83_f5e48 f5z82_f5e49 f5n84 f5r85_f5e50 f5z84_f5e51 f5x86_f5e57 f5n87 f5r89_f5e57 f5z87_f5e58 f5y90_f5e11 f5n88 f5z86_f5e57 f5z84_f5e52 f5z84_f5e53 f5z84_f5e54 f5z84_f5e55 f5z84_f5e56 f5z74_f5e40 f5z69_f5e40 f5r75_f5e40 f5z66_f5e59 f5z65_f5e19 f5z35_f5e19 f5z32_f5e19 f5r36_f5e19 f5z27_f5e60 f5z26_f5e21 f5z16_f5e21 f5n24 f5r91_f5e21 f5z24_f5e61 f5y92_f5e11 f5b_f5e11_r

noncomputable def f30rs : List ResultVar := [ResultVar.tmp (4 : Nat)]
noncomputable def f30c0 : Code := subCode [] (bodyOf Try.prog 30)
def f30a0 : Ann := subAnn [] ann30
noncomputable def f30c1 : Code := subCode [0] (bodyOf Try.prog 30)
def f30a1 : Ann := subAnn [0] ann30
noncomputable def f30c2 : Code := subCode [1] (bodyOf Try.prog 30)
def f30a2 : Ann := subAnn [1] ann30
noncomputable def f30c3 : Code := subCode [1, 0] (bodyOf Try.prog 30)
def f30a3 : Ann := subAnn [1, 0] ann30
noncomputable def f30c4 : Code := subCode [1, 1] (bodyOf Try.prog 30)
def f30a4 : Ann := subAnn [1, 1] ann30
noncomputable def f30c5 : Code := subCode [1, 0, 0] (bodyOf Try.prog 30)
def f30a5 : Ann := subAnn [1, 0, 0] ann30
noncomputable def f30c6 : Code := subCode [1, 0, 1] (bodyOf Try.prog 30)
def f30a6 : Ann := subAnn [1, 0, 1] ann30
noncomputable def f30c7 : Code := subCode [1, 0, 1, 0] (bodyOf Try.prog 30)
def f30a7 : Ann := subAnn [1, 0, 1, 0] ann30
noncomputable def f30c8 : Code := subCode [1, 0, 1, 1] (bodyOf Try.prog 30)
def f30a8 : Ann := subAnn [1, 0, 1, 1] ann30
noncomputable def f30c9 : Code := subCode [1, 0, 1, 0, 0] (bodyOf Try.prog 30)
def f30a9 : Ann := subAnn [1, 0, 1, 0, 0] ann30
noncomputable def f30c10 : Code := subCode [1, 0, 1, 0, 1] (bodyOf Try.prog 30)
def f30a10 : Ann := subAnn [1, 0, 1, 0, 1] ann30
noncomputable def f30c11 : Code := subCode [1, 1, 0] (bodyOf Try.prog 30)
def f30a11 : Ann := subAnn [1, 1, 0] ann30
noncomputable def f30c12 : Code := subCode [1, 1, 1] (bodyOf Try.prog 30)
def f30a12 : Ann := subAnn [1, 1, 1] ann30
noncomputable def f30c13 : Code := subCode [1, 1, 0, 0] (bodyOf Try.prog 30)
def f30a13 : Ann := subAnn [1, 1, 0, 0] ann30
noncomputable def f30c14 : Code := subCode [1, 1, 0, 1] (bodyOf Try.prog 30)
def f30a14 : Ann := subAnn [1, 1, 0, 1] ann30
noncomputable def f30c15 : Code := subCode [1, 1, 0, 1, 0] (bodyOf Try.prog 30)
def f30a15 : Ann := subAnn [1, 1, 0, 1, 0] ann30
noncomputable def f30c16 : Code := subCode [1, 1, 0, 1, 0, 0] (bodyOf Try.prog 30)
def f30a16 : Ann := subAnn [1, 1, 0, 1, 0, 0] ann30
noncomputable def f30c17 : Code := subCode [1, 1, 0, 1, 0, 0, 0] (bodyOf Try.prog 30)
def f30a17 : Ann := subAnn [1, 1, 0, 1, 0, 0, 0] ann30
noncomputable def f30c18 : Code := subCode [1, 1, 0, 1, 0, 0, 1] (bodyOf Try.prog 30)
def f30a18 : Ann := subAnn [1, 1, 0, 1, 0, 0, 1] ann30
noncomputable def f30c19 : Code := subCode [1, 1, 0, 1, 0, 0, 1, 0] (bodyOf Try.prog 30)
def f30a19 : Ann := subAnn [1, 1, 0, 1, 0, 0, 1, 0] ann30
noncomputable def f30c20 : Code := subCode [1, 1, 0, 1, 0, 0, 1, 1] (bodyOf Try.prog 30)
def f30a20 : Ann := subAnn [1, 1, 0, 1, 0, 0, 1, 1] ann30
noncomputable def f30c21 : Code := subCode [1, 1, 0, 1, 0, 0, 1, 0, 0] (bodyOf Try.prog 30)
def f30a21 : Ann := subAnn [1, 1, 0, 1, 0, 0, 1, 0, 0] ann30
noncomputable def f30c22 : Code := subCode [1, 1, 0, 1, 0, 0, 1, 0, 1] (bodyOf Try.prog 30)
def f30a22 : Ann := subAnn [1, 1, 0, 1, 0, 0, 1, 0, 1] ann30
noncomputable def f30c23 : Code := subCode [1, 1, 0, 1, 0, 0, 1, 1, 0] (bodyOf Try.prog 30)
def f30a23 : Ann := subAnn [1, 1, 0, 1, 0, 0, 1, 1, 0] ann30
noncomputable def f30c24 : Code := subCode [1, 1, 0, 1, 0, 0, 1, 1, 1] (bodyOf Try.prog 30)
def f30a24 : Ann := subAnn [1, 1, 0, 1, 0, 0, 1, 1, 1] ann30
noncomputable def f30c25 : Code := subCode [1, 1, 0, 1, 0, 0, 1, 1, 0, 0] (bodyOf Try.prog 30)
def f30a25 : Ann := subAnn [1, 1, 0, 1, 0, 0, 1, 1, 0, 0] ann30
noncomputable def f30c26 : Code := subCode [1, 1, 0, 1, 0, 0, 1, 1, 0, 0, 0] (bodyOf Try.prog 30)
def f30a26 : Ann := subAnn [1, 1, 0, 1, 0, 0, 1, 1, 0, 0, 0] ann30
noncomputable def f30c27 : Code := subCode [1, 1, 0, 1, 0, 0, 1, 1, 0, 0, 1] (bodyOf Try.prog 30)
def f30a27 : Ann := subAnn [1, 1, 0, 1, 0, 0, 1, 1, 0, 0, 1] ann30
noncomputable def f30c28 : Code := subCode [1, 1, 0, 1, 0, 0, 1, 1, 0, 0, 1, 0] (bodyOf Try.prog 30)
def f30a28 : Ann := subAnn [1, 1, 0, 1, 0, 0, 1, 1, 0, 0, 1, 0] ann30
noncomputable def f30c29 : Code := subCode [1, 1, 0, 1, 0, 0, 1, 1, 0, 0, 1, 1] (bodyOf Try.prog 30)
def f30a29 : Ann := subAnn [1, 1, 0, 1, 0, 0, 1, 1, 0, 0, 1, 1] ann30
noncomputable def f30c30 : Code := subCode [1, 1, 0, 1, 0, 0, 1, 1, 0, 0, 1, 1, 0] (bodyOf Try.prog 30)
def f30a30 : Ann := subAnn [1, 1, 0, 1, 0, 0, 1, 1, 0, 0, 1, 1, 0] ann30
noncomputable def f30c31 : Code := subCode [1, 1, 0, 1, 0, 0, 1, 1, 0, 0, 1, 1, 1] (bodyOf Try.prog 30)
def f30a31 : Ann := subAnn [1, 1, 0, 1, 0, 0, 1, 1, 0, 0, 1, 1, 1] ann30
noncomputable def f30c32 : Code := subCode [1, 1, 0, 1, 0, 0, 1, 1, 0, 0, 1, 1, 0, 0] (bodyOf Try.prog 30)
def f30a32 : Ann := subAnn [1, 1, 0, 1, 0, 0, 1, 1, 0, 0, 1, 1, 0, 0] ann30
noncomputable def f30c33 : Code := subCode [1, 1, 0, 1, 0, 0, 1, 1, 0, 0, 1, 1, 0, 1] (bodyOf Try.prog 30)
def f30a33 : Ann := subAnn [1, 1, 0, 1, 0, 0, 1, 1, 0, 0, 1, 1, 0, 1] ann30
noncomputable def f30c34 : Code := subCode [1, 1, 1, 0] (bodyOf Try.prog 30)
def f30a34 : Ann := subAnn [1, 1, 1, 0] ann30
noncomputable def f30c35 : Code := subCode [1, 1, 1, 1] (bodyOf Try.prog 30)
def f30a35 : Ann := subAnn [1, 1, 1, 1] ann30
noncomputable def f30L15 {R : Type} (call : CallF R) (N : Nat) : KF R → Env → St → Option R := fun K e σ => runK Try.prog call N f30c16 f30a16 K e σ
def f30e0 (y0 : ByteArray) (y1 : Int) (y2 : Option (Nat × Nat)) (y3 : Nat) (y4 : Option Nat) (y5 : ByteArray) (y6 : Int) (y7 : Option (Nat × Nat)) (y8 : Nat) (y9 : Option Nat) : Env := AV.agg [AV.str y0, AV.int IntKind.i64 y1, AV.slice y2 y3 y4 (2 : Nat)] :: AV.agg [AV.str y5, AV.int IntKind.i64 y6, AV.slice y7 y8 y9 (2 : Nat)] :: Env.sp 60 []
def f30e1 (y0 : ByteArray) (y1 : Int) (y2 : Option (Nat × Nat)) (y3 : Nat) (y4 : Option Nat) (y5 : ByteArray) (y6 : Int) (y7 : Option (Nat × Nat)) (y8 : Nat) (y9 : Option Nat) (y10 : Nat) (y11 : Nat) (y12 : Bool) : Env := AV.agg [AV.str y0, AV.int IntKind.i64 y1, AV.slice y2 y3 y4 (2 : Nat)] :: AV.agg [AV.str y5, AV.int IntKind.i64 y6, AV.slice y7 y8 y9 (2 : Nat)] :: AV.ptr (some (y10, (0 : Nat))) :: AV.ptr (some (y11, (0 : Nat))) :: AV.bool y12 :: Env.sp 57 []
def f30e2 (y0 : Nat) (y1 : Nat) : Env := Env.sp 2 (AV.ptr (some (y0, (0 : Nat))) :: AV.ptr (some (y1, (0 : Nat))) :: Env.sp 58 [])
def f30e3 (y0 : Nat) (y1 : Nat) (y2 : Nat) (y3 : ByteArray) (y4 : Nat) (y5 : ByteArray) (y6 : Bool) (y7 : Bool) (y8 : Bool) (y9 : Bool) (y10 : Bool) : Env := Env.sp 2 (AV.ptr (some (y0, (0 : Nat))) :: AV.ptr (some (y1, (0 : Nat))) :: Env.sp 2 (AV.ptr (some (y2, (0 : Nat))) :: AV.str y3 :: AV.ptr (some (y4, (0 : Nat))) :: AV.str y5 :: AV.bool y6 :: AV.bool y7 :: AV.tuple [] :: AV.tuple [] :: AV.tuple [] :: AV.tuple [] :: AV.tuple [] :: AV.bool y8 :: AV.bool y9 :: AV.tuple [] :: AV.tuple [] :: AV.tuple [] :: AV.tuple [] :: AV.tuple [] :: AV.tuple [] :: AV.tuple [] :: AV.bool y10 :: Env.sp 35 []))
def f30e4 (y0 : Nat) (y1 : Nat) (y2 : Nat) (y3 : ByteArray) (y4 : Nat) (y5 : ByteArray) (y6 : Bool) (y7 : Bool) (y8 : Nat) (y9 : Int) (y10 : Nat) (y11 : Int) (y12 : Bool) (y13 : Bool) (y14 : Bool) (y15 : Bool) : Env := Env.sp 2 (AV.ptr (some (y0, (0 : Nat))) :: AV.ptr (some (y1, (0 : Nat))) :: Env.sp 2 (AV.ptr (some (y2, (0 : Nat))) :: AV.str y3 :: AV.ptr (some (y4, (0 : Nat))) :: AV.str y5 :: AV.bool y6 :: AV.bool y7 :: AV.ptr (some (y8, (1 : Nat))) :: AV.int IntKind.i64 y9 :: AV.ptr (some (y10, (1 : Nat))) :: AV.int IntKind.i64 y11 :: AV.bool y12 :: AV.bool y13 :: AV.bool y14 :: AV.tuple [] :: AV.tuple [] :: AV.tuple [] :: AV.tuple [] :: AV.tuple [] :: AV.tuple [] :: AV.tuple [] :: AV.bool y15 :: Env.sp 35 []))
def f30e5 (y0 : Nat) (y1 : Nat) (y2 : Nat) (y3 : ByteArray) (y4 : Nat) (y5 : ByteArray) (y6 : Bool) (y7 : Bool) (y8 : Nat) (y9 : Int) (y10 : Nat) (y11 : Int) (y12 : Bool) (y13 : Bool) (y14 : Bool) (y15 : Nat) (y16 : Option (Nat × Nat)) (y17 : Nat) (y18 : Option Nat) (y19 : Int) (y20 : Nat) (y21 : Option (Nat × Nat)) (y22 : Nat) (y23 : Option Nat) (y24 : Int) (y25 : Bool) (y26 : Bool) : Env := Env.sp 2 (AV.ptr (some (y0, (0 : Nat))) :: AV.ptr (some (y1, (0 : Nat))) :: Env.sp 2 (AV.ptr (some (y2, (0 : Nat))) :: AV.str y3 :: AV.ptr (some (y4, (0 : Nat))) :: AV.str y5 :: AV.bool y6 :: AV.bool y7 :: AV.ptr (some (y8, (1 : Nat))) :: AV.int IntKind.i64 y9 :: AV.ptr (some (y10, (1 : Nat))) :: AV.int IntKind.i64 y11 :: AV.bool y12 :: AV.bool y13 :: AV.bool y14 :: AV.ptr (some (y15, (2 : Nat))) :: AV.slice y16 y17 y18 (2 : Nat) :: AV.int IntKind.i64 y19 :: AV.ptr (some (y20, (2 : Nat))) :: AV.slice y21 y22 y23 (2 : Nat) :: AV.int IntKind.i64 y24 :: AV.bool y25 :: AV.bool y26 :: Env.sp 35 []))
def f30e6 (y0 : Nat) (y1 : Nat) (y2 : Bool) : Env := Env.sp 2 (AV.ptr (some (y0, (0 : Nat))) :: AV.ptr (some (y1, (0 : Nat))) :: Env.sp 22 (AV.bool y2 :: Env.sp 35 []))
def f30e7 (y0 : Nat) (y1 : Nat) (y2 : Bool) (y3 : Bool) : Env := Env.sp 2 (AV.ptr (some (y0, (0 : Nat))) :: AV.ptr (some (y1, (0 : Nat))) :: AV.bool y2 :: Env.sp 21 (AV.bool y3 :: Env.sp 35 []))
def f30e8 (y0 : Bool) : Env := Env.sp 4 (AV.bool y0 :: Env.sp 57 [])
def f30e9 (y0 : Nat) (y1 : Nat) (y2 : Nat) (y3 : Option (Nat × Nat)) (y4 : Nat) (y5 : Option Nat) (y6 : Int) (y7 : Int) : Env := Env.sp 2 (AV.ptr (some (y0, (0 : Nat))) :: AV.ptr (some (y1, (0 : Nat))) :: Env.sp 23 (AV.ptr (some (y2, (2 : Nat))) :: AV.slice y3 y4 y5 (2 : Nat) :: AV.int IntKind.i64 y6 :: AV.int IntKind.i64 y7 :: Env.sp 31 []))
def f30e10 (y0 : Nat) (y1 : Nat) (y2 : Int) (y3 : Int) : Env := Env.sp 2 (AV.ptr (some (y0, (0 : Nat))) :: AV.ptr (some (y1, (0 : Nat))) :: Env.sp 25 (AV.int IntKind.i64 y2 :: AV.int IntKind.i64 y3 :: Env.sp 31 []))
def f30e11 (y0 : Nat) (y1 : Nat) (y2 : Int) (y3 : Int) (y4 : Bool) : Env := Env.sp 2 (AV.ptr (some (y0, (0 : Nat))) :: AV.ptr (some (y1, (0 : Nat))) :: Env.sp 25 (AV.int IntKind.i64 y2 :: AV.int IntKind.i64 y3 :: AV.bool y4 :: Env.sp 30 []))
def f30e12 : Env := Env.sp 62 []
def f30e13 (y0 : Nat) (y1 : Nat) (y2 : Int) (y3 : Int) (y4 : Int) (y5 : Int) : Env := Env.sp 2 (AV.ptr (some (y0, (0 : Nat))) :: AV.ptr (some (y1, (0 : Nat))) :: Env.sp 1 (AV.int IntKind.i64 y2 :: Env.sp 23 (AV.int IntKind.i64 y3 :: AV.int IntKind.i64 y4 :: Env.sp 1 (AV.int IntKind.i64 y5 :: Env.sp 29 []))))
def f30e14 (y0 : Nat) (y1 : Nat) (y2 : Int) (y3 : Int) (y4 : Int) : Env := Env.sp 2 (AV.ptr (some (y0, (0 : Nat))) :: AV.ptr (some (y1, (0 : Nat))) :: Env.sp 1 (AV.int IntKind.i64 y2 :: Env.sp 23 (AV.int IntKind.i64 y3 :: AV.int IntKind.i64 y4 :: Env.sp 31 [])))
def f30e15 (y0 : Nat) (y1 : Nat) (y2 : Int) (y3 : Int) (y4 : Int) (y5 : Nat) (y6 : Option (Nat × Nat)) (y7 : Nat) (y8 : Option Nat) (y9 : Int) (y10 : Option (Nat × Nat)) (y11 : Option (Nat × Nat)) (y12 : Int) (y13 : Nat) (y14 : Option (Nat × Nat)) (y15 : Nat) (y16 : Option Nat) (y17 : Int) (y18 : Option (Nat × Nat)) (y19 : Option (Nat × Nat)) (y20 : Int) (y21 : Bool) (y22 : Bool) (y23 : Bool) : Env := Env.sp 2 (AV.ptr (some (y0, (0 : Nat))) :: AV.ptr (some (y1, (0 : Nat))) :: Env.sp 1 (AV.int IntKind.i64 y2 :: Env.sp 23 (AV.int IntKind.i64 y3 :: AV.int IntKind.i64 y4 :: Env.sp 2 (AV.ptr (some (y5, (2 : Nat))) :: AV.slice y6 y7 y8 (2 : Nat) :: AV.int IntKind.i64 y9 :: AV.ptr y10 :: AV.ptr y11 :: AV.int IntKind.i64 y12 :: AV.ptr (some (y13, (2 : Nat))) :: AV.slice y14 y15 y16 (2 : Nat) :: AV.int IntKind.i64 y17 :: AV.ptr y18 :: AV.ptr y19 :: AV.int IntKind.i64 y20 :: AV.bool y21 :: AV.bool y22 :: AV.tuple [] :: AV.tuple [] :: AV.tuple [] :: AV.tuple [] :: AV.tuple [] :: AV.tuple [] :: AV.tuple [] :: AV.tuple [] :: AV.tuple [] :: AV.tuple [] :: AV.tuple [] :: AV.tuple [] :: AV.tuple [] :: AV.bool y23 :: Env.sp 1 []))))
def f30e16 (y0 : Nat) (y1 : Nat) (y2 : Int) (y3 : Int) (y4 : Int) (y5 : Nat) (y6 : Option (Nat × Nat)) (y7 : Nat) (y8 : Option Nat) (y9 : Int) (y10 : Option (Nat × Nat)) (y11 : Option (Nat × Nat)) (y12 : Int) (y13 : Nat) (y14 : Option (Nat × Nat)) (y15 : Nat) (y16 : Option Nat) (y17 : Int) (y18 : Option (Nat × Nat)) (y19 : Option (Nat × Nat)) (y20 : Int) (y21 : Bool) (y22 : Bool) (y23 : Nat) (y24 : Option (Nat × Nat)) (y25 : Nat) (y26 : Option Nat) (y27 : Int) (y28 : Option (Nat × Nat)) (y29 : Option (Nat × Nat)) (y30 : ByteArray) (y31 : Nat) (y32 : Option (Nat × Nat)) (y33 : Nat) (y34 : Option Nat) (y35 : Int) (y36 : Option (Nat × Nat)) (y37 : Option (Nat × Nat)) (y38 : ByteArray) (y39 : Bool) (y40 : Bool) : Env := Env.sp 2 (AV.ptr (some (y0, (0 : Nat))) :: AV.ptr (some (y1, (0 : Nat))) :: Env.sp 1 (AV.int IntKind.i64 y2 :: Env.sp 23 (AV.int IntKind.i64 y3 :: AV.int IntKind.i64 y4 :: Env.sp 2 (AV.ptr (some (y5, (2 : Nat))) :: AV.slice y6 y7 y8 (2 : Nat) :: AV.int IntKind.i64 y9 :: AV.ptr y10 :: AV.ptr y11 :: AV.int IntKind.i64 y12 :: AV.ptr (some (y13, (2 : Nat))) :: AV.slice y14 y15 y16 (2 : Nat) :: AV.int IntKind.i64 y17 :: AV.ptr y18 :: AV.ptr y19 :: AV.int IntKind.i64 y20 :: AV.bool y21 :: AV.bool y22 :: AV.ptr (some (y23, (2 : Nat))) :: AV.slice y24 y25 y26 (2 : Nat) :: AV.int IntKind.i64 y27 :: AV.ptr y28 :: AV.ptr y29 :: AV.str y30 :: AV.ptr (some (y31, (2 : Nat))) :: AV.slice y32 y33 y34 (2 : Nat) :: AV.int IntKind.i64 y35 :: AV.ptr y36 :: AV.ptr y37 :: AV.str y38 :: AV.bool y39 :: AV.bool y40 :: Env.sp 1 []))))
def f30e17 (y0 : Nat) (y1 : Nat) (y2 : Int) (y3 : Int) (y4 : Bool) : Env := Env.sp 2 (AV.ptr (some (y0, (0 : Nat))) :: AV.ptr (some (y1, (0 : Nat))) :: Env.sp 25 (AV.int IntKind.i64 y2 :: AV.int IntKind.i64 y3 :: Env.sp 29 (AV.bool y4 :: Env.sp 1 [])))
def f30e18 (y0 : Nat) (y1 : Nat) (y2 : Bool) (y3 : Int) (y4 : Int) (y5 : Bool) : Env := Env.sp 2 (AV.ptr (some (y0, (0 : Nat))) :: AV.ptr (some (y1, (0 : Nat))) :: AV.bool y2 :: Env.sp 24 (AV.int IntKind.i64 y3 :: AV.int IntKind.i64 y4 :: Env.sp 29 (AV.bool y5 :: Env.sp 1 [])))
def f30e19 (y0 : Nat) (y1 : Nat) (y2 : Int) (y3 : Int) (y4 : Int) : Env := Env.sp 2 (AV.ptr (some (y0, (0 : Nat))) :: AV.ptr (some (y1, (0 : Nat))) :: Env.sp 25 (AV.int IntKind.i64 y2 :: AV.int IntKind.i64 y3 :: Env.sp 30 (AV.int IntKind.i64 y4 :: [])))

/- function 30 -/
theorem f30_eq {R : Type} (call : CallF R) (N : Nat) (y0 : ByteArray) (y1 : Int) (y2 : Option (Nat × Nat)) (y3 : Nat) (y4 : Option Nat) (y5 : ByteArray) (y6 : Int) (y7 : Option (Nat × Nat)) (y8 : Nat) (y9 : Option Nat) (σ : St) (K : AV → St → Option R) :
    bodyK Try.prog call N ann 30 [AV.agg [AV.str y0, AV.int IntKind.i64 y1, AV.slice y2 y3 y4 (2 : Nat)], AV.agg [AV.str y5, AV.int IntKind.i64 y6, AV.slice y7 y8 y9 (2 : Nat)]] σ K = runK Try.prog call N f30c0 f30a0 (bodyC Try.prog f30rs K) (f30e0 y0 y1 y2 y3 y4 y5 y6 y7 y8 y9) σ := bodyK_of (fn := ((Try.prog.funcs[30]?).get rfl)) (by kernel_rfl) (by kernel_rfl) (by kernel_rfl) (by kernel_rfl) (by kernel_rfl) (by kernel_rfl)
theorem f30n0 {R : Type} (call : CallF R) (N : Nat) (J : KF R) (e : Env) (σ : St) : runK Try.prog call N f30c0 f30a0 J e σ = runK Try.prog call N f30c1 f30a1 (seqC (fun K e σ => runK Try.prog call N f30c2 f30a2 K e σ) f30a0 J) e σ := runK_seq' (by kernel_rfl) (by kernel_rfl) (by kernel_rfl)
theorem f30r1_f30e0 {R : Type} (call : CallF R) (N : Nat) (y0 : ByteArray) (y1 : Int) (y2 : Option (Nat × Nat)) (y3 : Nat) (y4 : Option Nat) (y5 : ByteArray) (y6 : Int) (y7 : Option (Nat × Nat)) (y8 : Nat) (y9 : Option Nat) (J : KF R) (σ : St) :
    runK Try.prog call N f30c1 f30a1 J (f30e0 y0 y1 y2 y3 y4 y5 y6 y7 y8 y9) σ =
J Ex.normal
  (f30e1 y0 y1 y2 y3 y4 y5 y6 y7 y8 y9 (St.next σ)
    (St.next (St.new σ (Blk.cells [AV.str y0, AV.int IntKind.i64 y1, AV.slice y2 y3 y4 (2 : Nat)] true))) false)
  (St.new (St.new σ (Blk.cells [AV.str y0, AV.int IntKind.i64 y1, AV.slice y2 y3 y4 (2 : Nat)] true))
    (Blk.cells [AV.str y5, AV.int IntKind.i64 y6, AV.slice y7 y8 y9 (2 : Nat)] true)) := hide (by kernel_rfl)
theorem f30z0_f30e1 (y0 : ByteArray) (y1 : Int) (y2 : Option (Nat × Nat)) (y3 : Nat) (y4 : Option Nat) (y5 : ByteArray) (y6 : Int) (y7 : Option (Nat × Nat)) (y8 : Nat) (y9 : Option Nat) (y10 : Nat) (y11 : Nat) (y12 : Bool) : Ann.clr f30a0 (f30e1 y0 y1 y2 y3 y4 y5 y6 y7 y8 y9 y10 y11 y12) = f30e2 y10 y11 := hide (by kernel_rfl)
theorem f30n2 {R : Type} (call : CallF R) (N : Nat) (J : KF R) (e : Env) (σ : St) : runK Try.prog call N f30c2 f30a2 J e σ = runK Try.prog call N f30c3 f30a3 (seqC (fun K e σ => runK Try.prog call N f30c4 f30a4 K e σ) f30a2 J) e σ := runK_seq' (by kernel_rfl) (by kernel_rfl) (by kernel_rfl)
theorem f30n3 {R : Type} (call : CallF R) (N : Nat) (J : KF R) (e : Env) (σ : St) : runK Try.prog call N f30c3 f30a3 J e σ = runK Try.prog call N f30c5 f30a5 (seqC (fun K e σ => runK Try.prog call N f30c6 f30a6 K e σ) f30a3 J) e σ := runK_seq' (by kernel_rfl) (by kernel_rfl) (by kernel_rfl)
theorem f30r5_f30e2 {R : Type} (call : CallF R) (N : Nat) (y0 : Nat) (y1 : Nat) (J : KF R) (σ : St) :
    runK Try.prog call N f30c5 f30a5 J (f30e2 y0 y1) σ =
Option.bind (St.ld σ y0 (0 : Nat)) fun v0 =>
  Option.bind (AV.toStr v0) fun v1 =>
    Option.bind (St.ld σ y1 (0 : Nat)) fun v2 =>
      Option.bind (AV.toStr v2) fun v3 =>
        if (!decide (v1 = v3)) = true then J Ex.normal (f30e3 y0 y1 y0 v1 y1 v3 (!decide (v1 = v3)) true true true true) σ
        else
          Option.bind (St.ld σ y0 (1 : Nat)) fun v4 =>
            Option.bind (AV.toInt IntKind.i64 v4) fun v5 =>
              Option.bind (St.ld σ y1 (1 : Nat)) fun v6 =>
                Option.bind (AV.toInt IntKind.i64 v6) fun v7 =>
                  if (v5 != v7) = true then
                    J Ex.normal (f30e4 y0 y1 y0 v1 y1 v3 (!decide (v1 = v3)) false y0 v5 y1 v7 (v5 != v7) (v5 != v7) true true) σ
                  else
                    Option.bind (St.ld σ y0 (2 : Nat)) fun v8 =>
                      Option.bind (AV.toSl (2 : Nat) v8) fun v9 =>
                        Option.bind (St.ld σ y1 (2 : Nat)) fun v10 =>
                          Option.bind (AV.toSl (2 : Nat) v10) fun v11 =>
                            J Ex.normal
                              (f30e5 y0 y1 y0 v1 y1 v3 (!decide (v1 = v3)) false y0 v5 y1 v7 (v5 != v7) (v5 != v7) false y0 (Sl.o v9) (Sl.len v9)
                                (Sl.cap v9) (↑(Sl.len v9) : Int) y1 (Sl.o v11) (Sl.len v11) (Sl.cap v11) (↑(Sl.len v11) : Int)
                                ((↑(Sl.len v9) : Int) != (↑(Sl.len v11) : Int)) ((↑(Sl.len v9) : Int) != (↑(Sl.len v11) : Int)))
                              σ := hide (by kernel_rfl)
theorem f30z3_f30e3 (y0 : Nat) (y1 : Nat) (y2 : Nat) (y3 : ByteArray) (y4 : Nat) (y5 : ByteArray) (y6 : Bool) (y7 : Bool) (y8 : Bool) (y9 : Bool) (y10 : Bool) : Ann.clr f30a3 (f30e3 y0 y1 y2 y3 y4 y5 y6 y7 y8 y9 y10) = f30e6 y0 y1 y10 := hide (by kernel_rfl)
theorem f30x6_f30e6 {R : Type} (call : CallF R) (N : Nat) (y0 : Nat) (y1 : Nat) (y2 : Bool) (J : KF R) (σ : St) : runK Try.prog call N f30c6 f30a6 J (f30e6 y0 y1 y2) σ = if y2 = true then runK Try.prog call N f30c7 f30a7 (condC f30a6 J) (f30e6 y0 y1 y2) σ else runK Try.prog call N f30c8 f30a8 (condC f30a6 J) (f30e6 y0 y1 y2) σ := runK_cond' (o := Operand.tmp (26 : Nat)) (by kernel_rfl) (by kernel_rfl) (by kernel_rfl) (by kernel_rfl)
theorem f30n7 {R : Type} (call : CallF R) (N : Nat) (J : KF R) (e : Env) (σ : St) : runK Try.prog call N f30c7 f30a7 J e σ = runK Try.prog call N f30c9 f30a9 (seqC (fun K e σ => runK Try.prog call N f30c10 f30a10 K e σ) f30a7 J) e σ := runK_seq' (by kernel_rfl) (by kernel_rfl) (by kernel_rfl)
theorem f30r9_f30e6 {R : Type} (call : CallF R) (N : Nat) (y0 : Nat) (y1 : Nat) (y2 : Bool) (J : KF R) (σ : St) :
    runK Try.prog call N f30c9 f30a9 J (f30e6 y0 y1 y2) σ =
J Ex.normal (f30e7 y0 y1 false y2) σ := hide (by kernel_rfl)
theorem f30z7_f30e7 (y0 : Nat) (y1 : Nat) (y2 : Bool) (y3 : Bool) : Ann.clr f30a7 (f30e7 y0 y1 y2 y3) = f30e8 y2 := hide (by kernel_rfl)
theorem f30y10_f30e8 {R : Type} (call : CallF R) (N : Nat) (y0 : Bool) (J : KF R) (σ : St) : runK Try.prog call N f30c10 f30a10 J (f30e8 y0) σ = J .ret (f30e8 y0) σ := runK_ret' (by kernel_rfl) (by kernel_rfl)
theorem f30n8 {R : Type} (call : CallF R) (N : Nat) (J : KF R) (e : Env) (σ : St) : runK Try.prog call N f30c8 f30a8 J e σ = J .normal e σ := runK_skip' (by kernel_rfl)
theorem f30z6_f30e6 (y0 : Nat) (y1 : Nat) (y2 : Bool) : Ann.clr f30a6 (f30e6 y0 y1 y2) = f30e2 y0 y1 := hide (by kernel_rfl)
theorem f30z3_f30e4 (y0 : Nat) (y1 : Nat) (y2 : Nat) (y3 : ByteArray) (y4 : Nat) (y5 : ByteArray) (y6 : Bool) (y7 : Bool) (y8 : Nat) (y9 : Int) (y10 : Nat) (y11 : Int) (y12 : Bool) (y13 : Bool) (y14 : Bool) (y15 : Bool) : Ann.clr f30a3 (f30e4 y0 y1 y2 y3 y4 y5 y6 y7 y8 y9 y10 y11 y12 y13 y14 y15) = f30e6 y0 y1 y15 := hide (by kernel_rfl)
theorem f30z3_f30e5 (y0 : Nat) (y1 : Nat) (y2 : Nat) (y3 : ByteArray) (y4 : Nat) (y5 : ByteArray) (y6 : Bool) (y7 : Bool) (y8 : Nat) (y9 : Int) (y10 : Nat) (y11 : Int) (y12 : Bool) (y13 : Bool) (y14 : Bool) (y15 : Nat) (y16 : Option (Nat × Nat)) (y17 : Nat) (y18 : Option Nat) (y19 : Int) (y20 : Nat) (y21 : Option (Nat × Nat)) (y22 : Nat) (y23 : Option Nat) (y24 : Int) (y25 : Bool) (y26 : Bool) : Ann.clr f30a3 (f30e5 y0 y1 y2 y3 y4 y5 y6 y7 y8 y9 y10 y11 y12 y13 y14 y15 y16 y17 y18 y19 y20 y21 y22 y23 y24 y25 y26) = f30e6 y0 y1 y26 := hide (by kernel_rfl)
theorem f30z2_f30e2 (y0 : Nat) (y1 : Nat) : Ann.clr f30a2 (f30e2 y0 y1) = f30e2 y0 y1 := hide (by kernel_rfl)
theorem f30n4 {R : Type} (call : CallF R) (N : Nat) (J : KF R) (e : Env) (σ : St) : runK Try.prog call N f30c4 f30a4 J e σ = runK Try.prog call N f30c11 f30a11 (seqC (fun K e σ => runK Try.prog call N f30c12 f30a12 K e σ) f30a4 J) e σ := runK_seq' (by kernel_rfl) (by kernel_rfl) (by kernel_rfl)
theorem f30n11 {R : Type} (call : CallF R) (N : Nat) (J : KF R) (e : Env) (σ : St) : runK Try.prog call N f30c11 f30a11 J e σ = runK Try.prog call N f30c13 f30a13 (seqC (fun K e σ => runK Try.prog call N f30c14 f30a14 K e σ) f30a11 J) e σ := runK_seq' (by kernel_rfl) (by kernel_rfl) (by kernel_rfl)
theorem f30r13_f30e2 {R : Type} (call : CallF R) (N : Nat) (y0 : Nat) (y1 : Nat) (J : KF R) (σ : St) :
    runK Try.prog call N f30c13 f30a13 J (f30e2 y0 y1) σ =
Option.bind (St.ld σ y0 (2 : Nat)) fun v0 =>
  Option.bind (AV.toSl (2 : Nat) v0) fun v1 => J Ex.normal (f30e9 y0 y1 y0 (Sl.o v1) (Sl.len v1) (Sl.cap v1) (↑(Sl.len v1) : Int) (0 : Int)) σ := hide (by kernel_rfl)
theorem f30z11_f30e9 (y0 : Nat) (y1 : Nat) (y2 : Nat) (y3 : Option (Nat × Nat)) (y4 : Nat) (y5 : Option Nat) (y6 : Int) (y7 : Int) : Ann.clr f30a11 (f30e9 y0 y1 y2 y3 y4 y5 y6 y7) = f30e10 y0 y1 y6 y7 := hide (by kernel_rfl)
theorem f30n14 {R : Type} (call : CallF R) (N : Nat) (J : KF R) (e : Env) (σ : St) : runK Try.prog call N f30c14 f30a14 J e σ = runK Try.prog call N f30c15 f30a15 (blockC 0 f30a14 J) e σ := runK_block' (by kernel_rfl) (by kernel_rfl)
theorem f30L15_eq {R : Type} (call : CallF R) (N : Nat) (J : KF R) (e : Env) (σ : St) : f30L15 call N J e σ = runK Try.prog call N f30c16 f30a16 J e σ := hide rfl
theorem f30z15_f30e10 (y0 : Nat) (y1 : Nat) (y2 : Int) (y3 : Int) : Ann.clr f30a15 (f30e10 y0 y1 y2 y3) = f30e10 y0 y1 y2 y3 := hide (by kernel_rfl)
theorem f30l15_f30e10 {R : Type} (call : CallF R) (N : Nat) (y0 : Nat) (y1 : Nat) (y2 : Int) (y3 : Int) (J : KF R) (σ : St) : runK Try.prog call N f30c15 f30a15 J (f30e10 y0 y1 y2 y3) σ = loopK (f30L15 call N) f30a15 N J (f30e10 y0 y1 y2 y3) σ := runK_loop' (by kernel_rfl) (by kernel_rfl) (by kernel_rfl)
theorem f30n16 {R : Type} (call : CallF R) (N : Nat) (J : KF R) (e : Env) (σ : St) : runK Try.prog call N f30c16 f30a16 J e σ = runK Try.prog call N f30c17 f30a17 (seqC (fun K e σ => runK Try.prog call N f30c18 f30a18 K e σ) f30a16 J) e σ := runK_seq' (by kernel_rfl) (by kernel_rfl) (by kernel_rfl)
theorem f30r17_f30e10 {R : Type} (call : CallF R) (N : Nat) (y0 : Nat) (y1 : Nat) (y2 : Int) (y3 : Int) (J : KF R) (σ : St) :
    runK Try.prog call N f30c17 f30a17 J (f30e10 y0 y1 y2 y3) σ =
J Ex.normal (f30e11 y0 y1 y2 y3 (decide (y3 < y2))) σ := hide (by kernel_rfl)
theorem f30z16_f30e11 (y0 : Nat) (y1 : Nat) (y2 : Int) (y3 : Int) (y4 : Bool) : Ann.clr f30a16 (f30e11 y0 y1 y2 y3 y4) = f30e11 y0 y1 y2 y3 y4 := hide (by kernel_rfl)
theorem f30n18 {R : Type} (call : CallF R) (N : Nat) (J : KF R) (e : Env) (σ : St) : runK Try.prog call N f30c18 f30a18 J e σ = runK Try.prog call N f30c19 f30a19 (seqC (fun K e σ => runK Try.prog call N f30c20 f30a20 K e σ) f30a18 J) e σ := runK_seq' (by kernel_rfl) (by kernel_rfl) (by kernel_rfl)
theorem f30x19_f30e11 {R : Type} (call : CallF R) (N : Nat) (y0 : Nat) (y1 : Nat) (y2 : Int) (y3 : Int) (y4 : Bool) (J : KF R) (σ : St) : runK Try.prog call N f30c19 f30a19 J (f30e11 y0 y1 y2 y3 y4) σ = if y4 = true then runK Try.prog call N f30c21 f30a21 (condC f30a19 J) (f30e11 y0 y1 y2 y3 y4) σ else runK Try.prog call N f30c22 f30a22 (condC f30a19 J) (f30e11 y0 y1 y2 y3 y4) σ := runK_cond' (o := Operand.tmp (31 : Nat)) (by kernel_rfl) (by kernel_rfl) (by kernel_rfl) (by kernel_rfl)
theorem f30n21 {R : Type} (call : CallF R) (N : Nat) (J : KF R) (e : Env) (σ : St) : runK Try.prog call N f30c21 f30a21 J e σ = J .normal e σ := runK_skip' (by kernel_rfl)
theorem f30z19_f30e11 (y0 : Nat) (y1 : Nat) (y2 : Int) (y3 : Int) (y4 : Bool) : Ann.clr f30a19 (f30e11 y0 y1 y2 y3 y4) = f30e10 y0 y1 y2 y3 := hide (by kernel_rfl)
theorem f30y22_f30e11 {R : Type} (call : CallF R) (N : Nat) (y0 : Nat) (y1 : Nat) (y2 : Int) (y3 : Int) (y4 : Bool) (J : KF R) (σ : St) : runK Try.prog call N f30c22 f30a22 J (f30e11 y0 y1 y2 y3 y4) σ = J (.exit 0) (f30e12) σ := runK_exit' (by kernel_rfl) (by kernel_rfl)
theorem f30z18_f30e10 (y0 : Nat) (y1 : Nat) (y2 : Int) (y3 : Int) : Ann.clr f30a18 (f30e10 y0 y1 y2 y3) = f30e10 y0 y1 y2 y3 := hide (by kernel_rfl)
theorem f30n20 {R : Type} (call : CallF R) (N : Nat) (J : KF R) (e : Env) (σ : St) : runK Try.prog call N f30c20 f30a20 J e σ = runK Try.prog call N f30c23 f30a23 (seqC (fun K e σ => runK Try.prog call N f30c24 f30a24 K e σ) f30a20 J) e σ := runK_seq' (by kernel_rfl) (by kernel_rfl) (by kernel_rfl)
theorem f30n23 {R : Type} (call : CallF R) (N : Nat) (J : KF R) (e : Env) (σ : St) : runK Try.prog call N f30c23 f30a23 J e σ = runK Try.prog call N f30c25 f30a25 (blockC 1 f30a23 J) e σ := runK_block' (by kernel_rfl) (by kernel_rfl)
theorem f30n25 {R : Type} (call : CallF R) (N : Nat) (J : KF R) (e : Env) (σ : St) : runK Try.prog call N f30c25 f30a25 J e σ = runK Try.prog call N f30c26 f30a26 (seqC (fun K e σ => runK Try.prog call N f30c27 f30a27 K e σ) f30a25 J) e σ := runK_seq' (by kernel_rfl) (by kernel_rfl) (by kernel_rfl)
theorem f30r26_f30e10 {R : Type} (call : CallF R) (N : Nat) (y0 : Nat) (y1 : Nat) (y2 : Int) (y3 : Int) (J : KF R) (σ : St) :
    runK Try.prog call N f30c26 f30a26 J (f30e10 y0 y1 y2 y3) σ =
J Ex.normal (f30e13 y0 y1 y3 y2 y3 y3) σ := hide (by kernel_rfl)
theorem f30z25_f30e13 (y0 : Nat) (y1 : Nat) (y2 : Int) (y3 : Int) (y4 : Int) (y5 : Int) : Ann.clr f30a25 (f30e13 y0 y1 y2 y3 y4 y5) = f30e14 y0 y1 y2 y3 y4 := hide (by kernel_rfl)
theorem f30n27 {R : Type} (call : CallF R) (N : Nat) (J : KF R) (e : Env) (σ : St) : runK Try.prog call N f30c27 f30a27 J e σ = runK Try.prog call N f30c28 f30a28 (seqC (fun K e σ => runK Try.prog call N f30c29 f30a29 K e σ) f30a27 J) e σ := runK_seq' (by kernel_rfl) (by kernel_rfl) (by kernel_rfl)
theorem f30r28_f30e14 {R : Type} (call : CallF R) (N : Nat) (y0 : Nat) (y1 : Nat) (y2 : Int) (y3 : Int) (y4 : Int) (J : KF R) (σ : St) :
    runK Try.prog call N f30c28 f30a28 J (f30e14 y0 y1 y2 y3 y4) σ =
Option.bind (St.ld σ y0 (2 : Nat)) fun v0 =>
  Option.bind (AV.toSl (2 : Nat) v0) fun v1 =>
    if (0 : Int) ≤ y2 ∧ y2 < (↑(Sl.len v1) : Int) then
      Option.bind (Sl.o v1) fun v2 =>
        Option.bind (St.ld σ (Prod.fst v2) (Prod.snd v2 + Int.toNat y2 * (2 : Nat))) fun v3 =>
          Option.bind (AV.toInt IntKind.i64 v3) fun v4 =>
            Option.bind (St.ld σ y1 (2 : Nat)) fun v5 =>
              Option.bind (AV.toSl (2 : Nat) v5) fun v6 =>
                if (0 : Int) ≤ y2 ∧ y2 < (↑(Sl.len v6) : Int) then
                  Option.bind (Sl.o v6) fun v7 =>
                    Option.bind (St.ld σ (Prod.fst v7) (Prod.snd v7 + Int.toNat y2 * (2 : Nat))) fun v8 =>
                      Option.bind (AV.toInt IntKind.i64 v8) fun v9 =>
                        if (v4 != v9) = true then
                          J Ex.normal
                            (f30e15 y0 y1 y2 y3 y4 y0 (Sl.o v1) (Sl.len v1) (Sl.cap v1) y2
                              (some (Prod.fst v2, Prod.snd v2 + Int.toNat y2 * (2 : Nat)))
                              (some (Prod.fst v2, Prod.snd v2 + Int.toNat y2 * (2 : Nat))) v4 y1 (Sl.o v6) (Sl.len v6) (Sl.cap v6) y2
                              (some (Prod.fst v7, Prod.snd v7 + Int.toNat y2 * (2 : Nat)))
                              (some (Prod.fst v7, Prod.snd v7 + Int.toNat y2 * (2 : Nat))) v9 (v4 != v9) true true)
                            σ
                        else
                          Option.bind (St.ld σ y0 (2 : Nat)) fun v10 =>
                            Option.bind (AV.toSl (2 : Nat) v10) fun v11 =>
                              if (0 : Int) ≤ y2 ∧ y2 < (↑(Sl.len v11) : Int) then
                                Option.bind (Sl.o v11) fun v12 =>
                                  Option.bind (St.ld σ (Prod.fst v12) (Prod.snd v12 + Int.toNat y2 * (2 : Nat) + (1 : Nat))) fun v13 =>
                                    Option.bind (AV.toStr v13) fun v14 =>
                                      Option.bind (St.ld σ y1 (2 : Nat)) fun v15 =>
                                        Option.bind (AV.toSl (2 : Nat) v15) fun v16 =>
                                          if (0 : Int) ≤ y2 ∧ y2 < (↑(Sl.len v16) : Int) then
                                            Option.bind (Sl.o v16) fun v17 =>
                                              Option.bind (St.ld σ (Prod.fst v17) (Prod.snd v17 + Int.toNat y2 * (2 : Nat) + (1 : Nat))) fun v18 =>
                                                Option.bind (AV.toStr v18) fun v19 =>
                                                  J Ex.normal
                                                    (f30e16 y0 y1 y2 y3 y4 y0 (Sl.o v1) (Sl.len v1) (Sl.cap v1) y2
                                                      (some (Prod.fst v2, Prod.snd v2 + Int.toNat y2 * (2 : Nat)))
                                                      (some (Prod.fst v2, Prod.snd v2 + Int.toNat y2 * (2 : Nat))) v4 y1 (Sl.o v6) (Sl.len v6)
                                                      (Sl.cap v6) y2 (some (Prod.fst v7, Prod.snd v7 + Int.toNat y2 * (2 : Nat)))
                                                      (some (Prod.fst v7, Prod.snd v7 + Int.toNat y2 * (2 : Nat))) v9 (v4 != v9) false y0 (Sl.o v11)
                                                      (Sl.len v11) (Sl.cap v11) y2 (some (Prod.fst v12, Prod.snd v12 + Int.toNat y2 * (2 : Nat)))
                                                      (some (Prod.fst v12, Prod.snd v12 + Int.toNat y2 * (2 : Nat) + (1 : Nat))) v14 y1 (Sl.o v16)
                                                      (Sl.len v16) (Sl.cap v16) y2 (some (Prod.fst v17, Prod.snd v17 + Int.toNat y2 * (2 : Nat)))
                                                      (some (Prod.fst v17, Prod.snd v17 + Int.toNat y2 * (2 : Nat) + (1 : Nat))) v19
                                                      (!decide (v14 = v19)) !decide (v14 = v19))
                                                    σ
                                          else none
                              else none
                else none
    else none := hide (by kernel_rfl)
theorem f30z27_f30e15 (y0 : Nat) (y1 : Nat) (y2 : Int) (y3 : Int) (y4 : Int) (y5 : Nat) (y6 : Option (Nat × Nat)) (y7 : Nat) (y8 : Option Nat) (y9 : Int) (y10 : Option (Nat × Nat)) (y11 : Option (Nat × Nat)) (y12 : Int) (y13 : Nat) (y14 : Option (Nat × Nat)) (y15 : Nat) (y16 : Option Nat) (y17 : Int) (y18 : Option (Nat × Nat)) (y19 : Option (Nat × Nat)) (y20 : Int) (y21 : Bool) (y22 : Bool) (y23 : Bool) : Ann.clr f30a27 (f30e15 y0 y1 y2 y3 y4 y5 y6 y7 y8 y9 y10 y11 y12 y13 y14 y15 y16 y17 y18 y19 y20 y21 y22 y23) = f30e17 y0 y1 y3 y4 y23 := hide (by kernel_rfl)
theorem f30x29_f30e17 {R : Type} (call : CallF R) (N : Nat) (y0 : Nat) (y1 : Nat) (y2 : Int) (y3 : Int) (y4 : Bool) (J : KF R) (σ : St) : runK Try.prog call N f30c29 f30a29 J (f30e17 y0 y1 y2 y3 y4) σ = if y4 = true then runK Try.prog call N f30c30 f30a30 (condC f30a29 J) (f30e17 y0 y1 y2 y3 y4) σ else runK Try.prog call N f30c31 f30a31 (condC f30a29 J) (f30e17 y0 y1 y2 y3 y4) σ := runK_cond' (o := Operand.tmp (60 : Nat)) (by kernel_rfl) (by kernel_rfl) (by kernel_rfl) (by kernel_rfl)
theorem f30n30 {R : Type} (call : CallF R) (N : Nat) (J : KF R) (e : Env) (σ : St) : runK Try.prog call N f30c30 f30a30 J e σ = runK Try.prog call N f30c32 f30a32 (seqC (fun K e σ => runK Try.prog call N f30c33 f30a33 K e σ) f30a30 J) e σ := runK_seq' (by kernel_rfl) (by kernel_rfl) (by kernel_rfl)
theorem f30r32_f30e17 {R : Type} (call : CallF R) (N : Nat) (y0 : Nat) (y1 : Nat) (y2 : Int) (y3 : Int) (y4 : Bool) (J : KF R) (σ : St) :
    runK Try.prog call N f30c32 f30a32 J (f30e17 y0 y1 y2 y3 y4) σ =
J Ex.normal (f30e18 y0 y1 false y2 y3 y4) σ := hide (by kernel_rfl)
theorem f30z30_f30e18 (y0 : Nat) (y1 : Nat) (y2 : Bool) (y3 : Int) (y4 : Int) (y5 : Bool) : Ann.clr f30a30 (f30e18 y0 y1 y2 y3 y4 y5) = f30e8 y2 := hide (by kernel_rfl)
theorem f30y33_f30e8 {R : Type} (call : CallF R) (N : Nat) (y0 : Bool) (J : KF R) (σ : St) : runK Try.prog call N f30c33 f30a33 J (f30e8 y0) σ = J .ret (f30e8 y0) σ := runK_ret' (by kernel_rfl) (by kernel_rfl)
theorem f30n31 {R : Type} (call : CallF R) (N : Nat) (J : KF R) (e : Env) (σ : St) : runK Try.prog call N f30c31 f30a31 J e σ = J .normal e σ := runK_skip' (by kernel_rfl)
theorem f30z29_f30e17 (y0 : Nat) (y1 : Nat) (y2 : Int) (y3 : Int) (y4 : Bool) : Ann.clr f30a29 (f30e17 y0 y1 y2 y3 y4) = f30e10 y0 y1 y2 y3 := hide (by kernel_rfl)
theorem f30z27_f30e16 (y0 : Nat) (y1 : Nat) (y2 : Int) (y3 : Int) (y4 : Int) (y5 : Nat) (y6 : Option (Nat × Nat)) (y7 : Nat) (y8 : Option Nat) (y9 : Int) (y10 : Option (Nat × Nat)) (y11 : Option (Nat × Nat)) (y12 : Int) (y13 : Nat) (y14 : Option (Nat × Nat)) (y15 : Nat) (y16 : Option Nat) (y17 : Int) (y18 : Option (Nat × Nat)) (y19 : Option (Nat × Nat)) (y20 : Int) (y21 : Bool) (y22 : Bool) (y23 : Nat) (y24 : Option (Nat × Nat)) (y25 : Nat) (y26 : Option Nat) (y27 : Int) (y28 : Option (Nat × Nat)) (y29 : Option (Nat × Nat)) (y30 : ByteArray) (y31 : Nat) (y32 : Option (Nat × Nat)) (y33 : Nat) (y34 : Option Nat) (y35 : Int) (y36 : Option (Nat × Nat)) (y37 : Option (Nat × Nat)) (y38 : ByteArray) (y39 : Bool) (y40 : Bool) : Ann.clr f30a27 (f30e16 y0 y1 y2 y3 y4 y5 y6 y7 y8 y9 y10 y11 y12 y13 y14 y15 y16 y17 y18 y19 y20 y21 y22 y23 y24 y25 y26 y27 y28 y29 y30 y31 y32 y33 y34 y35 y36 y37
  y38 y39 y40) = f30e17 y0 y1 y3 y4 y40 := hide (by kernel_rfl)
theorem f30z23_f30e10 (y0 : Nat) (y1 : Nat) (y2 : Int) (y3 : Int) : Ann.clr f30a23 (f30e10 y0 y1 y2 y3) = f30e10 y0 y1 y2 y3 := hide (by kernel_rfl)
theorem f30z20_f30e10 (y0 : Nat) (y1 : Nat) (y2 : Int) (y3 : Int) : Ann.clr f30a20 (f30e10 y0 y1 y2 y3) = f30e10 y0 y1 y2 y3 := hide (by kernel_rfl)
theorem f30r24_f30e10 {R : Type} (call : CallF R) (N : Nat) (y0 : Nat) (y1 : Nat) (y2 : Int) (y3 : Int) (J : KF R) (σ : St) :
    runK Try.prog call N f30c24 f30a24 J (f30e10 y0 y1 y2 y3) σ =
J Ex.normal (f30e19 y0 y1 y2 (IntKind.wrap IntKind.i64 (y3 + (1 : Int))) (IntKind.wrap IntKind.i64 (y3 + (1 : Int)))) σ := hide (by kernel_rfl)
theorem f30z15_f30e19 (y0 : Nat) (y1 : Nat) (y2 : Int) (y3 : Int) (y4 : Int) : Ann.clr f30a15 (f30e19 y0 y1 y2 y3 y4) = f30e10 y0 y1 y2 y3 := hide (by kernel_rfl)
theorem f30z14_f30e12 : Ann.clr f30a14 (f30e12) = f30e12 := hide (by kernel_rfl)
theorem f30z4_f30e12 : Ann.clr f30a4 (f30e12) = f30e12 := hide (by kernel_rfl)
theorem f30n12 {R : Type} (call : CallF R) (N : Nat) (J : KF R) (e : Env) (σ : St) : runK Try.prog call N f30c12 f30a12 J e σ = runK Try.prog call N f30c34 f30a34 (seqC (fun K e σ => runK Try.prog call N f30c35 f30a35 K e σ) f30a12 J) e σ := runK_seq' (by kernel_rfl) (by kernel_rfl) (by kernel_rfl)
theorem f30r34_f30e12 {R : Type} (call : CallF R) (N : Nat) (J : KF R) (σ : St) :
    runK Try.prog call N f30c34 f30a34 J (f30e12) σ =
J Ex.normal (f30e8 true) σ := hide (by kernel_rfl)
theorem f30z12_f30e8 (y0 : Bool) : Ann.clr f30a12 (f30e8 y0) = f30e8 y0 := hide (by kernel_rfl)
theorem f30y35_f30e8 {R : Type} (call : CallF R) (N : Nat) (y0 : Bool) (J : KF R) (σ : St) : runK Try.prog call N f30c35 f30a35 J (f30e8 y0) σ = J .ret (f30e8 y0) σ := runK_ret' (by kernel_rfl) (by kernel_rfl)
theorem f30b_f30e8_r {R : Type} (y0 : Bool) (σ : St) (K : AV → St → Option R) : bodyC Try.prog f30rs K (Ex.ret) (f30e8 y0) σ =
K (AV.bool y0) σ := hide (by kernel_rfl)
attribute [go_sem] f30_eq f30n0 f30r1_f30e0 f30z0_f30e1 f30n2 f30n3 f30r5_f30e2 f30z3_f30e3 f30x6_f30e6 f30n7 f30r9_f30e6 f30z7_f30e7 f30y10_f30e8 f30n8 f30z6_f30e6 f30z3_f30e4 f30z3_f30e5 f30z2_f30e2 f30n4 f30n11 f30r13_f30e2 f30z11_f30e9 f30n14 f30L15_eq f30z15_f30e10 f30l15_f30e10 f30n16 f30r17_f30e10 f30z16_f30e11 f30n18 f30x19_f30e11 f30n21 f30z19_f30e11 f30y22_f30e11 f30z18_f30e10 f30n20 f30n23 f30n25 f30r26_f30e10 f30z25_f30e13 f30n27 f30r28_f30e14 f30z27_f30e15 f30x29_f30e17 f30n30 f30r32_f30e17 f30z30_f30e18 f30y33_f30e8 f30n31 f30z29_f30e17 f30z27_f30e16 f30z23_f30e10 f30z20_f30e10 f30r24_f30e10 f30z15_f30e19 f30z14_f30e12 f30z4_f30e12 f30n12 f30r34_f30e12 f30z12_f30e8 f30y35_f30e8 f30b_f30e8_r

end Go.Proofs.Ytmgacgonoodkfaa
