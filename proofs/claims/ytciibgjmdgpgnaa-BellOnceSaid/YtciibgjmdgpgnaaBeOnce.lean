/- What the machine does with each piece of code, in plain text. PRINTED by a program of this workplace; Lean checks it. -/
import Derived.Test.YtciibgjmdgpgnaaBeAnn
import Derived.Test.YtciibgjmdgpgnaaProg
import Derived.KernelRfl
import Derived.Attr
namespace Go.Proofs.Ytciibgjmdgpgnaa
open Go.AM
set_option maxRecDepth 100000
set_option linter.unusedVariables false
noncomputable def f4rs : List ResultVar := [ResultVar.tmp (2 : Nat)]
noncomputable def f4c0 : Code := subCode [] (bodyOf Try.prog 4)
def f4a0 : Ann := subAnn [] ann4
noncomputable def f4c1 : Code := subCode [0] (bodyOf Try.prog 4)
def f4a1 : Ann := subAnn [0] ann4
noncomputable def f4c2 : Code := subCode [1] (bodyOf Try.prog 4)
def f4a2 : Ann := subAnn [1] ann4
noncomputable def f4c3 : Code := subCode [1, 0] (bodyOf Try.prog 4)
def f4a3 : Ann := subAnn [1, 0] ann4
noncomputable def f4c4 : Code := subCode [1, 1] (bodyOf Try.prog 4)
def f4a4 : Ann := subAnn [1, 1] ann4
noncomputable def f4c5 : Code := subCode [1, 1, 0] (bodyOf Try.prog 4)
def f4a5 : Ann := subAnn [1, 1, 0] ann4
noncomputable def f4c6 : Code := subCode [1, 1, 1] (bodyOf Try.prog 4)
def f4a6 : Ann := subAnn [1, 1, 1] ann4
noncomputable def f4c7 : Code := subCode [1, 1, 0, 0] (bodyOf Try.prog 4)
def f4a7 : Ann := subAnn [1, 1, 0, 0] ann4
noncomputable def f4c8 : Code := subCode [1, 1, 0, 1] (bodyOf Try.prog 4)
def f4a8 : Ann := subAnn [1, 1, 0, 1] ann4
noncomputable def f4c9 : Code := subCode [1, 1, 0, 1, 0] (bodyOf Try.prog 4)
def f4a9 : Ann := subAnn [1, 1, 0, 1, 0] ann4
noncomputable def f4c10 : Code := subCode [1, 1, 0, 1, 1] (bodyOf Try.prog 4)
def f4a10 : Ann := subAnn [1, 1, 0, 1, 1] ann4
noncomputable def f4c11 : Code := subCode [1, 1, 0, 1, 0, 0] (bodyOf Try.prog 4)
def f4a11 : Ann := subAnn [1, 1, 0, 1, 0, 0] ann4
noncomputable def f4c12 : Code := subCode [1, 1, 0, 1, 0, 1] (bodyOf Try.prog 4)
def f4a12 : Ann := subAnn [1, 1, 0, 1, 0, 1] ann4
noncomputable def f4c13 : Code := subCode [1, 1, 1, 0] (bodyOf Try.prog 4)
def f4a13 : Ann := subAnn [1, 1, 1, 0] ann4
noncomputable def f4c14 : Code := subCode [1, 1, 1, 1] (bodyOf Try.prog 4)
def f4a14 : Ann := subAnn [1, 1, 1, 1] ann4
noncomputable def f4c15 : Code := subCode [1, 1, 1, 1, 0] (bodyOf Try.prog 4)
def f4a15 : Ann := subAnn [1, 1, 1, 1, 0] ann4
noncomputable def f4c16 : Code := subCode [1, 1, 1, 1, 1] (bodyOf Try.prog 4)
def f4a16 : Ann := subAnn [1, 1, 1, 1, 1] ann4
noncomputable def f4c17 : Code := subCode [1, 1, 1, 1, 0, 0] (bodyOf Try.prog 4)
def f4a17 : Ann := subAnn [1, 1, 1, 1, 0, 0] ann4
noncomputable def f4c18 : Code := subCode [1, 1, 1, 1, 0, 1] (bodyOf Try.prog 4)
def f4a18 : Ann := subAnn [1, 1, 1, 1, 0, 1] ann4
noncomputable def f4c19 : Code := subCode [1, 1, 1, 1, 0, 1, 0] (bodyOf Try.prog 4)
def f4a19 : Ann := subAnn [1, 1, 1, 1, 0, 1, 0] ann4
noncomputable def f4c20 : Code := subCode [1, 1, 1, 1, 0, 1, 0, 0] (bodyOf Try.prog 4)
def f4a20 : Ann := subAnn [1, 1, 1, 1, 0, 1, 0, 0] ann4
noncomputable def f4c21 : Code := subCode [1, 1, 1, 1, 0, 1, 0, 0, 0] (bodyOf Try.prog 4)
def f4a21 : Ann := subAnn [1, 1, 1, 1, 0, 1, 0, 0, 0] ann4
noncomputable def f4c22 : Code := subCode [1, 1, 1, 1, 0, 1, 0, 0, 1] (bodyOf Try.prog 4)
def f4a22 : Ann := subAnn [1, 1, 1, 1, 0, 1, 0, 0, 1] ann4
noncomputable def f4c23 : Code := subCode [1, 1, 1, 1, 0, 1, 0, 0, 1, 0] (bodyOf Try.prog 4)
def f4a23 : Ann := subAnn [1, 1, 1, 1, 0, 1, 0, 0, 1, 0] ann4
noncomputable def f4c24 : Code := subCode [1, 1, 1, 1, 0, 1, 0, 0, 1, 1] (bodyOf Try.prog 4)
def f4a24 : Ann := subAnn [1, 1, 1, 1, 0, 1, 0, 0, 1, 1] ann4
noncomputable def f4c25 : Code := subCode [1, 1, 1, 1, 0, 1, 0, 0, 1, 0, 0] (bodyOf Try.prog 4)
def f4a25 : Ann := subAnn [1, 1, 1, 1, 0, 1, 0, 0, 1, 0, 0] ann4
noncomputable def f4c26 : Code := subCode [1, 1, 1, 1, 0, 1, 0, 0, 1, 0, 1] (bodyOf Try.prog 4)
def f4a26 : Ann := subAnn [1, 1, 1, 1, 0, 1, 0, 0, 1, 0, 1] ann4
noncomputable def f4c27 : Code := subCode [1, 1, 1, 1, 0, 1, 0, 0, 1, 1, 0] (bodyOf Try.prog 4)
def f4a27 : Ann := subAnn [1, 1, 1, 1, 0, 1, 0, 0, 1, 1, 0] ann4
noncomputable def f4c28 : Code := subCode [1, 1, 1, 1, 0, 1, 0, 0, 1, 1, 1] (bodyOf Try.prog 4)
def f4a28 : Ann := subAnn [1, 1, 1, 1, 0, 1, 0, 0, 1, 1, 1] ann4
noncomputable def f4c29 : Code := subCode [1, 1, 1, 1, 0, 1, 0, 0, 1, 1, 0, 0] (bodyOf Try.prog 4)
def f4a29 : Ann := subAnn [1, 1, 1, 1, 0, 1, 0, 0, 1, 1, 0, 0] ann4
noncomputable def f4c30 : Code := subCode [1, 1, 1, 1, 0, 1, 0, 0, 1, 1, 0, 0, 0] (bodyOf Try.prog 4)
def f4a30 : Ann := subAnn [1, 1, 1, 1, 0, 1, 0, 0, 1, 1, 0, 0, 0] ann4
noncomputable def f4c31 : Code := subCode [1, 1, 1, 1, 0, 1, 0, 0, 1, 1, 0, 0, 1] (bodyOf Try.prog 4)
def f4a31 : Ann := subAnn [1, 1, 1, 1, 0, 1, 0, 0, 1, 1, 0, 0, 1] ann4
noncomputable def f4c32 : Code := subCode [1, 1, 1, 1, 0, 1, 0, 0, 1, 1, 0, 0, 1, 0] (bodyOf Try.prog 4)
def f4a32 : Ann := subAnn [1, 1, 1, 1, 0, 1, 0, 0, 1, 1, 0, 0, 1, 0] ann4
noncomputable def f4c33 : Code := subCode [1, 1, 1, 1, 0, 1, 0, 0, 1, 1, 0, 0, 1, 1] (bodyOf Try.prog 4)
def f4a33 : Ann := subAnn [1, 1, 1, 1, 0, 1, 0, 0, 1, 1, 0, 0, 1, 1] ann4
noncomputable def f4c34 : Code := subCode [1, 1, 1, 1, 0, 1, 0, 0, 1, 1, 0, 0, 1, 0, 0] (bodyOf Try.prog 4)
def f4a34 : Ann := subAnn [1, 1, 1, 1, 0, 1, 0, 0, 1, 1, 0, 0, 1, 0, 0] ann4
noncomputable def f4c35 : Code := subCode [1, 1, 1, 1, 0, 1, 0, 0, 1, 1, 0, 0, 1, 0, 1] (bodyOf Try.prog 4)
def f4a35 : Ann := subAnn [1, 1, 1, 1, 0, 1, 0, 0, 1, 1, 0, 0, 1, 0, 1] ann4
noncomputable def f4c36 : Code := subCode [1, 1, 1, 1, 0, 1, 0, 0, 1, 1, 0, 0, 1, 0, 1, 0] (bodyOf Try.prog 4)
def f4a36 : Ann := subAnn [1, 1, 1, 1, 0, 1, 0, 0, 1, 1, 0, 0, 1, 0, 1, 0] ann4
noncomputable def f4c37 : Code := subCode [1, 1, 1, 1, 0, 1, 0, 0, 1, 1, 0, 0, 1, 0, 1, 1] (bodyOf Try.prog 4)
def f4a37 : Ann := subAnn [1, 1, 1, 1, 0, 1, 0, 0, 1, 1, 0, 0, 1, 0, 1, 1] ann4
noncomputable def f4c38 : Code := subCode [1, 1, 1, 1, 0, 1, 0, 0, 1, 1, 0, 0, 1, 1, 0] (bodyOf Try.prog 4)
def f4a38 : Ann := subAnn [1, 1, 1, 1, 0, 1, 0, 0, 1, 1, 0, 0, 1, 1, 0] ann4
noncomputable def f4c39 : Code := subCode [1, 1, 1, 1, 0, 1, 0, 0, 1, 1, 0, 0, 1, 1, 1] (bodyOf Try.prog 4)
def f4a39 : Ann := subAnn [1, 1, 1, 1, 0, 1, 0, 0, 1, 1, 0, 0, 1, 1, 1] ann4
noncomputable def f4c40 : Code := subCode [1, 1, 1, 1, 0, 1, 0, 0, 1, 1, 0, 0, 1, 1, 1, 0] (bodyOf Try.prog 4)
def f4a40 : Ann := subAnn [1, 1, 1, 1, 0, 1, 0, 0, 1, 1, 0, 0, 1, 1, 1, 0] ann4
noncomputable def f4c41 : Code := subCode [1, 1, 1, 1, 0, 1, 0, 0, 1, 1, 0, 0, 1, 1, 1, 0, 0] (bodyOf Try.prog 4)
def f4a41 : Ann := subAnn [1, 1, 1, 1, 0, 1, 0, 0, 1, 1, 0, 0, 1, 1, 1, 0, 0] ann4
noncomputable def f4c42 : Code := subCode [1, 1, 1, 1, 0, 1, 0, 0, 1, 1, 0, 0, 1, 1, 1, 0, 1] (bodyOf Try.prog 4)
def f4a42 : Ann := subAnn [1, 1, 1, 1, 0, 1, 0, 0, 1, 1, 0, 0, 1, 1, 1, 0, 1] ann4
noncomputable def f4c43 : Code := subCode [1, 1, 1, 1, 0, 1, 0, 0, 1, 1, 0, 0, 1, 1, 1, 0, 0, 0] (bodyOf Try.prog 4)
def f4a43 : Ann := subAnn [1, 1, 1, 1, 0, 1, 0, 0, 1, 1, 0, 0, 1, 1, 1, 0, 0, 0] ann4
noncomputable def f4c44 : Code := subCode [1, 1, 1, 1, 0, 1, 0, 0, 1, 1, 0, 0, 1, 1, 1, 0, 0, 1] (bodyOf Try.prog 4)
def f4a44 : Ann := subAnn [1, 1, 1, 1, 0, 1, 0, 0, 1, 1, 0, 0, 1, 1, 1, 0, 0, 1] ann4
noncomputable def f4c45 : Code := subCode [1, 1, 1, 1, 0, 1, 0, 0, 1, 1, 0, 0, 1, 1, 1, 0, 0, 1, 0] (bodyOf Try.prog 4)
def f4a45 : Ann := subAnn [1, 1, 1, 1, 0, 1, 0, 0, 1, 1, 0, 0, 1, 1, 1, 0, 0, 1, 0] ann4
noncomputable def f4c46 : Code := subCode [1, 1, 1, 1, 0, 1, 0, 0, 1, 1, 0, 0, 1, 1, 1, 0, 0, 1, 1] (bodyOf Try.prog 4)
def f4a46 : Ann := subAnn [1, 1, 1, 1, 0, 1, 0, 0, 1, 1, 0, 0, 1, 1, 1, 0, 0, 1, 1] ann4
noncomputable def f4c47 : Code := subCode [1, 1, 1, 1, 0, 1, 0, 0, 1, 1, 0, 0, 1, 1, 1, 0, 1, 0] (bodyOf Try.prog 4)
def f4a47 : Ann := subAnn [1, 1, 1, 1, 0, 1, 0, 0, 1, 1, 0, 0, 1, 1, 1, 0, 1, 0] ann4
noncomputable def f4c48 : Code := subCode [1, 1, 1, 1, 0, 1, 0, 0, 1, 1, 0, 0, 1, 1, 1, 0, 1, 1] (bodyOf Try.prog 4)
def f4a48 : Ann := subAnn [1, 1, 1, 1, 0, 1, 0, 0, 1, 1, 0, 0, 1, 1, 1, 0, 1, 1] ann4
noncomputable def f4c49 : Code := subCode [1, 1, 1, 1, 0, 1, 0, 0, 1, 1, 0, 0, 1, 1, 1, 0, 1, 0, 0] (bodyOf Try.prog 4)
def f4a49 : Ann := subAnn [1, 1, 1, 1, 0, 1, 0, 0, 1, 1, 0, 0, 1, 1, 1, 0, 1, 0, 0] ann4
noncomputable def f4c50 : Code := subCode [1, 1, 1, 1, 0, 1, 0, 0, 1, 1, 0, 0, 1, 1, 1, 0, 1, 0, 1] (bodyOf Try.prog 4)
def f4a50 : Ann := subAnn [1, 1, 1, 1, 0, 1, 0, 0, 1, 1, 0, 0, 1, 1, 1, 0, 1, 0, 1] ann4
noncomputable def f4c51 : Code := subCode [1, 1, 1, 1, 0, 1, 0, 0, 1, 1, 0, 0, 1, 1, 1, 0, 1, 0, 1, 0] (bodyOf Try.prog 4)
def f4a51 : Ann := subAnn [1, 1, 1, 1, 0, 1, 0, 0, 1, 1, 0, 0, 1, 1, 1, 0, 1, 0, 1, 0] ann4
noncomputable def f4c52 : Code := subCode [1, 1, 1, 1, 0, 1, 0, 0, 1, 1, 0, 0, 1, 1, 1, 0, 1, 0, 1, 1] (bodyOf Try.prog 4)
def f4a52 : Ann := subAnn [1, 1, 1, 1, 0, 1, 0, 0, 1, 1, 0, 0, 1, 1, 1, 0, 1, 0, 1, 1] ann4
noncomputable def f4c53 : Code := subCode [1, 1, 1, 1, 0, 1, 0, 0, 1, 1, 0, 0, 1, 1, 1, 0, 1, 1, 0] (bodyOf Try.prog 4)
def f4a53 : Ann := subAnn [1, 1, 1, 1, 0, 1, 0, 0, 1, 1, 0, 0, 1, 1, 1, 0, 1, 1, 0] ann4
noncomputable def f4c54 : Code := subCode [1, 1, 1, 1, 0, 1, 0, 0, 1, 1, 0, 0, 1, 1, 1, 0, 1, 1, 1] (bodyOf Try.prog 4)
def f4a54 : Ann := subAnn [1, 1, 1, 1, 0, 1, 0, 0, 1, 1, 0, 0, 1, 1, 1, 0, 1, 1, 1] ann4
noncomputable def f4c55 : Code := subCode [1, 1, 1, 1, 0, 1, 0, 0, 1, 1, 0, 0, 1, 1, 1, 0, 1, 1, 1, 0] (bodyOf Try.prog 4)
def f4a55 : Ann := subAnn [1, 1, 1, 1, 0, 1, 0, 0, 1, 1, 0, 0, 1, 1, 1, 0, 1, 1, 1, 0] ann4
noncomputable def f4c56 : Code := subCode [1, 1, 1, 1, 0, 1, 0, 0, 1, 1, 0, 0, 1, 1, 1, 0, 1, 1, 1, 1] (bodyOf Try.prog 4)
def f4a56 : Ann := subAnn [1, 1, 1, 1, 0, 1, 0, 0, 1, 1, 0, 0, 1, 1, 1, 0, 1, 1, 1, 1] ann4
noncomputable def f4c57 : Code := subCode [1, 1, 1, 1, 0, 1, 0, 0, 1, 1, 0, 0, 1, 1, 1, 0, 1, 1, 1, 0, 0] (bodyOf Try.prog 4)
def f4a57 : Ann := subAnn [1, 1, 1, 1, 0, 1, 0, 0, 1, 1, 0, 0, 1, 1, 1, 0, 1, 1, 1, 0, 0] ann4
noncomputable def f4c58 : Code := subCode [1, 1, 1, 1, 0, 1, 0, 0, 1, 1, 0, 0, 1, 1, 1, 0, 1, 1, 1, 0, 1] (bodyOf Try.prog 4)
def f4a58 : Ann := subAnn [1, 1, 1, 1, 0, 1, 0, 0, 1, 1, 0, 0, 1, 1, 1, 0, 1, 1, 1, 0, 1] ann4
noncomputable def f4c59 : Code := subCode [1, 1, 1, 1, 0, 1, 0, 0, 1, 1, 0, 0, 1, 1, 1, 0, 1, 1, 1, 1, 0] (bodyOf Try.prog 4)
def f4a59 : Ann := subAnn [1, 1, 1, 1, 0, 1, 0, 0, 1, 1, 0, 0, 1, 1, 1, 0, 1, 1, 1, 1, 0] ann4
noncomputable def f4c60 : Code := subCode [1, 1, 1, 1, 0, 1, 0, 0, 1, 1, 0, 0, 1, 1, 1, 0, 1, 1, 1, 1, 1] (bodyOf Try.prog 4)
def f4a60 : Ann := subAnn [1, 1, 1, 1, 0, 1, 0, 0, 1, 1, 0, 0, 1, 1, 1, 0, 1, 1, 1, 1, 1] ann4
noncomputable def f4c61 : Code := subCode [1, 1, 1, 1, 0, 1, 0, 0, 1, 1, 0, 0, 1, 1, 1, 0, 1, 1, 1, 1, 1, 0] (bodyOf Try.prog 4)
def f4a61 : Ann := subAnn [1, 1, 1, 1, 0, 1, 0, 0, 1, 1, 0, 0, 1, 1, 1, 0, 1, 1, 1, 1, 1, 0] ann4
noncomputable def f4c62 : Code := subCode [1, 1, 1, 1, 0, 1, 0, 0, 1, 1, 0, 0, 1, 1, 1, 0, 1, 1, 1, 1, 1, 1] (bodyOf Try.prog 4)
def f4a62 : Ann := subAnn [1, 1, 1, 1, 0, 1, 0, 0, 1, 1, 0, 0, 1, 1, 1, 0, 1, 1, 1, 1, 1, 1] ann4
noncomputable def f4c63 : Code := subCode [1, 1, 1, 1, 0, 1, 0, 0, 1, 1, 0, 0, 1, 1, 1, 0, 1, 1, 1, 1, 1, 0, 0] (bodyOf Try.prog 4)
def f4a63 : Ann := subAnn [1, 1, 1, 1, 0, 1, 0, 0, 1, 1, 0, 0, 1, 1, 1, 0, 1, 1, 1, 1, 1, 0, 0] ann4
noncomputable def f4c64 : Code := subCode [1, 1, 1, 1, 0, 1, 0, 0, 1, 1, 0, 0, 1, 1, 1, 0, 1, 1, 1, 1, 1, 0, 1] (bodyOf Try.prog 4)
def f4a64 : Ann := subAnn [1, 1, 1, 1, 0, 1, 0, 0, 1, 1, 0, 0, 1, 1, 1, 0, 1, 1, 1, 1, 1, 0, 1] ann4
noncomputable def f4c65 : Code := subCode [1, 1, 1, 1, 0, 1, 0, 0, 1, 1, 0, 0, 1, 1, 1, 0, 1, 1, 1, 1, 1, 0, 1, 0] (bodyOf Try.prog 4)
def f4a65 : Ann := subAnn [1, 1, 1, 1, 0, 1, 0, 0, 1, 1, 0, 0, 1, 1, 1, 0, 1, 1, 1, 1, 1, 0, 1, 0] ann4
noncomputable def f4c66 : Code := subCode [1, 1, 1, 1, 0, 1, 0, 0, 1, 1, 0, 0, 1, 1, 1, 0, 1, 1, 1, 1, 1, 0, 1, 1] (bodyOf Try.prog 4)
def f4a66 : Ann := subAnn [1, 1, 1, 1, 0, 1, 0, 0, 1, 1, 0, 0, 1, 1, 1, 0, 1, 1, 1, 1, 1, 0, 1, 1] ann4
noncomputable def f4c67 : Code := subCode [1, 1, 1, 1, 0, 1, 0, 0, 1, 1, 0, 0, 1, 1, 1, 0, 1, 1, 1, 1, 1, 0, 1, 0, 0] (bodyOf Try.prog 4)
def f4a67 : Ann := subAnn [1, 1, 1, 1, 0, 1, 0, 0, 1, 1, 0, 0, 1, 1, 1, 0, 1, 1, 1, 1, 1, 0, 1, 0, 0] ann4
noncomputable def f4c68 : Code := subCode [1, 1, 1, 1, 0, 1, 0, 0, 1, 1, 0, 0, 1, 1, 1, 0, 1, 1, 1, 1, 1, 0, 1, 0, 1] (bodyOf Try.prog 4)
def f4a68 : Ann := subAnn [1, 1, 1, 1, 0, 1, 0, 0, 1, 1, 0, 0, 1, 1, 1, 0, 1, 1, 1, 1, 1, 0, 1, 0, 1] ann4
noncomputable def f4c69 : Code := subCode [1, 1, 1, 1, 0, 1, 0, 0, 1, 1, 0, 0, 1, 1, 1, 0, 1, 1, 1, 1, 1, 0, 1, 0, 1, 0] (bodyOf Try.prog 4)
def f4a69 : Ann := subAnn [1, 1, 1, 1, 0, 1, 0, 0, 1, 1, 0, 0, 1, 1, 1, 0, 1, 1, 1, 1, 1, 0, 1, 0, 1, 0] ann4
noncomputable def f4c70 : Code := subCode [1, 1, 1, 1, 0, 1, 0, 0, 1, 1, 0, 0, 1, 1, 1, 0, 1, 1, 1, 1, 1, 0, 1, 0, 1, 1] (bodyOf Try.prog 4)
def f4a70 : Ann := subAnn [1, 1, 1, 1, 0, 1, 0, 0, 1, 1, 0, 0, 1, 1, 1, 0, 1, 1, 1, 1, 1, 0, 1, 0, 1, 1] ann4
noncomputable def f4c71 : Code := subCode [1, 1, 1, 1, 0, 1, 0, 0, 1, 1, 0, 0, 1, 1, 1, 0, 1, 1, 1, 1, 1, 0, 1, 0, 1, 0, 0] (bodyOf Try.prog 4)
def f4a71 : Ann := subAnn [1, 1, 1, 1, 0, 1, 0, 0, 1, 1, 0, 0, 1, 1, 1, 0, 1, 1, 1, 1, 1, 0, 1, 0, 1, 0, 0] ann4
noncomputable def f4c72 : Code := subCode [1, 1, 1, 1, 0, 1, 0, 0, 1, 1, 0, 0, 1, 1, 1, 0, 1, 1, 1, 1, 1, 0, 1, 0, 1, 0, 1] (bodyOf Try.prog 4)
def f4a72 : Ann := subAnn [1, 1, 1, 1, 0, 1, 0, 0, 1, 1, 0, 0, 1, 1, 1, 0, 1, 1, 1, 1, 1, 0, 1, 0, 1, 0, 1] ann4
noncomputable def f4c73 : Code := subCode [1, 1, 1, 1, 0, 1, 0, 0, 1, 1, 0, 0, 1, 1, 1, 0, 1, 1, 1, 1, 1, 0, 1, 1, 0] (bodyOf Try.prog 4)
def f4a73 : Ann := subAnn [1, 1, 1, 1, 0, 1, 0, 0, 1, 1, 0, 0, 1, 1, 1, 0, 1, 1, 1, 1, 1, 0, 1, 1, 0] ann4
noncomputable def f4c74 : Code := subCode [1, 1, 1, 1, 0, 1, 0, 0, 1, 1, 0, 0, 1, 1, 1, 0, 1, 1, 1, 1, 1, 0, 1, 1, 1] (bodyOf Try.prog 4)
def f4a74 : Ann := subAnn [1, 1, 1, 1, 0, 1, 0, 0, 1, 1, 0, 0, 1, 1, 1, 0, 1, 1, 1, 1, 1, 0, 1, 1, 1] ann4
noncomputable def f4c75 : Code := subCode [1, 1, 1, 1, 0, 1, 0, 0, 1, 1, 0, 0, 1, 1, 1, 0, 1, 1, 1, 1, 1, 0, 1, 1, 1, 0] (bodyOf Try.prog 4)
def f4a75 : Ann := subAnn [1, 1, 1, 1, 0, 1, 0, 0, 1, 1, 0, 0, 1, 1, 1, 0, 1, 1, 1, 1, 1, 0, 1, 1, 1, 0] ann4
noncomputable def f4c76 : Code := subCode [1, 1, 1, 1, 0, 1, 0, 0, 1, 1, 0, 0, 1, 1, 1, 0, 1, 1, 1, 1, 1, 0, 1, 1, 1, 1] (bodyOf Try.prog 4)
def f4a76 : Ann := subAnn [1, 1, 1, 1, 0, 1, 0, 0, 1, 1, 0, 0, 1, 1, 1, 0, 1, 1, 1, 1, 1, 0, 1, 1, 1, 1] ann4
noncomputable def f4c77 : Code := subCode [1, 1, 1, 1, 0, 1, 0, 0, 1, 1, 0, 0, 1, 1, 1, 0, 1, 1, 1, 1, 1, 1, 0] (bodyOf Try.prog 4)
def f4a77 : Ann := subAnn [1, 1, 1, 1, 0, 1, 0, 0, 1, 1, 0, 0, 1, 1, 1, 0, 1, 1, 1, 1, 1, 1, 0] ann4
noncomputable def f4c78 : Code := subCode [1, 1, 1, 1, 0, 1, 0, 0, 1, 1, 0, 0, 1, 1, 1, 0, 1, 1, 1, 1, 1, 1, 1] (bodyOf Try.prog 4)
def f4a78 : Ann := subAnn [1, 1, 1, 1, 0, 1, 0, 0, 1, 1, 0, 0, 1, 1, 1, 0, 1, 1, 1, 1, 1, 1, 1] ann4
noncomputable def f4c79 : Code := subCode [1, 1, 1, 1, 0, 1, 0, 0, 1, 1, 0, 0, 1, 1, 1, 0, 1, 1, 1, 1, 1, 1, 1, 0] (bodyOf Try.prog 4)
def f4a79 : Ann := subAnn [1, 1, 1, 1, 0, 1, 0, 0, 1, 1, 0, 0, 1, 1, 1, 0, 1, 1, 1, 1, 1, 1, 1, 0] ann4
noncomputable def f4c80 : Code := subCode [1, 1, 1, 1, 0, 1, 0, 0, 1, 1, 0, 0, 1, 1, 1, 0, 1, 1, 1, 1, 1, 1, 1, 1] (bodyOf Try.prog 4)
def f4a80 : Ann := subAnn [1, 1, 1, 1, 0, 1, 0, 0, 1, 1, 0, 0, 1, 1, 1, 0, 1, 1, 1, 1, 1, 1, 1, 1] ann4
noncomputable def f4c81 : Code := subCode [1, 1, 1, 1, 0, 1, 0, 0, 1, 1, 0, 0, 1, 1, 1, 0, 1, 1, 1, 1, 1, 1, 1, 0, 0] (bodyOf Try.prog 4)
def f4a81 : Ann := subAnn [1, 1, 1, 1, 0, 1, 0, 0, 1, 1, 0, 0, 1, 1, 1, 0, 1, 1, 1, 1, 1, 1, 1, 0, 0] ann4
noncomputable def f4c82 : Code := subCode [1, 1, 1, 1, 0, 1, 0, 0, 1, 1, 0, 0, 1, 1, 1, 0, 1, 1, 1, 1, 1, 1, 1, 0, 1] (bodyOf Try.prog 4)
def f4a82 : Ann := subAnn [1, 1, 1, 1, 0, 1, 0, 0, 1, 1, 0, 0, 1, 1, 1, 0, 1, 1, 1, 1, 1, 1, 1, 0, 1] ann4
noncomputable def f4c83 : Code := subCode [1, 1, 1, 1, 0, 1, 0, 0, 1, 1, 0, 0, 1, 1, 1, 0, 1, 1, 1, 1, 1, 1, 1, 0, 1, 0] (bodyOf Try.prog 4)
def f4a83 : Ann := subAnn [1, 1, 1, 1, 0, 1, 0, 0, 1, 1, 0, 0, 1, 1, 1, 0, 1, 1, 1, 1, 1, 1, 1, 0, 1, 0] ann4
noncomputable def f4c84 : Code := subCode [1, 1, 1, 1, 0, 1, 0, 0, 1, 1, 0, 0, 1, 1, 1, 0, 1, 1, 1, 1, 1, 1, 1, 0, 1, 1] (bodyOf Try.prog 4)
def f4a84 : Ann := subAnn [1, 1, 1, 1, 0, 1, 0, 0, 1, 1, 0, 0, 1, 1, 1, 0, 1, 1, 1, 1, 1, 1, 1, 0, 1, 1] ann4
noncomputable def f4c85 : Code := subCode [1, 1, 1, 1, 0, 1, 0, 0, 1, 1, 0, 0, 1, 1, 1, 0, 1, 1, 1, 1, 1, 1, 1, 0, 1, 0, 0] (bodyOf Try.prog 4)
def f4a85 : Ann := subAnn [1, 1, 1, 1, 0, 1, 0, 0, 1, 1, 0, 0, 1, 1, 1, 0, 1, 1, 1, 1, 1, 1, 1, 0, 1, 0, 0] ann4
noncomputable def f4c86 : Code := subCode [1, 1, 1, 1, 0, 1, 0, 0, 1, 1, 0, 0, 1, 1, 1, 0, 1, 1, 1, 1, 1, 1, 1, 0, 1, 0, 1] (bodyOf Try.prog 4)
def f4a86 : Ann := subAnn [1, 1, 1, 1, 0, 1, 0, 0, 1, 1, 0, 0, 1, 1, 1, 0, 1, 1, 1, 1, 1, 1, 1, 0, 1, 0, 1] ann4
noncomputable def f4c87 : Code := subCode [1, 1, 1, 1, 0, 1, 0, 0, 1, 1, 0, 0, 1, 1, 1, 0, 1, 1, 1, 1, 1, 1, 1, 0, 1, 0, 1, 0] (bodyOf Try.prog 4)
def f4a87 : Ann := subAnn [1, 1, 1, 1, 0, 1, 0, 0, 1, 1, 0, 0, 1, 1, 1, 0, 1, 1, 1, 1, 1, 1, 1, 0, 1, 0, 1, 0] ann4
noncomputable def f4c88 : Code := subCode [1, 1, 1, 1, 0, 1, 0, 0, 1, 1, 0, 0, 1, 1, 1, 0, 1, 1, 1, 1, 1, 1, 1, 0, 1, 0, 1, 1] (bodyOf Try.prog 4)
def f4a88 : Ann := subAnn [1, 1, 1, 1, 0, 1, 0, 0, 1, 1, 0, 0, 1, 1, 1, 0, 1, 1, 1, 1, 1, 1, 1, 0, 1, 0, 1, 1] ann4
noncomputable def f4c89 : Code := subCode [1, 1, 1, 1, 0, 1, 0, 0, 1, 1, 0, 0, 1, 1, 1, 0, 1, 1, 1, 1, 1, 1, 1, 0, 1, 1, 0] (bodyOf Try.prog 4)
def f4a89 : Ann := subAnn [1, 1, 1, 1, 0, 1, 0, 0, 1, 1, 0, 0, 1, 1, 1, 0, 1, 1, 1, 1, 1, 1, 1, 0, 1, 1, 0] ann4
noncomputable def f4c90 : Code := subCode [1, 1, 1, 1, 0, 1, 0, 0, 1, 1, 0, 0, 1, 1, 1, 0, 1, 1, 1, 1, 1, 1, 1, 0, 1, 1, 1] (bodyOf Try.prog 4)
def f4a90 : Ann := subAnn [1, 1, 1, 1, 0, 1, 0, 0, 1, 1, 0, 0, 1, 1, 1, 0, 1, 1, 1, 1, 1, 1, 1, 0, 1, 1, 1] ann4
noncomputable def f4c91 : Code := subCode [1, 1, 1, 1, 0, 1, 0, 0, 1, 1, 0, 0, 1, 1, 1, 0, 1, 1, 1, 1, 1, 1, 1, 0, 1, 1, 0, 0] (bodyOf Try.prog 4)
def f4a91 : Ann := subAnn [1, 1, 1, 1, 0, 1, 0, 0, 1, 1, 0, 0, 1, 1, 1, 0, 1, 1, 1, 1, 1, 1, 1, 0, 1, 1, 0, 0] ann4
noncomputable def f4c92 : Code := subCode [1, 1, 1, 1, 0, 1, 0, 0, 1, 1, 0, 0, 1, 1, 1, 0, 1, 1, 1, 1, 1, 1, 1, 0, 1, 1, 0, 1] (bodyOf Try.prog 4)
def f4a92 : Ann := subAnn [1, 1, 1, 1, 0, 1, 0, 0, 1, 1, 0, 0, 1, 1, 1, 0, 1, 1, 1, 1, 1, 1, 1, 0, 1, 1, 0, 1] ann4
noncomputable def f4c93 : Code := subCode [1, 1, 1, 1, 0, 1, 0, 0, 1, 1, 0, 0, 1, 1, 1, 0, 1, 1, 1, 1, 1, 1, 1, 0, 1, 1, 0, 1, 0] (bodyOf Try.prog 4)
def f4a93 : Ann := subAnn [1, 1, 1, 1, 0, 1, 0, 0, 1, 1, 0, 0, 1, 1, 1, 0, 1, 1, 1, 1, 1, 1, 1, 0, 1, 1, 0, 1, 0] ann4
noncomputable def f4c94 : Code := subCode [1, 1, 1, 1, 0, 1, 0, 0, 1, 1, 0, 0, 1, 1, 1, 0, 1, 1, 1, 1, 1, 1, 1, 0, 1, 1, 0, 1, 0, 0] (bodyOf Try.prog 4)
def f4a94 : Ann := subAnn [1, 1, 1, 1, 0, 1, 0, 0, 1, 1, 0, 0, 1, 1, 1, 0, 1, 1, 1, 1, 1, 1, 1, 0, 1, 1, 0, 1, 0, 0] ann4
noncomputable def f4c95 : Code := subCode [1, 1, 1, 1, 0, 1, 0, 0, 1, 1, 0, 0, 1, 1, 1, 0, 1, 1, 1, 1, 1, 1, 1, 0, 1, 1, 0, 1, 0, 0, 0] (bodyOf Try.prog 4)
def f4a95 : Ann := subAnn [1, 1, 1, 1, 0, 1, 0, 0, 1, 1, 0, 0, 1, 1, 1, 0, 1, 1, 1, 1, 1, 1, 1, 0, 1, 1, 0, 1, 0, 0, 0] ann4
noncomputable def f4c96 : Code := subCode [1, 1, 1, 1, 0, 1, 0, 0, 1, 1, 0, 0, 1, 1, 1, 0, 1, 1, 1, 1, 1, 1, 1, 0, 1, 1, 0, 1, 0, 0, 1] (bodyOf Try.prog 4)
def f4a96 : Ann := subAnn [1, 1, 1, 1, 0, 1, 0, 0, 1, 1, 0, 0, 1, 1, 1, 0, 1, 1, 1, 1, 1, 1, 1, 0, 1, 1, 0, 1, 0, 0, 1] ann4
noncomputable def f4c97 : Code := subCode [1, 1, 1, 1, 0, 1, 0, 0, 1, 1, 0, 0, 1, 1, 1, 0, 1, 1, 1, 1, 1, 1, 1, 0, 1, 1, 0, 1, 0, 0, 1, 0] (bodyOf Try.prog 4)
def f4a97 : Ann := subAnn [1, 1, 1, 1, 0, 1, 0, 0, 1, 1, 0, 0, 1, 1, 1, 0, 1, 1, 1, 1, 1, 1, 1, 0, 1, 1, 0, 1, 0, 0, 1, 0] ann4
noncomputable def f4c98 : Code := subCode [1, 1, 1, 1, 0, 1, 0, 0, 1, 1, 0, 0, 1, 1, 1, 0, 1, 1, 1, 1, 1, 1, 1, 0, 1, 1, 0, 1, 0, 0, 1, 1] (bodyOf Try.prog 4)
def f4a98 : Ann := subAnn [1, 1, 1, 1, 0, 1, 0, 0, 1, 1, 0, 0, 1, 1, 1, 0, 1, 1, 1, 1, 1, 1, 1, 0, 1, 1, 0, 1, 0, 0, 1, 1] ann4
noncomputable def f4c99 : Code := subCode [1, 1, 1, 1, 0, 1, 0, 0, 1, 1, 0, 0, 1, 1, 1, 0, 1, 1, 1, 1, 1, 1, 1, 0, 1, 1, 0, 1, 0, 0, 1, 0, 0] (bodyOf Try.prog 4)
def f4a99 : Ann := subAnn [1, 1, 1, 1, 0, 1, 0, 0, 1, 1, 0, 0, 1, 1, 1, 0, 1, 1, 1, 1, 1, 1, 1, 0, 1, 1, 0, 1, 0, 0, 1, 0, 0] ann4
noncomputable def f4c100 : Code := subCode [1, 1, 1, 1, 0, 1, 0, 0, 1, 1, 0, 0, 1, 1, 1, 0, 1, 1, 1, 1, 1, 1, 1, 0, 1, 1, 0, 1, 0, 0, 1, 0, 1] (bodyOf Try.prog 4)
def f4a100 : Ann := subAnn [1, 1, 1, 1, 0, 1, 0, 0, 1, 1, 0, 0, 1, 1, 1, 0, 1, 1, 1, 1, 1, 1, 1, 0, 1, 1, 0, 1, 0, 0, 1, 0, 1] ann4
noncomputable def f4c101 : Code := subCode [1, 1, 1, 1, 0, 1, 0, 0, 1, 1, 0, 0, 1, 1, 1, 0, 1, 1, 1, 1, 1, 1, 1, 0, 1, 1, 0, 1, 0, 0, 1, 1, 0] (bodyOf Try.prog 4)
def f4a101 : Ann := subAnn [1, 1, 1, 1, 0, 1, 0, 0, 1, 1, 0, 0, 1, 1, 1, 0, 1, 1, 1, 1, 1, 1, 1, 0, 1, 1, 0, 1, 0, 0, 1, 1, 0] ann4
noncomputable def f4c102 : Code := subCode [1, 1, 1, 1, 0, 1, 0, 0, 1, 1, 0, 0, 1, 1, 1, 0, 1, 1, 1, 1, 1, 1, 1, 0, 1, 1, 0, 1, 0, 0, 1, 1, 1] (bodyOf Try.prog 4)
def f4a102 : Ann := subAnn [1, 1, 1, 1, 0, 1, 0, 0, 1, 1, 0, 0, 1, 1, 1, 0, 1, 1, 1, 1, 1, 1, 1, 0, 1, 1, 0, 1, 0, 0, 1, 1, 1] ann4
noncomputable def f4c103 : Code := subCode [1, 1, 1, 1, 0, 1, 0, 0, 1, 1, 0, 0, 1, 1, 1, 0, 1, 1, 1, 1, 1, 1, 1, 0, 1, 1, 0, 1, 0, 0, 1, 1, 0, 0] (bodyOf Try.prog 4)
def f4a103 : Ann := subAnn [1, 1, 1, 1, 0, 1, 0, 0, 1, 1, 0, 0, 1, 1, 1, 0, 1, 1, 1, 1, 1, 1, 1, 0, 1, 1, 0, 1, 0, 0, 1, 1, 0, 0] ann4
noncomputable def f4c104 : Code := subCode [1, 1, 1, 1, 0, 1, 0, 0, 1, 1, 0, 0, 1, 1, 1, 0, 1, 1, 1, 1, 1, 1, 1, 0, 1, 1, 0, 1, 0, 0, 1, 1, 0, 0, 0] (bodyOf Try.prog 4)
def f4a104 : Ann := subAnn [1, 1, 1, 1, 0, 1, 0, 0, 1, 1, 0, 0, 1, 1, 1, 0, 1, 1, 1, 1, 1, 1, 1, 0, 1, 1, 0, 1, 0, 0, 1, 1, 0, 0, 0] ann4
noncomputable def f4c105 : Code := subCode [1, 1, 1, 1, 0, 1, 0, 0, 1, 1, 0, 0, 1, 1, 1, 0, 1, 1, 1, 1, 1, 1, 1, 0, 1, 1, 0, 1, 0, 0, 1, 1, 0, 0, 1] (bodyOf Try.prog 4)
def f4a105 : Ann := subAnn [1, 1, 1, 1, 0, 1, 0, 0, 1, 1, 0, 0, 1, 1, 1, 0, 1, 1, 1, 1, 1, 1, 1, 0, 1, 1, 0, 1, 0, 0, 1, 1, 0, 0, 1] ann4
noncomputable def f4c106 : Code := subCode [1, 1, 1, 1, 0, 1, 0, 0, 1, 1, 0, 0, 1, 1, 1, 0, 1, 1, 1, 1, 1, 1, 1, 0, 1, 1, 0, 1, 0, 0, 1, 1, 0, 0, 1, 0] (bodyOf Try.prog 4)
def f4a106 : Ann := subAnn [1, 1, 1, 1, 0, 1, 0, 0, 1, 1, 0, 0, 1, 1, 1, 0, 1, 1, 1, 1, 1, 1, 1, 0, 1, 1, 0, 1, 0, 0, 1, 1, 0, 0, 1, 0] ann4
noncomputable def f4c107 : Code := subCode [1, 1, 1, 1, 0, 1, 0, 0, 1, 1, 0, 0, 1, 1, 1, 0, 1, 1, 1, 1, 1, 1, 1, 0, 1, 1, 0, 1, 0, 0, 1, 1, 0, 0, 1, 1] (bodyOf Try.prog 4)
def f4a107 : Ann := subAnn [1, 1, 1, 1, 0, 1, 0, 0, 1, 1, 0, 0, 1, 1, 1, 0, 1, 1, 1, 1, 1, 1, 1, 0, 1, 1, 0, 1, 0, 0, 1, 1, 0, 0, 1, 1] ann4
noncomputable def f4c108 : Code := subCode [1, 1, 1, 1, 0, 1, 0, 0, 1, 1, 0, 0, 1, 1, 1, 0, 1, 1, 1, 1, 1, 1, 1, 0, 1, 1, 0, 1, 0, 0, 1, 1, 0, 0, 1, 0, 0] (bodyOf Try.prog 4)
def f4a108 : Ann := subAnn [1, 1, 1, 1, 0, 1, 0, 0, 1, 1, 0, 0, 1, 1, 1, 0, 1, 1, 1, 1, 1, 1, 1, 0, 1, 1, 0, 1, 0, 0, 1, 1, 0, 0, 1, 0, 0] ann4
noncomputable def f4c109 : Code := subCode [1, 1, 1, 1, 0, 1, 0, 0, 1, 1, 0, 0, 1, 1, 1, 0, 1, 1, 1, 1, 1, 1, 1, 0, 1, 1, 0, 1, 0, 0, 1, 1, 0, 0, 1, 0, 1] (bodyOf Try.prog 4)
def f4a109 : Ann := subAnn [1, 1, 1, 1, 0, 1, 0, 0, 1, 1, 0, 0, 1, 1, 1, 0, 1, 1, 1, 1, 1, 1, 1, 0, 1, 1, 0, 1, 0, 0, 1, 1, 0, 0, 1, 0, 1] ann4
noncomputable def f4c110 : Code := subCode [1, 1, 1, 1, 0, 1, 0, 0, 1, 1, 0, 0, 1, 1, 1, 0, 1, 1, 1, 1, 1, 1, 1, 0, 1, 1, 0, 1, 0, 0, 1, 1, 0, 0, 1, 0, 1, 0] (bodyOf Try.prog 4)
def f4a110 : Ann := subAnn [1, 1, 1, 1, 0, 1, 0, 0, 1, 1, 0, 0, 1, 1, 1, 0, 1, 1, 1, 1, 1, 1, 1, 0, 1, 1, 0, 1, 0, 0, 1, 1, 0, 0, 1, 0, 1, 0] ann4
noncomputable def f4c111 : Code := subCode [1, 1, 1, 1, 0, 1, 0, 0, 1, 1, 0, 0, 1, 1, 1, 0, 1, 1, 1, 1, 1, 1, 1, 0, 1, 1, 0, 1, 0, 0, 1, 1, 0, 0, 1, 0, 1, 1] (bodyOf Try.prog 4)
def f4a111 : Ann := subAnn [1, 1, 1, 1, 0, 1, 0, 0, 1, 1, 0, 0, 1, 1, 1, 0, 1, 1, 1, 1, 1, 1, 1, 0, 1, 1, 0, 1, 0, 0, 1, 1, 0, 0, 1, 0, 1, 1] ann4
noncomputable def f4c112 : Code := subCode [1, 1, 1, 1, 0, 1, 0, 0, 1, 1, 0, 0, 1, 1, 1, 0, 1, 1, 1, 1, 1, 1, 1, 0, 1, 1, 0, 1, 0, 0, 1, 1, 0, 0, 1, 0, 1, 0, 0] (bodyOf Try.prog 4)
def f4a112 : Ann := subAnn [1, 1, 1, 1, 0, 1, 0, 0, 1, 1, 0, 0, 1, 1, 1, 0, 1, 1, 1, 1, 1, 1, 1, 0, 1, 1, 0, 1, 0, 0, 1, 1, 0, 0, 1, 0, 1, 0, 0] ann4
noncomputable def f4c113 : Code := subCode [1, 1, 1, 1, 0, 1, 0, 0, 1, 1, 0, 0, 1, 1, 1, 0, 1, 1, 1, 1, 1, 1, 1, 0, 1, 1, 0, 1, 0, 0, 1, 1, 0, 0, 1, 0, 1, 0, 1] (bodyOf Try.prog 4)
def f4a113 : Ann := subAnn [1, 1, 1, 1, 0, 1, 0, 0, 1, 1, 0, 0, 1, 1, 1, 0, 1, 1, 1, 1, 1, 1, 1, 0, 1, 1, 0, 1, 0, 0, 1, 1, 0, 0, 1, 0, 1, 0, 1] ann4
noncomputable def f4c114 : Code := subCode [1, 1, 1, 1, 0, 1, 0, 0, 1, 1, 0, 0, 1, 1, 1, 0, 1, 1, 1, 1, 1, 1, 1, 0, 1, 1, 1, 0] (bodyOf Try.prog 4)
def f4a114 : Ann := subAnn [1, 1, 1, 1, 0, 1, 0, 0, 1, 1, 0, 0, 1, 1, 1, 0, 1, 1, 1, 1, 1, 1, 1, 0, 1, 1, 1, 0] ann4
noncomputable def f4c115 : Code := subCode [1, 1, 1, 1, 0, 1, 0, 0, 1, 1, 0, 0, 1, 1, 1, 0, 1, 1, 1, 1, 1, 1, 1, 0, 1, 1, 1, 1] (bodyOf Try.prog 4)
def f4a115 : Ann := subAnn [1, 1, 1, 1, 0, 1, 0, 0, 1, 1, 0, 0, 1, 1, 1, 0, 1, 1, 1, 1, 1, 1, 1, 0, 1, 1, 1, 1] ann4
noncomputable def f4c116 : Code := subCode [1, 1, 1, 1, 0, 1, 0, 0, 1, 1, 0, 0, 1, 1, 1, 0, 1, 1, 1, 1, 1, 1, 1, 0, 1, 1, 1, 1, 0] (bodyOf Try.prog 4)
def f4a116 : Ann := subAnn [1, 1, 1, 1, 0, 1, 0, 0, 1, 1, 0, 0, 1, 1, 1, 0, 1, 1, 1, 1, 1, 1, 1, 0, 1, 1, 1, 1, 0] ann4
noncomputable def f4c117 : Code := subCode [1, 1, 1, 1, 0, 1, 0, 0, 1, 1, 0, 0, 1, 1, 1, 0, 1, 1, 1, 1, 1, 1, 1, 0, 1, 1, 1, 1, 0, 0] (bodyOf Try.prog 4)
def f4a117 : Ann := subAnn [1, 1, 1, 1, 0, 1, 0, 0, 1, 1, 0, 0, 1, 1, 1, 0, 1, 1, 1, 1, 1, 1, 1, 0, 1, 1, 1, 1, 0, 0] ann4
noncomputable def f4c118 : Code := subCode [1, 1, 1, 1, 0, 1, 0, 0, 1, 1, 0, 0, 1, 1, 1, 0, 1, 1, 1, 1, 1, 1, 1, 0, 1, 1, 1, 1, 0, 0, 0] (bodyOf Try.prog 4)
def f4a118 : Ann := subAnn [1, 1, 1, 1, 0, 1, 0, 0, 1, 1, 0, 0, 1, 1, 1, 0, 1, 1, 1, 1, 1, 1, 1, 0, 1, 1, 1, 1, 0, 0, 0] ann4
noncomputable def f4c119 : Code := subCode [1, 1, 1, 1, 0, 1, 0, 0, 1, 1, 0, 0, 1, 1, 1, 0, 1, 1, 1, 1, 1, 1, 1, 0, 1, 1, 1, 1, 0, 0, 1] (bodyOf Try.prog 4)
def f4a119 : Ann := subAnn [1, 1, 1, 1, 0, 1, 0, 0, 1, 1, 0, 0, 1, 1, 1, 0, 1, 1, 1, 1, 1, 1, 1, 0, 1, 1, 1, 1, 0, 0, 1] ann4
noncomputable def f4c120 : Code := subCode [1, 1, 1, 1, 0, 1, 0, 0, 1, 1, 0, 0, 1, 1, 1, 0, 1, 1, 1, 1, 1, 1, 1, 0, 1, 1, 1, 1, 0, 0, 1, 0] (bodyOf Try.prog 4)
def f4a120 : Ann := subAnn [1, 1, 1, 1, 0, 1, 0, 0, 1, 1, 0, 0, 1, 1, 1, 0, 1, 1, 1, 1, 1, 1, 1, 0, 1, 1, 1, 1, 0, 0, 1, 0] ann4
noncomputable def f4c121 : Code := subCode [1, 1, 1, 1, 0, 1, 0, 0, 1, 1, 0, 0, 1, 1, 1, 0, 1, 1, 1, 1, 1, 1, 1, 0, 1, 1, 1, 1, 0, 0, 1, 1] (bodyOf Try.prog 4)
def f4a121 : Ann := subAnn [1, 1, 1, 1, 0, 1, 0, 0, 1, 1, 0, 0, 1, 1, 1, 0, 1, 1, 1, 1, 1, 1, 1, 0, 1, 1, 1, 1, 0, 0, 1, 1] ann4
noncomputable def f4c122 : Code := subCode [1, 1, 1, 1, 0, 1, 0, 0, 1, 1, 0, 0, 1, 1, 1, 0, 1, 1, 1, 1, 1, 1, 1, 0, 1, 1, 1, 1, 0, 0, 1, 0, 0] (bodyOf Try.prog 4)
def f4a122 : Ann := subAnn [1, 1, 1, 1, 0, 1, 0, 0, 1, 1, 0, 0, 1, 1, 1, 0, 1, 1, 1, 1, 1, 1, 1, 0, 1, 1, 1, 1, 0, 0, 1, 0, 0] ann4
noncomputable def f4c123 : Code := subCode [1, 1, 1, 1, 0, 1, 0, 0, 1, 1, 0, 0, 1, 1, 1, 0, 1, 1, 1, 1, 1, 1, 1, 0, 1, 1, 1, 1, 0, 0, 1, 0, 1] (bodyOf Try.prog 4)
def f4a123 : Ann := subAnn [1, 1, 1, 1, 0, 1, 0, 0, 1, 1, 0, 0, 1, 1, 1, 0, 1, 1, 1, 1, 1, 1, 1, 0, 1, 1, 1, 1, 0, 0, 1, 0, 1] ann4
noncomputable def f4c124 : Code := subCode [1, 1, 1, 1, 0, 1, 0, 0, 1, 1, 0, 0, 1, 1, 1, 0, 1, 1, 1, 1, 1, 1, 1, 0, 1, 1, 1, 1, 0, 0, 1, 1, 0] (bodyOf Try.prog 4)
def f4a124 : Ann := subAnn [1, 1, 1, 1, 0, 1, 0, 0, 1, 1, 0, 0, 1, 1, 1, 0, 1, 1, 1, 1, 1, 1, 1, 0, 1, 1, 1, 1, 0, 0, 1, 1, 0] ann4
noncomputable def f4c125 : Code := subCode [1, 1, 1, 1, 0, 1, 0, 0, 1, 1, 0, 0, 1, 1, 1, 0, 1, 1, 1, 1, 1, 1, 1, 0, 1, 1, 1, 1, 0, 0, 1, 1, 1] (bodyOf Try.prog 4)
def f4a125 : Ann := subAnn [1, 1, 1, 1, 0, 1, 0, 0, 1, 1, 0, 0, 1, 1, 1, 0, 1, 1, 1, 1, 1, 1, 1, 0, 1, 1, 1, 1, 0, 0, 1, 1, 1] ann4
noncomputable def f4c126 : Code := subCode [1, 1, 1, 1, 0, 1, 0, 0, 1, 1, 0, 0, 1, 1, 1, 0, 1, 1, 1, 1, 1, 1, 1, 0, 1, 1, 1, 1, 0, 0, 1, 1, 0, 0] (bodyOf Try.prog 4)
def f4a126 : Ann := subAnn [1, 1, 1, 1, 0, 1, 0, 0, 1, 1, 0, 0, 1, 1, 1, 0, 1, 1, 1, 1, 1, 1, 1, 0, 1, 1, 1, 1, 0, 0, 1, 1, 0, 0] ann4
noncomputable def f4c127 : Code := subCode [1, 1, 1, 1, 0, 1, 0, 0, 1, 1, 0, 0, 1, 1, 1, 0, 1, 1, 1, 1, 1, 1, 1, 0, 1, 1, 1, 1, 0, 0, 1, 1, 0, 0, 0] (bodyOf Try.prog 4)
def f4a127 : Ann := subAnn [1, 1, 1, 1, 0, 1, 0, 0, 1, 1, 0, 0, 1, 1, 1, 0, 1, 1, 1, 1, 1, 1, 1, 0, 1, 1, 1, 1, 0, 0, 1, 1, 0, 0, 0] ann4
noncomputable def f4c128 : Code := subCode [1, 1, 1, 1, 0, 1, 0, 0, 1, 1, 0, 0, 1, 1, 1, 0, 1, 1, 1, 1, 1, 1, 1, 0, 1, 1, 1, 1, 0, 0, 1, 1, 0, 0, 1] (bodyOf Try.prog 4)
def f4a128 : Ann := subAnn [1, 1, 1, 1, 0, 1, 0, 0, 1, 1, 0, 0, 1, 1, 1, 0, 1, 1, 1, 1, 1, 1, 1, 0, 1, 1, 1, 1, 0, 0, 1, 1, 0, 0, 1] ann4
noncomputable def f4c129 : Code := subCode [1, 1, 1, 1, 0, 1, 0, 0, 1, 1, 0, 0, 1, 1, 1, 0, 1, 1, 1, 1, 1, 1, 1, 0, 1, 1, 1, 1, 0, 0, 1, 1, 0, 0, 1, 0] (bodyOf Try.prog 4)
def f4a129 : Ann := subAnn [1, 1, 1, 1, 0, 1, 0, 0, 1, 1, 0, 0, 1, 1, 1, 0, 1, 1, 1, 1, 1, 1, 1, 0, 1, 1, 1, 1, 0, 0, 1, 1, 0, 0, 1, 0] ann4
noncomputable def f4c130 : Code := subCode [1, 1, 1, 1, 0, 1, 0, 0, 1, 1, 0, 0, 1, 1, 1, 0, 1, 1, 1, 1, 1, 1, 1, 0, 1, 1, 1, 1, 0, 0, 1, 1, 0, 0, 1, 1] (bodyOf Try.prog 4)
def f4a130 : Ann := subAnn [1, 1, 1, 1, 0, 1, 0, 0, 1, 1, 0, 0, 1, 1, 1, 0, 1, 1, 1, 1, 1, 1, 1, 0, 1, 1, 1, 1, 0, 0, 1, 1, 0, 0, 1, 1] ann4
noncomputable def f4c131 : Code := subCode [1, 1, 1, 1, 0, 1, 0, 0, 1, 1, 0, 0, 1, 1, 1, 0, 1, 1, 1, 1, 1, 1, 1, 0, 1, 1, 1, 1, 0, 0, 1, 1, 0, 0, 1, 1, 0] (bodyOf Try.prog 4)
def f4a131 : Ann := subAnn [1, 1, 1, 1, 0, 1, 0, 0, 1, 1, 0, 0, 1, 1, 1, 0, 1, 1, 1, 1, 1, 1, 1, 0, 1, 1, 1, 1, 0, 0, 1, 1, 0, 0, 1, 1, 0] ann4
noncomputable def f4c132 : Code := subCode [1, 1, 1, 1, 0, 1, 0, 0, 1, 1, 0, 0, 1, 1, 1, 0, 1, 1, 1, 1, 1, 1, 1, 0, 1, 1, 1, 1, 0, 0, 1, 1, 0, 0, 1, 1, 1] (bodyOf Try.prog 4)
def f4a132 : Ann := subAnn [1, 1, 1, 1, 0, 1, 0, 0, 1, 1, 0, 0, 1, 1, 1, 0, 1, 1, 1, 1, 1, 1, 1, 0, 1, 1, 1, 1, 0, 0, 1, 1, 0, 0, 1, 1, 1] ann4
noncomputable def f4c133 : Code := subCode [1, 1, 1, 1, 0, 1, 0, 0, 1, 1, 0, 0, 1, 1, 1, 0, 1, 1, 1, 1, 1, 1, 1, 0, 1, 1, 1, 1, 0, 0, 1, 1, 0, 0, 1, 1, 0, 0] (bodyOf Try.prog 4)
def f4a133 : Ann := subAnn [1, 1, 1, 1, 0, 1, 0, 0, 1, 1, 0, 0, 1, 1, 1, 0, 1, 1, 1, 1, 1, 1, 1, 0, 1, 1, 1, 1, 0, 0, 1, 1, 0, 0, 1, 1, 0, 0] ann4
noncomputable def f4c134 : Code := subCode [1, 1, 1, 1, 0, 1, 0, 0, 1, 1, 0, 0, 1, 1, 1, 0, 1, 1, 1, 1, 1, 1, 1, 0, 1, 1, 1, 1, 0, 0, 1, 1, 0, 0, 1, 1, 0, 1] (bodyOf Try.prog 4)
def f4a134 : Ann := subAnn [1, 1, 1, 1, 0, 1, 0, 0, 1, 1, 0, 0, 1, 1, 1, 0, 1, 1, 1, 1, 1, 1, 1, 0, 1, 1, 1, 1, 0, 0, 1, 1, 0, 0, 1, 1, 0, 1] ann4
noncomputable def f4c135 : Code := subCode [1, 1, 1, 1, 1, 0] (bodyOf Try.prog 4)
def f4a135 : Ann := subAnn [1, 1, 1, 1, 1, 0] ann4
noncomputable def f4c136 : Code := subCode [1, 1, 1, 1, 1, 1] (bodyOf Try.prog 4)
def f4a136 : Ann := subAnn [1, 1, 1, 1, 1, 1] ann4
noncomputable def f4L19 {R : Type} (call : Bool → CallF R) (dem : Bool) (N : Nat) : KF R → Env → St → Option R := fun K e σ => runK Try.prog call dem N f4c20 f4a20 K e σ
noncomputable def f4L93 {R : Type} (call : Bool → CallF R) (dem : Bool) (N : Nat) : KF R → Env → St → Option R := fun K e σ => runK Try.prog call dem N f4c94 f4a94 K e σ
noncomputable def f4L116 {R : Type} (call : Bool → CallF R) (dem : Bool) (N : Nat) : KF R → Env → St → Option R := fun K e σ => runK Try.prog call dem N f4c117 f4a117 K e σ
def f4e0 (y0 : Option (Nat × Nat)) (y1 : Nat) (y2 : Option Nat) : Env := AV.slice y0 y1 y2 (3 : Nat) :: Env.sp 151 []
def f4e1 (y0 : Option (Nat × Nat)) (y1 : Nat) (y2 : Option Nat) (y3 : Bool) : Env := AV.slice y0 y1 y2 (3 : Nat) :: Env.sp 1 (AV.bool y3 :: Env.sp 149 [])
def f4e2 (y0 : Option (Nat × Nat)) (y1 : Nat) (y2 : Option Nat) (y3 : Option (Nat × Nat)) (y4 : Option (Nat × Nat)) : Env := AV.slice y0 y1 y2 (3 : Nat) :: Env.sp 2 (AV.ptr y3 :: Env.sp 11 (AV.ptr y4 :: Env.sp 136 []))
def f4e3 (y0 : Option (Nat × Nat)) (y1 : Nat) (y2 : Option Nat) (y3 : Option (Nat × Nat)) : Env := AV.slice y0 y1 y2 (3 : Nat) :: Env.sp 2 (AV.ptr y3 :: Env.sp 148 [])
def f4e4 (y0 : Option (Nat × Nat)) (y1 : Nat) (y2 : Option Nat) (y3 : Option (Nat × Nat)) (y4 : Option (Nat × Nat)) (y5 : Bool) (y6 : Bool) (y7 : Bool) : Env := AV.slice y0 y1 y2 (3 : Nat) :: Env.sp 2 (AV.ptr y3 :: Env.sp 12 (AV.ptr y4 :: AV.bool y5 :: AV.bool y6 :: AV.tuple [] :: AV.tuple [] :: AV.tuple [] :: AV.bool y7 :: Env.sp 129 []))
def f4e5 (y0 : Option (Nat × Nat)) (y1 : Nat) (y2 : Option Nat) (y3 : Option (Nat × Nat)) (y4 : Option (Nat × Nat)) (y5 : Bool) (y6 : Bool) (y7 : Option (Nat × Nat)) (y8 : Nat) (y9 : Option Nat) (y10 : Int) (y11 : Bool) (y12 : Bool) : Env := AV.slice y0 y1 y2 (3 : Nat) :: Env.sp 2 (AV.ptr y3 :: Env.sp 12 (AV.ptr y4 :: AV.bool y5 :: AV.bool y6 :: AV.slice y7 y8 y9 (3 : Nat) :: AV.int IntKind.i64 y10 :: AV.bool y11 :: AV.bool y12 :: Env.sp 129 []))
def f4e6 (y0 : Option (Nat × Nat)) (y1 : Nat) (y2 : Option Nat) (y3 : Option (Nat × Nat)) (y4 : Bool) : Env := AV.slice y0 y1 y2 (3 : Nat) :: Env.sp 2 (AV.ptr y3 :: Env.sp 18 (AV.bool y4 :: Env.sp 129 []))
def f4e7 (y0 : Option (Nat × Nat)) (y1 : Nat) (y2 : Option Nat) (y3 : Bool) (y4 : Option (Nat × Nat)) (y5 : Bool) (y6 : Option (Nat × Nat)) (y7 : Bool) (y8 : Bool) (y9 : Bool) (y10 : Bool) : Env := AV.slice y0 y1 y2 (3 : Nat) :: Env.sp 1 (AV.bool y3 :: AV.ptr y4 :: Env.sp 18 (AV.bool y5 :: AV.ptr y6 :: AV.bool y7 :: AV.bool y8 :: AV.bool y9 :: AV.bool y10 :: Env.sp 124 []))
def f4e8 (y0 : Option (Nat × Nat)) (y1 : Nat) (y2 : Option Nat) (y3 : Bool) (y4 : Option (Nat × Nat)) (y5 : Bool) (y6 : Option (Nat × Nat)) (y7 : Bool) (y8 : Bool) (y9 : Bool) : Env := AV.slice y0 y1 y2 (3 : Nat) :: Env.sp 1 (AV.bool y3 :: AV.ptr y4 :: Env.sp 18 (AV.bool y5 :: AV.ptr y6 :: AV.bool y7 :: AV.bool y8 :: AV.tuple [] :: AV.bool y9 :: Env.sp 124 []))
def f4e9 (y0 : Bool) : Env := Env.sp 2 (AV.bool y0 :: Env.sp 149 [])
def f4e10 (y0 : Option (Nat × Nat)) (y1 : Nat) (y2 : Option Nat) (y3 : Option (Nat × Nat)) (y4 : Nat) : Env := AV.slice y0 y1 y2 (3 : Nat) :: Env.sp 2 (AV.ptr y3 :: AV.ptr (some (y4, (0 : Nat))) :: Env.sp 147 [])
def f4e11 (y0 : Option (Nat × Nat)) (y1 : Nat) (y2 : Option Nat) (y3 : Option (Nat × Nat)) (y4 : Nat) (y5 : Option (Nat × Nat)) (y6 : Nat) (y7 : Option Nat) (y8 : Int) (y9 : Int) : Env := AV.slice y0 y1 y2 (3 : Nat) :: Env.sp 2 (AV.ptr y3 :: AV.ptr (some (y4, (0 : Nat))) :: Env.sp 23 (AV.slice y5 y6 y7 (3 : Nat) :: AV.int IntKind.i64 y8 :: AV.int IntKind.i64 y9 :: Env.sp 121 []))
def f4e12 (y0 : Option (Nat × Nat)) (y1 : Nat) (y2 : Option (Nat × Nat)) (y3 : Nat) (y4 : Option Nat) (y5 : Int) (y6 : Int) : Env := Env.sp 3 (AV.ptr y0 :: AV.ptr (some (y1, (0 : Nat))) :: Env.sp 23 (AV.slice y2 y3 y4 (3 : Nat) :: AV.int IntKind.i64 y5 :: AV.int IntKind.i64 y6 :: Env.sp 121 []))
def f4e13 (y0 : Option (Nat × Nat)) (y1 : Nat) (y2 : Option (Nat × Nat)) (y3 : Nat) (y4 : Option Nat) (y5 : Int) (y6 : Int) (y7 : Bool) : Env := Env.sp 3 (AV.ptr y0 :: AV.ptr (some (y1, (0 : Nat))) :: Env.sp 23 (AV.slice y2 y3 y4 (3 : Nat) :: AV.int IntKind.i64 y5 :: AV.int IntKind.i64 y6 :: AV.bool y7 :: Env.sp 120 []))
def f4e14 : Env := Env.sp 152 []
def f4e15 (y0 : Option (Nat × Nat)) (y1 : Nat) (y2 : Nat) (y3 : Option (Nat × Nat)) (y4 : Nat) (y5 : Option Nat) (y6 : Int) (y7 : Int) (y8 : Option (Nat × Nat)) (y9 : Int) (y10 : Int) (y11 : Int) : Env := Env.sp 3 (AV.ptr y0 :: AV.ptr (some (y1, (0 : Nat))) :: Env.sp 1 (AV.ptr (some (y2, (0 : Nat))) :: Env.sp 21 (AV.slice y3 y4 y5 (3 : Nat) :: AV.int IntKind.i64 y6 :: AV.int IntKind.i64 y7 :: Env.sp 1 (AV.ptr y8 :: AV.agg [AV.int IntKind.i64 y9, AV.int IntKind.i64 y10, AV.int IntKind.i64 y11] :: Env.sp 118 []))))
def f4e16 (y0 : Option (Nat × Nat)) (y1 : Nat) (y2 : Nat) (y3 : Option (Nat × Nat)) (y4 : Nat) (y5 : Option Nat) (y6 : Int) (y7 : Int) : Env := Env.sp 3 (AV.ptr y0 :: AV.ptr (some (y1, (0 : Nat))) :: Env.sp 1 (AV.ptr (some (y2, (0 : Nat))) :: Env.sp 21 (AV.slice y3 y4 y5 (3 : Nat) :: AV.int IntKind.i64 y6 :: AV.int IntKind.i64 y7 :: Env.sp 121 [])))
def f4e17 (y0 : Option (Nat × Nat)) (y1 : Nat) (y2 : Nat) (y3 : Option (Nat × Nat)) (y4 : Nat) (y5 : Option Nat) (y6 : Int) (y7 : Int) (y8 : Nat) (y9 : Int) (y10 : Bool) (y11 : Bool) (y12 : Bool) : Env := Env.sp 3 (AV.ptr y0 :: AV.ptr (some (y1, (0 : Nat))) :: Env.sp 1 (AV.ptr (some (y2, (0 : Nat))) :: Env.sp 21 (AV.slice y3 y4 y5 (3 : Nat) :: AV.int IntKind.i64 y6 :: AV.int IntKind.i64 y7 :: Env.sp 3 (AV.ptr (some (y8, (1 : Nat))) :: AV.int IntKind.i64 y9 :: AV.bool y10 :: AV.bool y11 :: AV.tuple [] :: AV.tuple [] :: AV.tuple [] :: AV.bool y12 :: Env.sp 110 []))))
def f4e18 (y0 : Option (Nat × Nat)) (y1 : Nat) (y2 : Nat) (y3 : Option (Nat × Nat)) (y4 : Nat) (y5 : Option Nat) (y6 : Int) (y7 : Int) (y8 : Nat) (y9 : Int) (y10 : Bool) (y11 : Bool) (y12 : Nat) (y13 : Int) (y14 : Bool) (y15 : Bool) : Env := Env.sp 3 (AV.ptr y0 :: AV.ptr (some (y1, (0 : Nat))) :: Env.sp 1 (AV.ptr (some (y2, (0 : Nat))) :: Env.sp 21 (AV.slice y3 y4 y5 (3 : Nat) :: AV.int IntKind.i64 y6 :: AV.int IntKind.i64 y7 :: Env.sp 3 (AV.ptr (some (y8, (1 : Nat))) :: AV.int IntKind.i64 y9 :: AV.bool y10 :: AV.bool y11 :: AV.ptr (some (y12, (1 : Nat))) :: AV.int IntKind.i64 y13 :: AV.bool y14 :: AV.bool y15 :: Env.sp 110 []))))
def f4e19 (y0 : Option (Nat × Nat)) (y1 : Nat) (y2 : Nat) (y3 : Option (Nat × Nat)) (y4 : Nat) (y5 : Option Nat) (y6 : Int) (y7 : Int) (y8 : Bool) : Env := Env.sp 3 (AV.ptr y0 :: AV.ptr (some (y1, (0 : Nat))) :: Env.sp 1 (AV.ptr (some (y2, (0 : Nat))) :: Env.sp 21 (AV.slice y3 y4 y5 (3 : Nat) :: AV.int IntKind.i64 y6 :: AV.int IntKind.i64 y7 :: Env.sp 10 (AV.bool y8 :: Env.sp 110 []))))
def f4e20 (y0 : Option (Nat × Nat)) (y1 : Nat) (y2 : Nat) (y3 : Option (Nat × Nat)) (y4 : Nat) (y5 : Option Nat) (y6 : Int) (y7 : Int) (y8 : Nat) (y9 : Int) : Env := Env.sp 3 (AV.ptr y0 :: AV.ptr (some (y1, (0 : Nat))) :: Env.sp 1 (AV.ptr (some (y2, (0 : Nat))) :: Env.sp 21 (AV.slice y3 y4 y5 (3 : Nat) :: AV.int IntKind.i64 y6 :: AV.int IntKind.i64 y7 :: Env.sp 11 (AV.ptr (some (y8, (0 : Nat))) :: AV.int IntKind.i64 y9 :: Env.sp 108 []))))
def f4e21 (y0 : Option (Nat × Nat)) (y1 : Nat) (y2 : Nat) (y3 : Option (Nat × Nat)) (y4 : Nat) (y5 : Option Nat) (y6 : Int) (y7 : Int) (y8 : Int) : Env := Env.sp 3 (AV.ptr y0 :: AV.ptr (some (y1, (0 : Nat))) :: Env.sp 1 (AV.ptr (some (y2, (0 : Nat))) :: Env.sp 21 (AV.slice y3 y4 y5 (3 : Nat) :: AV.int IntKind.i64 y6 :: AV.int IntKind.i64 y7 :: Env.sp 12 (AV.int IntKind.i64 y8 :: Env.sp 108 []))))
def f4e22 (y0 : Option (Nat × Nat)) (y1 : Nat) (y2 : Nat) (y3 : Option (Nat × Nat)) (y4 : Nat) (y5 : Option Nat) (y6 : Int) (y7 : Int) (y8 : Int) (y9 : Bool) (y10 : Bool) : Env := Env.sp 3 (AV.ptr y0 :: AV.ptr (some (y1, (0 : Nat))) :: Env.sp 1 (AV.ptr (some (y2, (0 : Nat))) :: Env.sp 21 (AV.slice y3 y4 y5 (3 : Nat) :: AV.int IntKind.i64 y6 :: AV.int IntKind.i64 y7 :: Env.sp 12 (AV.int IntKind.i64 y8 :: AV.bool y9 :: AV.bool y10 :: Env.sp 106 []))))
def f4e23 (y0 : Option (Nat × Nat)) (y1 : Nat) (y2 : Nat) (y3 : Option (Nat × Nat)) (y4 : Nat) (y5 : Option Nat) (y6 : Int) (y7 : Int) (y8 : Int) (y9 : Bool) : Env := Env.sp 3 (AV.ptr y0 :: AV.ptr (some (y1, (0 : Nat))) :: Env.sp 1 (AV.ptr (some (y2, (0 : Nat))) :: Env.sp 21 (AV.slice y3 y4 y5 (3 : Nat) :: AV.int IntKind.i64 y6 :: AV.int IntKind.i64 y7 :: Env.sp 12 (AV.int IntKind.i64 y8 :: AV.bool y9 :: Env.sp 107 []))))
def f4e24 (y0 : Option (Nat × Nat)) (y1 : Nat) (y2 : Nat) (y3 : Option (Nat × Nat)) (y4 : Nat) (y5 : Option Nat) (y6 : Int) (y7 : Int) (y8 : Int) (y9 : Bool) (y10 : Bool) : Env := Env.sp 3 (AV.ptr y0 :: AV.ptr (some (y1, (0 : Nat))) :: Env.sp 1 (AV.ptr (some (y2, (0 : Nat))) :: Env.sp 21 (AV.slice y3 y4 y5 (3 : Nat) :: AV.int IntKind.i64 y6 :: AV.int IntKind.i64 y7 :: Env.sp 12 (AV.int IntKind.i64 y8 :: AV.bool y9 :: Env.sp 1 (AV.bool y10 :: Env.sp 105 [])))))
def f4e25 (y0 : Option (Nat × Nat)) (y1 : Nat) (y2 : Nat) (y3 : Option (Nat × Nat)) (y4 : Nat) (y5 : Option Nat) (y6 : Int) (y7 : Int) (y8 : Int) (y9 : Bool) (y10 : Option (Nat × Nat)) (y11 : Nat) (y12 : Int) (y13 : Nat) (y14 : Int) (y15 : Int) (y16 : Bool) : Env := Env.sp 3 (AV.ptr y0 :: AV.ptr (some (y1, (0 : Nat))) :: Env.sp 1 (AV.ptr (some (y2, (0 : Nat))) :: Env.sp 21 (AV.slice y3 y4 y5 (3 : Nat) :: AV.int IntKind.i64 y6 :: AV.int IntKind.i64 y7 :: Env.sp 12 (AV.int IntKind.i64 y8 :: AV.bool y9 :: Env.sp 2 (AV.ptr y10 :: AV.ptr (some (y11, (1 : Nat))) :: AV.int IntKind.i64 y12 :: AV.ptr (some (y13, (2 : Nat))) :: AV.int IntKind.i64 y14 :: AV.int IntKind.i64 y15 :: AV.bool y16 :: Env.sp 98 [])))))
def f4e26 (y0 : Option (Nat × Nat)) (y1 : Nat) (y2 : Nat) (y3 : Option (Nat × Nat)) (y4 : Nat) (y5 : Option Nat) (y6 : Int) (y7 : Int) (y8 : Bool) : Env := Env.sp 3 (AV.ptr y0 :: AV.ptr (some (y1, (0 : Nat))) :: Env.sp 1 (AV.ptr (some (y2, (0 : Nat))) :: Env.sp 21 (AV.slice y3 y4 y5 (3 : Nat) :: AV.int IntKind.i64 y6 :: AV.int IntKind.i64 y7 :: Env.sp 22 (AV.bool y8 :: Env.sp 98 []))))
def f4e27 (y0 : Option (Nat × Nat)) (y1 : Nat) (y2 : Nat) (y3 : Option (Nat × Nat)) (y4 : Nat) (y5 : Option Nat) (y6 : Int) (y7 : Int) (y8 : Bool) (y9 : Nat) (y10 : Int) (y11 : Option (Nat × Nat)) (y12 : Int) (y13 : Nat) (y14 : Int) (y15 : Int) (y16 : Option (Nat × Nat)) : Env := Env.sp 3 (AV.ptr y0 :: AV.ptr (some (y1, (0 : Nat))) :: Env.sp 1 (AV.ptr (some (y2, (0 : Nat))) :: Env.sp 21 (AV.slice y3 y4 y5 (3 : Nat) :: AV.int IntKind.i64 y6 :: AV.int IntKind.i64 y7 :: Env.sp 22 (AV.bool y8 :: AV.ptr (some (y9, (1 : Nat))) :: AV.int IntKind.i64 y10 :: AV.ptr y11 :: AV.int IntKind.i64 y12 :: AV.ptr (some (y13, (2 : Nat))) :: AV.int IntKind.i64 y14 :: AV.int IntKind.i64 y15 :: AV.ptr y16 :: Env.sp 90 []))))
def f4e28 (y0 : Option (Nat × Nat)) (y1 : Nat) (y2 : Nat) (y3 : Option (Nat × Nat)) (y4 : Nat) (y5 : Option Nat) (y6 : Int) (y7 : Int) (y8 : Int) (y9 : Bool) (y10 : Bool) (y11 : Bool) : Env := Env.sp 3 (AV.ptr y0 :: AV.ptr (some (y1, (0 : Nat))) :: Env.sp 1 (AV.ptr (some (y2, (0 : Nat))) :: Env.sp 21 (AV.slice y3 y4 y5 (3 : Nat) :: AV.int IntKind.i64 y6 :: AV.int IntKind.i64 y7 :: Env.sp 12 (AV.int IntKind.i64 y8 :: AV.bool y9 :: Env.sp 17 (AV.bool y10 :: AV.bool y11 :: Env.sp 88 [])))))
def f4e29 (y0 : Option (Nat × Nat)) (y1 : Nat) (y2 : Nat) (y3 : Option (Nat × Nat)) (y4 : Nat) (y5 : Option Nat) (y6 : Int) (y7 : Int) (y8 : Int) (y9 : Bool) : Env := Env.sp 3 (AV.ptr y0 :: AV.ptr (some (y1, (0 : Nat))) :: Env.sp 1 (AV.ptr (some (y2, (0 : Nat))) :: Env.sp 21 (AV.slice y3 y4 y5 (3 : Nat) :: AV.int IntKind.i64 y6 :: AV.int IntKind.i64 y7 :: Env.sp 12 (AV.int IntKind.i64 y8 :: Env.sp 18 (AV.bool y9 :: Env.sp 89 [])))))
def f4e30 (y0 : Option (Nat × Nat)) (y1 : Nat) (y2 : Nat) (y3 : Option (Nat × Nat)) (y4 : Nat) (y5 : Option Nat) (y6 : Int) (y7 : Int) (y8 : Int) (y9 : Bool) (y10 : Option (Nat × Nat)) (y11 : Nat) (y12 : Int) (y13 : Bool) (y14 : Int) : Env := Env.sp 3 (AV.ptr y0 :: AV.ptr (some (y1, (0 : Nat))) :: Env.sp 1 (AV.ptr (some (y2, (0 : Nat))) :: Env.sp 21 (AV.slice y3 y4 y5 (3 : Nat) :: AV.int IntKind.i64 y6 :: AV.int IntKind.i64 y7 :: Env.sp 12 (AV.int IntKind.i64 y8 :: Env.sp 18 (AV.bool y9 :: Env.sp 1 (AV.ptr y10 :: AV.ptr (some (y11, (1 : Nat))) :: AV.int IntKind.i64 y12 :: AV.tuple [AV.bool y13, AV.int IntKind.i64 y14] :: Env.sp 84 []))))))
def f4e31 (y0 : Option (Nat × Nat)) (y1 : Nat) (y2 : Nat) (y3 : Option (Nat × Nat)) (y4 : Nat) (y5 : Option Nat) (y6 : Int) (y7 : Int) (y8 : Nat) (y9 : Int) (y10 : Option (Nat × Nat)) : Env := Env.sp 3 (AV.ptr y0 :: AV.ptr (some (y1, (0 : Nat))) :: Env.sp 1 (AV.ptr (some (y2, (0 : Nat))) :: Env.sp 21 (AV.slice y3 y4 y5 (3 : Nat) :: AV.int IntKind.i64 y6 :: AV.int IntKind.i64 y7 :: Env.sp 37 (AV.ptr (some (y8, (1 : Nat))) :: AV.int IntKind.i64 y9 :: AV.ptr y10 :: Env.sp 81 []))))
def f4e32 (y0 : Option (Nat × Nat)) (y1 : Nat) (y2 : Nat) (y3 : Option (Nat × Nat)) (y4 : Nat) (y5 : Option Nat) (y6 : Int) (y7 : Int) (y8 : Int) (y9 : Bool) (y10 : Bool) (y11 : Bool) : Env := Env.sp 3 (AV.ptr y0 :: AV.ptr (some (y1, (0 : Nat))) :: Env.sp 1 (AV.ptr (some (y2, (0 : Nat))) :: Env.sp 21 (AV.slice y3 y4 y5 (3 : Nat) :: AV.int IntKind.i64 y6 :: AV.int IntKind.i64 y7 :: Env.sp 12 (AV.int IntKind.i64 y8 :: Env.sp 18 (AV.bool y9 :: Env.sp 8 (AV.bool y10 :: AV.bool y11 :: Env.sp 79 []))))))
def f4e33 (y0 : Option (Nat × Nat)) (y1 : Nat) (y2 : Nat) (y3 : Option (Nat × Nat)) (y4 : Nat) (y5 : Option Nat) (y6 : Int) (y7 : Int) (y8 : Int) (y9 : Bool) : Env := Env.sp 3 (AV.ptr y0 :: AV.ptr (some (y1, (0 : Nat))) :: Env.sp 1 (AV.ptr (some (y2, (0 : Nat))) :: Env.sp 21 (AV.slice y3 y4 y5 (3 : Nat) :: AV.int IntKind.i64 y6 :: AV.int IntKind.i64 y7 :: Env.sp 12 (AV.int IntKind.i64 y8 :: Env.sp 27 (AV.bool y9 :: Env.sp 80 [])))))
def f4e34 (y0 : Option (Nat × Nat)) (y1 : Nat) (y2 : Nat) (y3 : Int) (y4 : Int) (y5 : Option (Nat × Nat)) (y6 : Nat) (y7 : Option Nat) (y8 : Int) (y9 : Int) (y10 : Int) (y11 : Bool) (y12 : Int) (y13 : Int) (y14 : Option (Nat × Nat)) (y15 : Nat) (y16 : Int) (y17 : Int) (y18 : Int) (y19 : Int) (y20 : Int) : Env := Env.sp 3 (AV.ptr y0 :: AV.ptr (some (y1, (0 : Nat))) :: Env.sp 1 (AV.ptr (some (y2, (0 : Nat))) :: AV.int IntKind.i64 y3 :: AV.int IntKind.i64 y4 :: Env.sp 19 (AV.slice y5 y6 y7 (3 : Nat) :: AV.int IntKind.i64 y8 :: AV.int IntKind.i64 y9 :: Env.sp 12 (AV.int IntKind.i64 y10 :: Env.sp 27 (AV.bool y11 :: Env.sp 1 (AV.tuple [AV.int IntKind.i64 y12, AV.int IntKind.i64 y13] :: AV.ptr y14 :: AV.ptr (some (y15, (1 : Nat))) :: AV.int IntKind.i64 y16 :: AV.tuple [AV.int IntKind.i64 y17, AV.int IntKind.i64 y18] :: AV.int IntKind.i64 y19 :: AV.int IntKind.i64 y20 :: Env.sp 72 []))))))
def f4e35 (y0 : Option (Nat × Nat)) (y1 : Nat) (y2 : Nat) (y3 : Int) (y4 : Int) (y5 : Option (Nat × Nat)) (y6 : Nat) (y7 : Option Nat) (y8 : Int) (y9 : Int) : Env := Env.sp 3 (AV.ptr y0 :: AV.ptr (some (y1, (0 : Nat))) :: Env.sp 1 (AV.ptr (some (y2, (0 : Nat))) :: AV.int IntKind.i64 y3 :: AV.int IntKind.i64 y4 :: Env.sp 19 (AV.slice y5 y6 y7 (3 : Nat) :: AV.int IntKind.i64 y8 :: AV.int IntKind.i64 y9 :: Env.sp 121 [])))
def f4e36 (y0 : Option (Nat × Nat)) (y1 : Nat) (y2 : Nat) (y3 : Int) (y4 : Int) (y5 : Option (Nat × Nat)) (y6 : Nat) (y7 : Option Nat) (y8 : Int) (y9 : Int) (y10 : Int) (y11 : Bool) (y12 : Nat) (y13 : Int) (y14 : Option (Nat × Nat)) (y15 : Int) (y16 : Bool) (y17 : Bool) : Env := Env.sp 3 (AV.ptr y0 :: AV.ptr (some (y1, (0 : Nat))) :: Env.sp 1 (AV.ptr (some (y2, (0 : Nat))) :: AV.int IntKind.i64 y3 :: AV.int IntKind.i64 y4 :: Env.sp 19 (AV.slice y5 y6 y7 (3 : Nat) :: AV.int IntKind.i64 y8 :: AV.int IntKind.i64 y9 :: Env.sp 49 (AV.int IntKind.i64 y10 :: AV.bool y11 :: AV.ptr (some (y12, (1 : Nat))) :: AV.int IntKind.i64 y13 :: AV.ptr y14 :: AV.int IntKind.i64 y15 :: AV.bool y16 :: AV.bool y17 :: Env.sp 64 []))))
def f4e37 (y0 : Option (Nat × Nat)) (y1 : Nat) (y2 : Nat) (y3 : Int) (y4 : Int) (y5 : Option (Nat × Nat)) (y6 : Nat) (y7 : Option Nat) (y8 : Int) (y9 : Int) (y10 : Bool) : Env := Env.sp 3 (AV.ptr y0 :: AV.ptr (some (y1, (0 : Nat))) :: Env.sp 1 (AV.ptr (some (y2, (0 : Nat))) :: AV.int IntKind.i64 y3 :: AV.int IntKind.i64 y4 :: Env.sp 19 (AV.slice y5 y6 y7 (3 : Nat) :: AV.int IntKind.i64 y8 :: AV.int IntKind.i64 y9 :: Env.sp 56 (AV.bool y10 :: Env.sp 64 []))))
def f4e38 (y0 : Bool) (y1 : Option (Nat × Nat)) (y2 : Nat) (y3 : Nat) (y4 : Int) (y5 : Int) (y6 : Option (Nat × Nat)) (y7 : Nat) (y8 : Option Nat) (y9 : Int) (y10 : Int) (y11 : Bool) : Env := Env.sp 2 (AV.bool y0 :: AV.ptr y1 :: AV.ptr (some (y2, (0 : Nat))) :: Env.sp 1 (AV.ptr (some (y3, (0 : Nat))) :: AV.int IntKind.i64 y4 :: AV.int IntKind.i64 y5 :: Env.sp 19 (AV.slice y6 y7 y8 (3 : Nat) :: AV.int IntKind.i64 y9 :: AV.int IntKind.i64 y10 :: Env.sp 56 (AV.bool y11 :: Env.sp 64 []))))
def f4e39 (y0 : Option (Nat × Nat)) (y1 : Nat) (y2 : Nat) (y3 : Int) (y4 : Int) (y5 : Option (Nat × Nat)) (y6 : Nat) (y7 : Option Nat) (y8 : Int) (y9 : Int) (y10 : Int) (y11 : Bool) : Env := Env.sp 3 (AV.ptr y0 :: AV.ptr (some (y1, (0 : Nat))) :: Env.sp 1 (AV.ptr (some (y2, (0 : Nat))) :: AV.int IntKind.i64 y3 :: AV.int IntKind.i64 y4 :: Env.sp 19 (AV.slice y5 y6 y7 (3 : Nat) :: AV.int IntKind.i64 y8 :: AV.int IntKind.i64 y9 :: Env.sp 57 (AV.int IntKind.i64 y10 :: AV.bool y11 :: Env.sp 62 []))))
def f4e40 (y0 : Option (Nat × Nat)) (y1 : Nat) (y2 : Nat) (y3 : Int) (y4 : Option (Nat × Nat)) (y5 : Nat) (y6 : Option Nat) (y7 : Int) (y8 : Int) (y9 : Bool) : Env := Env.sp 3 (AV.ptr y0 :: AV.ptr (some (y1, (0 : Nat))) :: Env.sp 1 (AV.ptr (some (y2, (0 : Nat))) :: AV.int IntKind.i64 y3 :: Env.sp 20 (AV.slice y4 y5 y6 (3 : Nat) :: AV.int IntKind.i64 y7 :: AV.int IntKind.i64 y8 :: Env.sp 58 (AV.bool y9 :: Env.sp 62 []))))
def f4e41 (y0 : Option (Nat × Nat)) (y1 : Nat) (y2 : Nat) (y3 : Int) (y4 : Option (Nat × Nat)) (y5 : Nat) (y6 : Option Nat) (y7 : Int) (y8 : Int) (y9 : Bool) (y10 : Nat) (y11 : Int) (y12 : Option (Nat × Nat)) (y13 : Int) (y14 : Int) (y15 : Int) (y16 : Option (Nat × Nat)) : Env := Env.sp 3 (AV.ptr y0 :: AV.ptr (some (y1, (0 : Nat))) :: Env.sp 1 (AV.ptr (some (y2, (0 : Nat))) :: AV.int IntKind.i64 y3 :: Env.sp 20 (AV.slice y4 y5 y6 (3 : Nat) :: AV.int IntKind.i64 y7 :: AV.int IntKind.i64 y8 :: Env.sp 58 (AV.bool y9 :: AV.ptr (some (y10, (1 : Nat))) :: AV.int IntKind.i64 y11 :: AV.ptr y12 :: AV.int IntKind.i64 y13 :: AV.int IntKind.i64 y14 :: AV.int IntKind.i64 y15 :: AV.ptr y16 :: Env.sp 55 []))))
def f4e42 (y0 : Option (Nat × Nat)) (y1 : Nat) (y2 : Nat) (y3 : Option (Nat × Nat)) (y4 : Nat) (y5 : Option Nat) (y6 : Int) (y7 : Int) (y8 : Int) (y9 : Bool) (y10 : Bool) (y11 : Bool) : Env := Env.sp 3 (AV.ptr y0 :: AV.ptr (some (y1, (0 : Nat))) :: Env.sp 1 (AV.ptr (some (y2, (0 : Nat))) :: Env.sp 21 (AV.slice y3 y4 y5 (3 : Nat) :: AV.int IntKind.i64 y6 :: AV.int IntKind.i64 y7 :: Env.sp 12 (AV.int IntKind.i64 y8 :: Env.sp 27 (AV.bool y9 :: Env.sp 25 (AV.bool y10 :: AV.bool y11 :: Env.sp 53 []))))))
def f4e43 (y0 : Option (Nat × Nat)) (y1 : Nat) (y2 : Nat) (y3 : Option (Nat × Nat)) (y4 : Nat) (y5 : Option Nat) (y6 : Int) (y7 : Int) (y8 : Bool) : Env := Env.sp 3 (AV.ptr y0 :: AV.ptr (some (y1, (0 : Nat))) :: Env.sp 1 (AV.ptr (some (y2, (0 : Nat))) :: Env.sp 21 (AV.slice y3 y4 y5 (3 : Nat) :: AV.int IntKind.i64 y6 :: AV.int IntKind.i64 y7 :: Env.sp 66 (AV.bool y8 :: Env.sp 54 []))))
def f4e44 (y0 : Option (Nat × Nat)) (y1 : Nat) (y2 : Nat) (y3 : Option (Nat × Nat)) (y4 : Nat) (y5 : Option Nat) (y6 : Int) (y7 : Option (Nat × Nat)) (y8 : Nat) (y9 : Option Nat) (y10 : Int) (y11 : Int) (y12 : Bool) (y13 : Option (Nat × Nat)) (y14 : Nat) (y15 : Option Nat) (y16 : Int) (y17 : Option (Nat × Nat)) (y18 : Nat) (y19 : Int) (y20 : Option (Nat × Nat)) (y21 : Nat) (y22 : Option Nat) (y23 : Int) (y24 : Option (Nat × Nat)) (y25 : Nat) (y26 : Option Nat) (y27 : Int) : Env := Env.sp 3 (AV.ptr y0 :: AV.ptr (some (y1, (0 : Nat))) :: Env.sp 1 (AV.ptr (some (y2, (0 : Nat))) :: Env.sp 2 (AV.slice y3 y4 y5 (1 : Nat) :: AV.int IntKind.i64 y6 :: Env.sp 17 (AV.slice y7 y8 y9 (3 : Nat) :: AV.int IntKind.i64 y10 :: AV.int IntKind.i64 y11 :: Env.sp 66 (AV.bool y12 :: Env.sp 1 (AV.tuple [AV.slice y13 y14 y15 (1 : Nat), AV.int IntKind.i64 y16] :: AV.ptr y17 :: AV.ptr (some (y18, (2 : Nat))) :: AV.int IntKind.i64 y19 :: AV.tuple [AV.slice y20 y21 y22 (1 : Nat), AV.int IntKind.i64 y23] :: AV.slice y24 y25 y26 (1 : Nat) :: AV.int IntKind.i64 y27 :: Env.sp 46 []))))))
def f4e45 (y0 : Option (Nat × Nat)) (y1 : Nat) (y2 : Option (Nat × Nat)) (y3 : Nat) (y4 : Option Nat) (y5 : Int) (y6 : Option (Nat × Nat)) (y7 : Nat) (y8 : Option Nat) (y9 : Int) (y10 : Int) : Env := Env.sp 3 (AV.ptr y0 :: AV.ptr (some (y1, (0 : Nat))) :: Env.sp 4 (AV.slice y2 y3 y4 (1 : Nat) :: AV.int IntKind.i64 y5 :: Env.sp 17 (AV.slice y6 y7 y8 (3 : Nat) :: AV.int IntKind.i64 y9 :: AV.int IntKind.i64 y10 :: Env.sp 121 [])))
def f4e46 (y0 : Option (Nat × Nat)) (y1 : Nat) (y2 : Option (Nat × Nat)) (y3 : Nat) (y4 : Option Nat) (y5 : Int) (y6 : Option (Nat × Nat)) (y7 : Nat) (y8 : Option Nat) (y9 : Int) (y10 : Int) (y11 : Int) (y12 : Bool) : Env := Env.sp 3 (AV.ptr y0 :: AV.ptr (some (y1, (0 : Nat))) :: Env.sp 4 (AV.slice y2 y3 y4 (1 : Nat) :: AV.int IntKind.i64 y5 :: Env.sp 17 (AV.slice y6 y7 y8 (3 : Nat) :: AV.int IntKind.i64 y9 :: AV.int IntKind.i64 y10 :: Env.sp 75 (AV.int IntKind.i64 y11 :: AV.bool y12 :: Env.sp 44 []))))
def f4e47 (y0 : Option (Nat × Nat)) (y1 : Nat) (y2 : Option (Nat × Nat)) (y3 : Nat) (y4 : Option Nat) (y5 : Option (Nat × Nat)) (y6 : Nat) (y7 : Option Nat) (y8 : Int) (y9 : Int) (y10 : Bool) : Env := Env.sp 3 (AV.ptr y0 :: AV.ptr (some (y1, (0 : Nat))) :: Env.sp 4 (AV.slice y2 y3 y4 (1 : Nat) :: Env.sp 18 (AV.slice y5 y6 y7 (3 : Nat) :: AV.int IntKind.i64 y8 :: AV.int IntKind.i64 y9 :: Env.sp 76 (AV.bool y10 :: Env.sp 44 []))))
def f4e48 (y0 : Option (Nat × Nat)) (y1 : Nat) (y2 : Option (Nat × Nat)) (y3 : Nat) (y4 : Option Nat) (y5 : Option (Nat × Nat)) (y6 : Nat) (y7 : Option Nat) (y8 : Int) (y9 : Int) : Env := Env.sp 3 (AV.ptr y0 :: AV.ptr (some (y1, (0 : Nat))) :: Env.sp 4 (AV.slice y2 y3 y4 (1 : Nat) :: Env.sp 18 (AV.slice y5 y6 y7 (3 : Nat) :: AV.int IntKind.i64 y8 :: AV.int IntKind.i64 y9 :: Env.sp 121 [])))
def f4e49 (y0 : Option (Nat × Nat)) (y1 : Nat) (y2 : Option (Nat × Nat)) (y3 : Nat) (y4 : Option Nat) (y5 : Option (Nat × Nat)) (y6 : Nat) (y7 : Option Nat) (y8 : Int) (y9 : Int) (y10 : Option (Nat × Nat)) (y11 : Nat) (y12 : Option Nat) (y13 : Int) (y14 : Int) : Env := Env.sp 3 (AV.ptr y0 :: AV.ptr (some (y1, (0 : Nat))) :: Env.sp 4 (AV.slice y2 y3 y4 (1 : Nat) :: Env.sp 18 (AV.slice y5 y6 y7 (3 : Nat) :: AV.int IntKind.i64 y8 :: AV.int IntKind.i64 y9 :: Env.sp 77 (AV.slice y10 y11 y12 (1 : Nat) :: AV.int IntKind.i64 y13 :: AV.int IntKind.i64 y14 :: Env.sp 41 []))))
def f4e50 (y0 : Option (Nat × Nat)) (y1 : Nat) (y2 : Option (Nat × Nat)) (y3 : Nat) (y4 : Option Nat) (y5 : Int) (y6 : Int) (y7 : Option (Nat × Nat)) (y8 : Nat) (y9 : Option Nat) (y10 : Int) (y11 : Int) : Env := Env.sp 3 (AV.ptr y0 :: AV.ptr (some (y1, (0 : Nat))) :: Env.sp 23 (AV.slice y2 y3 y4 (3 : Nat) :: AV.int IntKind.i64 y5 :: AV.int IntKind.i64 y6 :: Env.sp 77 (AV.slice y7 y8 y9 (1 : Nat) :: AV.int IntKind.i64 y10 :: AV.int IntKind.i64 y11 :: Env.sp 41 [])))
def f4e51 (y0 : Option (Nat × Nat)) (y1 : Nat) (y2 : Option (Nat × Nat)) (y3 : Nat) (y4 : Option Nat) (y5 : Int) (y6 : Int) (y7 : Option (Nat × Nat)) (y8 : Nat) (y9 : Option Nat) (y10 : Int) (y11 : Int) (y12 : Bool) : Env := Env.sp 3 (AV.ptr y0 :: AV.ptr (some (y1, (0 : Nat))) :: Env.sp 23 (AV.slice y2 y3 y4 (3 : Nat) :: AV.int IntKind.i64 y5 :: AV.int IntKind.i64 y6 :: Env.sp 77 (AV.slice y7 y8 y9 (1 : Nat) :: AV.int IntKind.i64 y10 :: AV.int IntKind.i64 y11 :: AV.bool y12 :: Env.sp 40 [])))
def f4e52 (y0 : Option (Nat × Nat)) (y1 : Nat) (y2 : Int) (y3 : Option (Nat × Nat)) (y4 : Nat) (y5 : Option Nat) (y6 : Int) (y7 : Int) (y8 : Option (Nat × Nat)) (y9 : Nat) (y10 : Option Nat) (y11 : Int) (y12 : Int) (y13 : Option (Nat × Nat)) (y14 : Int) : Env := Env.sp 3 (AV.ptr y0 :: AV.ptr (some (y1, (0 : Nat))) :: Env.sp 7 (AV.int IntKind.i64 y2 :: Env.sp 15 (AV.slice y3 y4 y5 (3 : Nat) :: AV.int IntKind.i64 y6 :: AV.int IntKind.i64 y7 :: Env.sp 77 (AV.slice y8 y9 y10 (1 : Nat) :: AV.int IntKind.i64 y11 :: AV.int IntKind.i64 y12 :: Env.sp 1 (AV.ptr y13 :: AV.int IntKind.i64 y14 :: Env.sp 38 [])))))
def f4e53 (y0 : Option (Nat × Nat)) (y1 : Nat) (y2 : Int) (y3 : Option (Nat × Nat)) (y4 : Nat) (y5 : Option Nat) (y6 : Int) (y7 : Int) (y8 : Option (Nat × Nat)) (y9 : Nat) (y10 : Option Nat) (y11 : Int) (y12 : Int) : Env := Env.sp 3 (AV.ptr y0 :: AV.ptr (some (y1, (0 : Nat))) :: Env.sp 7 (AV.int IntKind.i64 y2 :: Env.sp 15 (AV.slice y3 y4 y5 (3 : Nat) :: AV.int IntKind.i64 y6 :: AV.int IntKind.i64 y7 :: Env.sp 77 (AV.slice y8 y9 y10 (1 : Nat) :: AV.int IntKind.i64 y11 :: AV.int IntKind.i64 y12 :: Env.sp 41 []))))
def f4e54 (y0 : Option (Nat × Nat)) (y1 : Nat) (y2 : Int) (y3 : Option (Nat × Nat)) (y4 : Nat) (y5 : Option Nat) (y6 : Int) (y7 : Int) (y8 : Option (Nat × Nat)) (y9 : Nat) (y10 : Option Nat) (y11 : Int) (y12 : Int) (y13 : Int) (y14 : Bool) (y15 : Bool) (y16 : Bool) (y17 : Bool) (y18 : Bool) (y19 : Bool) (y20 : Bool) : Env := Env.sp 3 (AV.ptr y0 :: AV.ptr (some (y1, (0 : Nat))) :: Env.sp 7 (AV.int IntKind.i64 y2 :: Env.sp 15 (AV.slice y3 y4 y5 (3 : Nat) :: AV.int IntKind.i64 y6 :: AV.int IntKind.i64 y7 :: Env.sp 77 (AV.slice y8 y9 y10 (1 : Nat) :: AV.int IntKind.i64 y11 :: AV.int IntKind.i64 y12 :: Env.sp 3 (AV.int IntKind.i64 y13 :: AV.bool y14 :: AV.bool y15 :: AV.tuple [] :: AV.tuple [] :: AV.bool y16 :: AV.bool y17 :: AV.tuple [] :: AV.tuple [] :: AV.tuple [] :: AV.tuple [] :: AV.bool y18 :: AV.bool y19 :: AV.tuple [] :: AV.tuple [] :: AV.tuple [] :: AV.tuple [] :: AV.tuple [] :: AV.tuple [] :: AV.bool y20 :: Env.sp 18 [])))))
def f4e55 (y0 : Option (Nat × Nat)) (y1 : Nat) (y2 : Int) (y3 : Option (Nat × Nat)) (y4 : Nat) (y5 : Option Nat) (y6 : Int) (y7 : Int) (y8 : Option (Nat × Nat)) (y9 : Nat) (y10 : Option Nat) (y11 : Int) (y12 : Int) (y13 : Int) (y14 : Bool) (y15 : Bool) (y16 : Int) (y17 : Bool) (y18 : Bool) (y19 : Bool) (y20 : Bool) (y21 : Bool) (y22 : Bool) : Env := Env.sp 3 (AV.ptr y0 :: AV.ptr (some (y1, (0 : Nat))) :: Env.sp 7 (AV.int IntKind.i64 y2 :: Env.sp 15 (AV.slice y3 y4 y5 (3 : Nat) :: AV.int IntKind.i64 y6 :: AV.int IntKind.i64 y7 :: Env.sp 77 (AV.slice y8 y9 y10 (1 : Nat) :: AV.int IntKind.i64 y11 :: AV.int IntKind.i64 y12 :: Env.sp 3 (AV.int IntKind.i64 y13 :: AV.bool y14 :: AV.bool y15 :: AV.int IntKind.i64 y16 :: AV.bool y17 :: AV.bool y18 :: AV.bool y19 :: AV.tuple [] :: AV.tuple [] :: AV.tuple [] :: AV.tuple [] :: AV.bool y20 :: AV.bool y21 :: AV.tuple [] :: AV.tuple [] :: AV.tuple [] :: AV.tuple [] :: AV.tuple [] :: AV.tuple [] :: AV.bool y22 :: Env.sp 18 [])))))
def f4e56 (y0 : Option (Nat × Nat)) (y1 : Nat) (y2 : Int) (y3 : Option (Nat × Nat)) (y4 : Nat) (y5 : Option Nat) (y6 : Int) (y7 : Int) (y8 : Option (Nat × Nat)) (y9 : Nat) (y10 : Option Nat) (y11 : Int) (y12 : Int) (y13 : Int) (y14 : Bool) (y15 : Bool) (y16 : Int) (y17 : Bool) (y18 : Bool) (y19 : Bool) (y20 : Int) (y21 : Option (Nat × Nat)) (y22 : Int) (y23 : Bool) (y24 : Bool) (y25 : Bool) (y26 : Bool) : Env := Env.sp 3 (AV.ptr y0 :: AV.ptr (some (y1, (0 : Nat))) :: Env.sp 7 (AV.int IntKind.i64 y2 :: Env.sp 15 (AV.slice y3 y4 y5 (3 : Nat) :: AV.int IntKind.i64 y6 :: AV.int IntKind.i64 y7 :: Env.sp 77 (AV.slice y8 y9 y10 (1 : Nat) :: AV.int IntKind.i64 y11 :: AV.int IntKind.i64 y12 :: Env.sp 3 (AV.int IntKind.i64 y13 :: AV.bool y14 :: AV.bool y15 :: AV.int IntKind.i64 y16 :: AV.bool y17 :: AV.bool y18 :: AV.bool y19 :: AV.int IntKind.i64 y20 :: AV.ptr y21 :: AV.int IntKind.i64 y22 :: AV.bool y23 :: AV.bool y24 :: AV.bool y25 :: AV.tuple [] :: AV.tuple [] :: AV.tuple [] :: AV.tuple [] :: AV.tuple [] :: AV.tuple [] :: AV.bool y26 :: Env.sp 18 [])))))
def f4e57 (y0 : Option (Nat × Nat)) (y1 : Nat) (y2 : Int) (y3 : Option (Nat × Nat)) (y4 : Nat) (y5 : Option Nat) (y6 : Int) (y7 : Int) (y8 : Option (Nat × Nat)) (y9 : Nat) (y10 : Option Nat) (y11 : Int) (y12 : Int) (y13 : Int) (y14 : Bool) (y15 : Bool) (y16 : Int) (y17 : Bool) (y18 : Bool) (y19 : Bool) (y20 : Int) (y21 : Option (Nat × Nat)) (y22 : Int) (y23 : Bool) (y24 : Bool) (y25 : Bool) (y26 : Int) (y27 : Option (Nat × Nat)) (y28 : Int) (y29 : Option (Nat × Nat)) (y30 : Int) (y31 : Bool) (y32 : Bool) : Env := Env.sp 3 (AV.ptr y0 :: AV.ptr (some (y1, (0 : Nat))) :: Env.sp 7 (AV.int IntKind.i64 y2 :: Env.sp 15 (AV.slice y3 y4 y5 (3 : Nat) :: AV.int IntKind.i64 y6 :: AV.int IntKind.i64 y7 :: Env.sp 77 (AV.slice y8 y9 y10 (1 : Nat) :: AV.int IntKind.i64 y11 :: AV.int IntKind.i64 y12 :: Env.sp 3 (AV.int IntKind.i64 y13 :: AV.bool y14 :: AV.bool y15 :: AV.int IntKind.i64 y16 :: AV.bool y17 :: AV.bool y18 :: AV.bool y19 :: AV.int IntKind.i64 y20 :: AV.ptr y21 :: AV.int IntKind.i64 y22 :: AV.bool y23 :: AV.bool y24 :: AV.bool y25 :: AV.int IntKind.i64 y26 :: AV.ptr y27 :: AV.int IntKind.i64 y28 :: AV.ptr y29 :: AV.int IntKind.i64 y30 :: AV.bool y31 :: AV.bool y32 :: Env.sp 18 [])))))
def f4e58 (y0 : Option (Nat × Nat)) (y1 : Nat) (y2 : Int) (y3 : Option (Nat × Nat)) (y4 : Nat) (y5 : Option Nat) (y6 : Int) (y7 : Int) (y8 : Option (Nat × Nat)) (y9 : Nat) (y10 : Option Nat) (y11 : Int) (y12 : Int) (y13 : Bool) : Env := Env.sp 3 (AV.ptr y0 :: AV.ptr (some (y1, (0 : Nat))) :: Env.sp 7 (AV.int IntKind.i64 y2 :: Env.sp 15 (AV.slice y3 y4 y5 (3 : Nat) :: AV.int IntKind.i64 y6 :: AV.int IntKind.i64 y7 :: Env.sp 77 (AV.slice y8 y9 y10 (1 : Nat) :: AV.int IntKind.i64 y11 :: AV.int IntKind.i64 y12 :: Env.sp 22 (AV.bool y13 :: Env.sp 18 [])))))
def f4e59 (y0 : Bool) (y1 : Option (Nat × Nat)) (y2 : Nat) (y3 : Int) (y4 : Option (Nat × Nat)) (y5 : Nat) (y6 : Option Nat) (y7 : Int) (y8 : Int) (y9 : Option (Nat × Nat)) (y10 : Nat) (y11 : Option Nat) (y12 : Int) (y13 : Int) (y14 : Bool) : Env := Env.sp 2 (AV.bool y0 :: AV.ptr y1 :: AV.ptr (some (y2, (0 : Nat))) :: Env.sp 7 (AV.int IntKind.i64 y3 :: Env.sp 15 (AV.slice y4 y5 y6 (3 : Nat) :: AV.int IntKind.i64 y7 :: AV.int IntKind.i64 y8 :: Env.sp 77 (AV.slice y9 y10 y11 (1 : Nat) :: AV.int IntKind.i64 y12 :: AV.int IntKind.i64 y13 :: Env.sp 22 (AV.bool y14 :: Env.sp 18 [])))))
def f4e60 (y0 : Option (Nat × Nat)) (y1 : Nat) (y2 : Int) (y3 : Option (Nat × Nat)) (y4 : Nat) (y5 : Option Nat) (y6 : Int) (y7 : Int) (y8 : Option (Nat × Nat)) (y9 : Nat) (y10 : Option Nat) (y11 : Int) (y12 : Int) (y13 : Int) (y14 : Option (Nat × Nat)) : Env := Env.sp 3 (AV.ptr y0 :: AV.ptr (some (y1, (0 : Nat))) :: Env.sp 7 (AV.int IntKind.i64 y2 :: Env.sp 15 (AV.slice y3 y4 y5 (3 : Nat) :: AV.int IntKind.i64 y6 :: AV.int IntKind.i64 y7 :: Env.sp 77 (AV.slice y8 y9 y10 (1 : Nat) :: AV.int IntKind.i64 y11 :: AV.int IntKind.i64 y12 :: Env.sp 23 (AV.int IntKind.i64 y13 :: AV.ptr y14 :: Env.sp 16 [])))))
def f4e61 (y0 : Option (Nat × Nat)) (y1 : Nat) (y2 : Option (Nat × Nat)) (y3 : Nat) (y4 : Option Nat) (y5 : Int) (y6 : Int) (y7 : Option (Nat × Nat)) (y8 : Nat) (y9 : Option Nat) (y10 : Int) (y11 : Int) (y12 : Int) : Env := Env.sp 3 (AV.ptr y0 :: AV.ptr (some (y1, (0 : Nat))) :: Env.sp 23 (AV.slice y2 y3 y4 (3 : Nat) :: AV.int IntKind.i64 y5 :: AV.int IntKind.i64 y6 :: Env.sp 77 (AV.slice y7 y8 y9 (1 : Nat) :: AV.int IntKind.i64 y10 :: AV.int IntKind.i64 y11 :: Env.sp 25 (AV.int IntKind.i64 y12 :: Env.sp 15 []))))
def f4e62 (y0 : Option (Nat × Nat)) (y1 : Nat) (y2 : Option (Nat × Nat)) (y3 : Nat) (y4 : Option Nat) (y5 : Int) (y6 : Int) (y7 : Int) (y8 : Int) (y9 : Int) (y10 : Int) (y11 : Int) (y12 : Int) (y13 : Int) (y14 : Int) (y15 : Int) (y16 : Int) (y17 : Int) (y18 : Int) (y19 : Int) (y20 : Int) (y21 : Int) (y22 : Int) (y23 : Int) : Env := Env.sp 3 (AV.ptr y0 :: AV.ptr (some (y1, (0 : Nat))) :: Env.sp 23 (AV.slice y2 y3 y4 (3 : Nat) :: AV.int IntKind.i64 y5 :: AV.int IntKind.i64 y6 :: Env.sp 106 (AV.agg
  [AV.int IntKind.i64 y7, AV.int IntKind.i64 y8, AV.int IntKind.i64 y9, AV.int IntKind.i64 y10, AV.int IntKind.i64 y11, AV.int IntKind.i64 y12,
    AV.int IntKind.i64 y13, AV.int IntKind.i64 y14, AV.int IntKind.i64 y15, AV.int IntKind.i64 y16, AV.int IntKind.i64 y17, AV.int IntKind.i64 y18,
    AV.int IntKind.i64 y19, AV.int IntKind.i64 y20, AV.int IntKind.i64 y21, AV.int IntKind.i64 y22] :: AV.int IntKind.i64 y23 :: Env.sp 13 [])))
def f4e63 (y0 : Option (Nat × Nat)) (y1 : Nat) (y2 : Option (Nat × Nat)) (y3 : Nat) (y4 : Option Nat) (y5 : Int) (y6 : Int) (y7 : Int) (y8 : Int) (y9 : Int) (y10 : Int) (y11 : Int) (y12 : Int) (y13 : Int) (y14 : Int) (y15 : Int) (y16 : Int) (y17 : Int) (y18 : Int) (y19 : Int) (y20 : Int) (y21 : Int) (y22 : Int) (y23 : Int) (y24 : Bool) : Env := Env.sp 3 (AV.ptr y0 :: AV.ptr (some (y1, (0 : Nat))) :: Env.sp 23 (AV.slice y2 y3 y4 (3 : Nat) :: AV.int IntKind.i64 y5 :: AV.int IntKind.i64 y6 :: Env.sp 106 (AV.agg
  [AV.int IntKind.i64 y7, AV.int IntKind.i64 y8, AV.int IntKind.i64 y9, AV.int IntKind.i64 y10, AV.int IntKind.i64 y11, AV.int IntKind.i64 y12,
    AV.int IntKind.i64 y13, AV.int IntKind.i64 y14, AV.int IntKind.i64 y15, AV.int IntKind.i64 y16, AV.int IntKind.i64 y17, AV.int IntKind.i64 y18,
    AV.int IntKind.i64 y19, AV.int IntKind.i64 y20, AV.int IntKind.i64 y21, AV.int IntKind.i64 y22] :: AV.int IntKind.i64 y23 :: AV.bool y24 :: Env.sp 12 [])))
def f4e64 (y0 : Option (Nat × Nat)) (y1 : Nat) (y2 : Int) (y3 : Option (Nat × Nat)) (y4 : Nat) (y5 : Option Nat) (y6 : Int) (y7 : Int) (y8 : Int) (y9 : Int) (y10 : Int) (y11 : Int) (y12 : Int) (y13 : Int) (y14 : Int) (y15 : Int) (y16 : Int) (y17 : Int) (y18 : Int) (y19 : Int) (y20 : Int) (y21 : Int) (y22 : Int) (y23 : Int) (y24 : Int) (y25 : Int) : Env := Env.sp 3 (AV.ptr y0 :: AV.ptr (some (y1, (0 : Nat))) :: Env.sp 9 (AV.int IntKind.i64 y2 :: Env.sp 13 (AV.slice y3 y4 y5 (3 : Nat) :: AV.int IntKind.i64 y6 :: AV.int IntKind.i64 y7 :: Env.sp 106 (AV.agg
  [AV.int IntKind.i64 y8, AV.int IntKind.i64 y9, AV.int IntKind.i64 y10, AV.int IntKind.i64 y11, AV.int IntKind.i64 y12, AV.int IntKind.i64 y13,
    AV.int IntKind.i64 y14, AV.int IntKind.i64 y15, AV.int IntKind.i64 y16, AV.int IntKind.i64 y17, AV.int IntKind.i64 y18, AV.int IntKind.i64 y19,
    AV.int IntKind.i64 y20, AV.int IntKind.i64 y21, AV.int IntKind.i64 y22, AV.int IntKind.i64 y23] :: AV.int IntKind.i64 y24 :: Env.sp 1 (AV.int IntKind.i64 y25 :: Env.sp 11 [])))))
def f4e65 (y0 : Option (Nat × Nat)) (y1 : Nat) (y2 : Int) (y3 : Option (Nat × Nat)) (y4 : Nat) (y5 : Option Nat) (y6 : Int) (y7 : Int) (y8 : Int) (y9 : Int) (y10 : Int) (y11 : Int) (y12 : Int) (y13 : Int) (y14 : Int) (y15 : Int) (y16 : Int) (y17 : Int) (y18 : Int) (y19 : Int) (y20 : Int) (y21 : Int) (y22 : Int) (y23 : Int) (y24 : Int) : Env := Env.sp 3 (AV.ptr y0 :: AV.ptr (some (y1, (0 : Nat))) :: Env.sp 9 (AV.int IntKind.i64 y2 :: Env.sp 13 (AV.slice y3 y4 y5 (3 : Nat) :: AV.int IntKind.i64 y6 :: AV.int IntKind.i64 y7 :: Env.sp 106 (AV.agg
  [AV.int IntKind.i64 y8, AV.int IntKind.i64 y9, AV.int IntKind.i64 y10, AV.int IntKind.i64 y11, AV.int IntKind.i64 y12, AV.int IntKind.i64 y13,
    AV.int IntKind.i64 y14, AV.int IntKind.i64 y15, AV.int IntKind.i64 y16, AV.int IntKind.i64 y17, AV.int IntKind.i64 y18, AV.int IntKind.i64 y19,
    AV.int IntKind.i64 y20, AV.int IntKind.i64 y21, AV.int IntKind.i64 y22, AV.int IntKind.i64 y23] :: AV.int IntKind.i64 y24 :: Env.sp 13 []))))
def f4e66 (y0 : Option (Nat × Nat)) (y1 : Nat) (y2 : Int) (y3 : Option (Nat × Nat)) (y4 : Nat) (y5 : Option Nat) (y6 : Int) (y7 : Int) (y8 : Int) (y9 : Int) (y10 : Int) (y11 : Int) (y12 : Int) (y13 : Int) (y14 : Int) (y15 : Int) (y16 : Int) (y17 : Int) (y18 : Int) (y19 : Int) (y20 : Int) (y21 : Int) (y22 : Int) (y23 : Int) (y24 : Int) (y25 : Int) (y26 : Bool) (y27 : Bool) (y28 : Int) (y29 : Option (Nat × Nat)) (y30 : Int) (y31 : Bool) (y32 : Bool) : Env := Env.sp 3 (AV.ptr y0 :: AV.ptr (some (y1, (0 : Nat))) :: Env.sp 9 (AV.int IntKind.i64 y2 :: Env.sp 13 (AV.slice y3 y4 y5 (3 : Nat) :: AV.int IntKind.i64 y6 :: AV.int IntKind.i64 y7 :: Env.sp 106 (AV.agg
  [AV.int IntKind.i64 y8, AV.int IntKind.i64 y9, AV.int IntKind.i64 y10, AV.int IntKind.i64 y11, AV.int IntKind.i64 y12, AV.int IntKind.i64 y13,
    AV.int IntKind.i64 y14, AV.int IntKind.i64 y15, AV.int IntKind.i64 y16, AV.int IntKind.i64 y17, AV.int IntKind.i64 y18, AV.int IntKind.i64 y19,
    AV.int IntKind.i64 y20, AV.int IntKind.i64 y21, AV.int IntKind.i64 y22, AV.int IntKind.i64 y23] :: AV.int IntKind.i64 y24 :: Env.sp 2 (AV.int IntKind.i64 y25 :: AV.bool y26 :: AV.bool y27 :: AV.int IntKind.i64 y28 :: AV.ptr y29 :: AV.int IntKind.i64 y30 :: AV.bool y31 :: AV.bool y32 :: Env.sp 3 [])))))
def f4e67 (y0 : Option (Nat × Nat)) (y1 : Nat) (y2 : Int) (y3 : Option (Nat × Nat)) (y4 : Nat) (y5 : Option Nat) (y6 : Int) (y7 : Int) (y8 : Int) (y9 : Int) (y10 : Int) (y11 : Int) (y12 : Int) (y13 : Int) (y14 : Int) (y15 : Int) (y16 : Int) (y17 : Int) (y18 : Int) (y19 : Int) (y20 : Int) (y21 : Int) (y22 : Int) (y23 : Int) (y24 : Int) (y25 : Int) (y26 : Bool) (y27 : Bool) (y28 : Bool) : Env := Env.sp 3 (AV.ptr y0 :: AV.ptr (some (y1, (0 : Nat))) :: Env.sp 9 (AV.int IntKind.i64 y2 :: Env.sp 13 (AV.slice y3 y4 y5 (3 : Nat) :: AV.int IntKind.i64 y6 :: AV.int IntKind.i64 y7 :: Env.sp 106 (AV.agg
  [AV.int IntKind.i64 y8, AV.int IntKind.i64 y9, AV.int IntKind.i64 y10, AV.int IntKind.i64 y11, AV.int IntKind.i64 y12, AV.int IntKind.i64 y13,
    AV.int IntKind.i64 y14, AV.int IntKind.i64 y15, AV.int IntKind.i64 y16, AV.int IntKind.i64 y17, AV.int IntKind.i64 y18, AV.int IntKind.i64 y19,
    AV.int IntKind.i64 y20, AV.int IntKind.i64 y21, AV.int IntKind.i64 y22, AV.int IntKind.i64 y23] :: AV.int IntKind.i64 y24 :: Env.sp 2 (AV.int IntKind.i64 y25 :: AV.bool y26 :: AV.bool y27 :: AV.tuple [] :: AV.tuple [] :: AV.tuple [] :: AV.tuple [] :: AV.bool y28 :: Env.sp 3 [])))))
def f4e68 (y0 : Option (Nat × Nat)) (y1 : Nat) (y2 : Option (Nat × Nat)) (y3 : Nat) (y4 : Option Nat) (y5 : Int) (y6 : Int) (y7 : Int) (y8 : Int) (y9 : Int) (y10 : Int) (y11 : Int) (y12 : Int) (y13 : Int) (y14 : Int) (y15 : Int) (y16 : Int) (y17 : Int) (y18 : Int) (y19 : Int) (y20 : Int) (y21 : Int) (y22 : Int) (y23 : Int) (y24 : Bool) : Env := Env.sp 3 (AV.ptr y0 :: AV.ptr (some (y1, (0 : Nat))) :: Env.sp 23 (AV.slice y2 y3 y4 (3 : Nat) :: AV.int IntKind.i64 y5 :: AV.int IntKind.i64 y6 :: Env.sp 106 (AV.agg
  [AV.int IntKind.i64 y7, AV.int IntKind.i64 y8, AV.int IntKind.i64 y9, AV.int IntKind.i64 y10, AV.int IntKind.i64 y11, AV.int IntKind.i64 y12,
    AV.int IntKind.i64 y13, AV.int IntKind.i64 y14, AV.int IntKind.i64 y15, AV.int IntKind.i64 y16, AV.int IntKind.i64 y17, AV.int IntKind.i64 y18,
    AV.int IntKind.i64 y19, AV.int IntKind.i64 y20, AV.int IntKind.i64 y21, AV.int IntKind.i64 y22] :: AV.int IntKind.i64 y23 :: Env.sp 9 (AV.bool y24 :: Env.sp 3 []))))
def f4e69 (y0 : Bool) (y1 : Option (Nat × Nat)) (y2 : Nat) (y3 : Option (Nat × Nat)) (y4 : Nat) (y5 : Option Nat) (y6 : Int) (y7 : Int) (y8 : Int) (y9 : Int) (y10 : Int) (y11 : Int) (y12 : Int) (y13 : Int) (y14 : Int) (y15 : Int) (y16 : Int) (y17 : Int) (y18 : Int) (y19 : Int) (y20 : Int) (y21 : Int) (y22 : Int) (y23 : Int) (y24 : Int) (y25 : Bool) : Env := Env.sp 2 (AV.bool y0 :: AV.ptr y1 :: AV.ptr (some (y2, (0 : Nat))) :: Env.sp 23 (AV.slice y3 y4 y5 (3 : Nat) :: AV.int IntKind.i64 y6 :: AV.int IntKind.i64 y7 :: Env.sp 106 (AV.agg
  [AV.int IntKind.i64 y8, AV.int IntKind.i64 y9, AV.int IntKind.i64 y10, AV.int IntKind.i64 y11, AV.int IntKind.i64 y12, AV.int IntKind.i64 y13,
    AV.int IntKind.i64 y14, AV.int IntKind.i64 y15, AV.int IntKind.i64 y16, AV.int IntKind.i64 y17, AV.int IntKind.i64 y18, AV.int IntKind.i64 y19,
    AV.int IntKind.i64 y20, AV.int IntKind.i64 y21, AV.int IntKind.i64 y22, AV.int IntKind.i64 y23] :: AV.int IntKind.i64 y24 :: Env.sp 9 (AV.bool y25 :: Env.sp 3 []))))
def f4e70 (y0 : Option (Nat × Nat)) (y1 : Nat) (y2 : Option (Nat × Nat)) (y3 : Nat) (y4 : Option Nat) (y5 : Int) (y6 : Int) (y7 : Int) (y8 : Int) (y9 : Int) (y10 : Int) (y11 : Int) (y12 : Int) (y13 : Int) (y14 : Int) (y15 : Int) (y16 : Int) (y17 : Int) (y18 : Int) (y19 : Int) (y20 : Int) (y21 : Int) (y22 : Int) (y23 : Int) (y24 : Int) : Env := Env.sp 3 (AV.ptr y0 :: AV.ptr (some (y1, (0 : Nat))) :: Env.sp 23 (AV.slice y2 y3 y4 (3 : Nat) :: AV.int IntKind.i64 y5 :: AV.int IntKind.i64 y6 :: Env.sp 106 (AV.agg
  [AV.int IntKind.i64 y7, AV.int IntKind.i64 y8, AV.int IntKind.i64 y9, AV.int IntKind.i64 y10, AV.int IntKind.i64 y11, AV.int IntKind.i64 y12,
    AV.int IntKind.i64 y13, AV.int IntKind.i64 y14, AV.int IntKind.i64 y15, AV.int IntKind.i64 y16, AV.int IntKind.i64 y17, AV.int IntKind.i64 y18,
    AV.int IntKind.i64 y19, AV.int IntKind.i64 y20, AV.int IntKind.i64 y21, AV.int IntKind.i64 y22] :: AV.int IntKind.i64 y23 :: Env.sp 10 (AV.int IntKind.i64 y24 :: Env.sp 2 []))))
def f4e71 (y0 : Option (Nat × Nat)) (y1 : Nat) (y2 : Option (Nat × Nat)) (y3 : Nat) (y4 : Option Nat) (y5 : Int) (y6 : Int) (y7 : Int) : Env := Env.sp 3 (AV.ptr y0 :: AV.ptr (some (y1, (0 : Nat))) :: Env.sp 23 (AV.slice y2 y3 y4 (3 : Nat) :: AV.int IntKind.i64 y5 :: AV.int IntKind.i64 y6 :: Env.sp 119 (AV.int IntKind.i64 y7 :: Env.sp 1 [])))
def f4e72 (y0 : Bool) (y1 : Bool) : Env := Env.sp 2 (AV.bool y0 :: Env.sp 148 (AV.bool y1 :: []))

/- function 4 -/
theorem f4_eq {R : Type} (call : Bool → CallF R) (dem : Bool) (N : Nat) (y0 : Option (Nat × Nat)) (y1 : Nat) (y2 : Option Nat) (σ : St) (K : AV → St → Option R) :
    bodyK Try.prog call dem N ann 4 [AV.slice y0 y1 y2 (3 : Nat)] σ K = runK Try.prog call dem N f4c0 f4a0 (bodyC Try.prog f4rs K) (f4e0 y0 y1 y2) σ := bodyK_of (fn := ((Try.prog.funcs[4]?).get rfl)) (by kernel_rfl) (by kernel_rfl) (by kernel_rfl) (by kernel_rfl) (by kernel_rfl) (by kernel_rfl)
theorem f4n0 {R : Type} (call : Bool → CallF R) (dem : Bool) (N : Nat) (J : KF R) (e : Env) (σ : St) : runK Try.prog call dem N f4c0 f4a0 J e σ = runK Try.prog call dem N f4c1 f4a1 (seqC (fun K e σ => runK Try.prog call dem N f4c2 f4a2 K e σ) f4a0 J) e σ := runK_seq' (by kernel_rfl) (by kernel_rfl) (by kernel_rfl)
theorem f4r1_f4e0 {R : Type} (call : Bool → CallF R) (dem : Bool) (N : Nat) (y0 : Option (Nat × Nat)) (y1 : Nat) (y2 : Option Nat) (J : KF R) (σ : St) :
    runK Try.prog call dem N f4c1 f4a1 J (f4e0 y0 y1 y2) σ =
J Ex.normal (f4e1 y0 y1 y2 false) σ := hide (by kernel_rfl)
theorem f4z0_f4e1 (y0 : Option (Nat × Nat)) (y1 : Nat) (y2 : Option Nat) (y3 : Bool) : Ann.clr f4a0 (f4e1 y0 y1 y2 y3) = f4e0 y0 y1 y2 := hide (by kernel_rfl)
theorem f4n2 {R : Type} (call : Bool → CallF R) (dem : Bool) (N : Nat) (J : KF R) (e : Env) (σ : St) : runK Try.prog call dem N f4c2 f4a2 J e σ = runK Try.prog call dem N f4c3 f4a3 (seqC (fun K e σ => runK Try.prog call dem N f4c4 f4a4 K e σ) f4a2 J) e σ := runK_seq' (by kernel_rfl) (by kernel_rfl) (by kernel_rfl)
theorem f4r3_f4e0 {R : Type} (call : Bool → CallF R) (dem : Bool) (N : Nat) (y0 : Option (Nat × Nat)) (y1 : Nat) (y2 : Option Nat) (J : KF R) (σ : St) :
    runK Try.prog call dem N f4c3 f4a3 J (f4e0 y0 y1 y2) σ =
call dem (7 : Nat) [] σ fun v0 v1 => Option.bind (AV.toPtr v0) fun v2 => J Ex.normal (f4e2 y0 y1 y2 v2 v2) v1 := hide (by kernel_rfl)
theorem f4z2_f4e2 (y0 : Option (Nat × Nat)) (y1 : Nat) (y2 : Option Nat) (y3 : Option (Nat × Nat)) (y4 : Option (Nat × Nat)) : Ann.clr f4a2 (f4e2 y0 y1 y2 y3 y4) = f4e3 y0 y1 y2 y3 := hide (by kernel_rfl)
theorem f4n4 {R : Type} (call : Bool → CallF R) (dem : Bool) (N : Nat) (J : KF R) (e : Env) (σ : St) : runK Try.prog call dem N f4c4 f4a4 J e σ = runK Try.prog call dem N f4c5 f4a5 (seqC (fun K e σ => runK Try.prog call dem N f4c6 f4a6 K e σ) f4a4 J) e σ := runK_seq' (by kernel_rfl) (by kernel_rfl) (by kernel_rfl)
theorem f4n5 {R : Type} (call : Bool → CallF R) (dem : Bool) (N : Nat) (J : KF R) (e : Env) (σ : St) : runK Try.prog call dem N f4c5 f4a5 J e σ = runK Try.prog call dem N f4c7 f4a7 (seqC (fun K e σ => runK Try.prog call dem N f4c8 f4a8 K e σ) f4a5 J) e σ := runK_seq' (by kernel_rfl) (by kernel_rfl) (by kernel_rfl)
theorem f4r7_f4e3 {R : Type} (call : Bool → CallF R) (dem : Bool) (N : Nat) (y0 : Option (Nat × Nat)) (y1 : Nat) (y2 : Option Nat) (y3 : Option (Nat × Nat)) (J : KF R) (σ : St) :
    runK Try.prog call dem N f4c7 f4a7 J (f4e3 y0 y1 y2 y3) σ =
if Option.isNone y3 = true then J Ex.normal (f4e4 y0 y1 y2 y3 y3 (Option.isNone y3) true true) σ
else
  J Ex.normal
    (f4e5 y0 y1 y2 y3 y3 (Option.isNone y3) false y0 y1 y2 (↑y1 : Int) (decide ((↑y1 : Int) > (300 : Int))) (decide ((↑y1 : Int) > (300 : Int)))) σ := hide (by kernel_rfl)
theorem f4z5_f4e4 (y0 : Option (Nat × Nat)) (y1 : Nat) (y2 : Option Nat) (y3 : Option (Nat × Nat)) (y4 : Option (Nat × Nat)) (y5 : Bool) (y6 : Bool) (y7 : Bool) : Ann.clr f4a5 (f4e4 y0 y1 y2 y3 y4 y5 y6 y7) = f4e6 y0 y1 y2 y3 y7 := hide (by kernel_rfl)
theorem f4x8_f4e6 {R : Type} (call : Bool → CallF R) (dem : Bool) (N : Nat) (y0 : Option (Nat × Nat)) (y1 : Nat) (y2 : Option Nat) (y3 : Option (Nat × Nat)) (y4 : Bool) (J : KF R) (σ : St) : runK Try.prog call dem N f4c8 f4a8 J (f4e6 y0 y1 y2 y3 y4) σ = if y4 = true then runK Try.prog call dem N f4c9 f4a9 (condC f4a8 J) (f4e6 y0 y1 y2 y3 y4) σ else runK Try.prog call dem N f4c10 f4a10 (condC f4a8 J) (f4e6 y0 y1 y2 y3 y4) σ := runK_cond' (o := Operand.tmp (22 : Nat)) (by kernel_rfl) (by kernel_rfl) (by kernel_rfl) (by kernel_rfl)
theorem f4n9 {R : Type} (call : Bool → CallF R) (dem : Bool) (N : Nat) (J : KF R) (e : Env) (σ : St) : runK Try.prog call dem N f4c9 f4a9 J e σ = runK Try.prog call dem N f4c11 f4a11 (seqC (fun K e σ => runK Try.prog call dem N f4c12 f4a12 K e σ) f4a9 J) e σ := runK_seq' (by kernel_rfl) (by kernel_rfl) (by kernel_rfl)
theorem f4r11_f4e6 {R : Type} (call : Bool → CallF R) (dem : Bool) (N : Nat) (y0 : Option (Nat × Nat)) (y1 : Nat) (y2 : Option Nat) (y3 : Option (Nat × Nat)) (y4 : Bool) (J : KF R) (σ : St) :
    runK Try.prog call dem N f4c11 f4a11 J (f4e6 y0 y1 y2 y3 y4) σ =
if (!Option.isNone y3) = true then
  call dem (8 : Nat) [] σ fun v0 v1 => Option.bind (AV.toBool v0) fun v2 => J Ex.normal (f4e7 y0 y1 y2 v2 y3 y4 y3 (!Option.isNone y3) true v2 v2) v1
else J Ex.normal (f4e8 y0 y1 y2 false y3 y4 y3 (!Option.isNone y3) false false) σ := hide (by kernel_rfl)
theorem f4z9_f4e7 (y0 : Option (Nat × Nat)) (y1 : Nat) (y2 : Option Nat) (y3 : Bool) (y4 : Option (Nat × Nat)) (y5 : Bool) (y6 : Option (Nat × Nat)) (y7 : Bool) (y8 : Bool) (y9 : Bool) (y10 : Bool) : Ann.clr f4a9 (f4e7 y0 y1 y2 y3 y4 y5 y6 y7 y8 y9 y10) = f4e9 y3 := hide (by kernel_rfl)
theorem f4y12_f4e9 {R : Type} (call : Bool → CallF R) (dem : Bool) (N : Nat) (y0 : Bool) (J : KF R) (σ : St) : runK Try.prog call dem N f4c12 f4a12 J (f4e9 y0) σ = J .ret (f4e9 y0) σ := runK_ret' (by kernel_rfl) (by kernel_rfl)
theorem f4z9_f4e8 (y0 : Option (Nat × Nat)) (y1 : Nat) (y2 : Option Nat) (y3 : Bool) (y4 : Option (Nat × Nat)) (y5 : Bool) (y6 : Option (Nat × Nat)) (y7 : Bool) (y8 : Bool) (y9 : Bool) : Ann.clr f4a9 (f4e8 y0 y1 y2 y3 y4 y5 y6 y7 y8 y9) = f4e9 y3 := hide (by kernel_rfl)
theorem f4n10 {R : Type} (call : Bool → CallF R) (dem : Bool) (N : Nat) (J : KF R) (e : Env) (σ : St) : runK Try.prog call dem N f4c10 f4a10 J e σ = J .normal e σ := runK_skip' (by kernel_rfl)
theorem f4z8_f4e6 (y0 : Option (Nat × Nat)) (y1 : Nat) (y2 : Option Nat) (y3 : Option (Nat × Nat)) (y4 : Bool) : Ann.clr f4a8 (f4e6 y0 y1 y2 y3 y4) = f4e3 y0 y1 y2 y3 := hide (by kernel_rfl)
theorem f4z5_f4e5 (y0 : Option (Nat × Nat)) (y1 : Nat) (y2 : Option Nat) (y3 : Option (Nat × Nat)) (y4 : Option (Nat × Nat)) (y5 : Bool) (y6 : Bool) (y7 : Option (Nat × Nat)) (y8 : Nat) (y9 : Option Nat) (y10 : Int) (y11 : Bool) (y12 : Bool) : Ann.clr f4a5 (f4e5 y0 y1 y2 y3 y4 y5 y6 y7 y8 y9 y10 y11 y12) = f4e6 y0 y1 y2 y3 y12 := hide (by kernel_rfl)
theorem f4z4_f4e3 (y0 : Option (Nat × Nat)) (y1 : Nat) (y2 : Option Nat) (y3 : Option (Nat × Nat)) : Ann.clr f4a4 (f4e3 y0 y1 y2 y3) = f4e3 y0 y1 y2 y3 := hide (by kernel_rfl)
theorem f4n6 {R : Type} (call : Bool → CallF R) (dem : Bool) (N : Nat) (J : KF R) (e : Env) (σ : St) : runK Try.prog call dem N f4c6 f4a6 J e σ = runK Try.prog call dem N f4c13 f4a13 (seqC (fun K e σ => runK Try.prog call dem N f4c14 f4a14 K e σ) f4a6 J) e σ := runK_seq' (by kernel_rfl) (by kernel_rfl) (by kernel_rfl)
theorem f4r13_f4e3 {R : Type} (call : Bool → CallF R) (dem : Bool) (N : Nat) (y0 : Option (Nat × Nat)) (y1 : Nat) (y2 : Option Nat) (y3 : Option (Nat × Nat)) (J : KF R) (σ : St) :
    runK Try.prog call dem N f4c13 f4a13 J (f4e3 y0 y1 y2 y3) σ =
J Ex.normal (f4e10 y0 y1 y2 y3 (St.next σ))
  (St.new σ
    (Blk.cells
      [AV.int IntKind.i64 (0 : Int), AV.int IntKind.i64 (0 : Int), AV.int IntKind.i64 (0 : Int), AV.int IntKind.i64 (0 : Int),
        AV.int IntKind.i64 (0 : Int), AV.int IntKind.i64 (0 : Int), AV.int IntKind.i64 (0 : Int), AV.int IntKind.i64 (0 : Int),
        AV.int IntKind.i64 (0 : Int), AV.int IntKind.i64 (0 : Int), AV.int IntKind.i64 (0 : Int), AV.int IntKind.i64 (0 : Int),
        AV.int IntKind.i64 (0 : Int), AV.int IntKind.i64 (0 : Int), AV.int IntKind.i64 (0 : Int), AV.int IntKind.i64 (0 : Int)]
      true)) := hide (by kernel_rfl)
theorem f4z6_f4e10 (y0 : Option (Nat × Nat)) (y1 : Nat) (y2 : Option Nat) (y3 : Option (Nat × Nat)) (y4 : Nat) : Ann.clr f4a6 (f4e10 y0 y1 y2 y3 y4) = f4e10 y0 y1 y2 y3 y4 := hide (by kernel_rfl)
theorem f4n14 {R : Type} (call : Bool → CallF R) (dem : Bool) (N : Nat) (J : KF R) (e : Env) (σ : St) : runK Try.prog call dem N f4c14 f4a14 J e σ = runK Try.prog call dem N f4c15 f4a15 (seqC (fun K e σ => runK Try.prog call dem N f4c16 f4a16 K e σ) f4a14 J) e σ := runK_seq' (by kernel_rfl) (by kernel_rfl) (by kernel_rfl)
theorem f4n15 {R : Type} (call : Bool → CallF R) (dem : Bool) (N : Nat) (J : KF R) (e : Env) (σ : St) : runK Try.prog call dem N f4c15 f4a15 J e σ = runK Try.prog call dem N f4c17 f4a17 (seqC (fun K e σ => runK Try.prog call dem N f4c18 f4a18 K e σ) f4a15 J) e σ := runK_seq' (by kernel_rfl) (by kernel_rfl) (by kernel_rfl)
theorem f4r17_f4e10 {R : Type} (call : Bool → CallF R) (dem : Bool) (N : Nat) (y0 : Option (Nat × Nat)) (y1 : Nat) (y2 : Option Nat) (y3 : Option (Nat × Nat)) (y4 : Nat) (J : KF R) (σ : St) :
    runK Try.prog call dem N f4c17 f4a17 J (f4e10 y0 y1 y2 y3 y4) σ =
J Ex.normal (f4e11 y0 y1 y2 y3 y4 y0 y1 y2 (↑y1 : Int) (0 : Int)) σ := hide (by kernel_rfl)
theorem f4z15_f4e11 (y0 : Option (Nat × Nat)) (y1 : Nat) (y2 : Option Nat) (y3 : Option (Nat × Nat)) (y4 : Nat) (y5 : Option (Nat × Nat)) (y6 : Nat) (y7 : Option Nat) (y8 : Int) (y9 : Int) : Ann.clr f4a15 (f4e11 y0 y1 y2 y3 y4 y5 y6 y7 y8 y9) = f4e12 y3 y4 y5 y6 y7 y8 y9 := hide (by kernel_rfl)
theorem f4n18 {R : Type} (call : Bool → CallF R) (dem : Bool) (N : Nat) (J : KF R) (e : Env) (σ : St) : runK Try.prog call dem N f4c18 f4a18 J e σ = runK Try.prog call dem N f4c19 f4a19 (blockC 0 f4a18 J) e σ := runK_block' (by kernel_rfl) (by kernel_rfl)
theorem f4L19_eq {R : Type} (call : Bool → CallF R) (dem : Bool) (N : Nat) (J : KF R) (e : Env) (σ : St) : f4L19 call dem N J e σ = runK Try.prog call dem N f4c20 f4a20 J e σ := hide rfl
theorem f4z19_f4e12 (y0 : Option (Nat × Nat)) (y1 : Nat) (y2 : Option (Nat × Nat)) (y3 : Nat) (y4 : Option Nat) (y5 : Int) (y6 : Int) : Ann.clr f4a19 (f4e12 y0 y1 y2 y3 y4 y5 y6) = f4e12 y0 y1 y2 y3 y4 y5 y6 := hide (by kernel_rfl)
theorem f4l19_f4e12 {R : Type} (call : Bool → CallF R) (dem : Bool) (N : Nat) (y0 : Option (Nat × Nat)) (y1 : Nat) (y2 : Option (Nat × Nat)) (y3 : Nat) (y4 : Option Nat) (y5 : Int) (y6 : Int) (J : KF R) (σ : St) : runK Try.prog call dem N f4c19 f4a19 J (f4e12 y0 y1 y2 y3 y4 y5 y6) σ = loopK (f4L19 call dem N) f4a19 N J (f4e12 y0 y1 y2 y3 y4 y5 y6) σ := runK_loop' (by kernel_rfl) (by kernel_rfl) (by kernel_rfl)
theorem f4n20 {R : Type} (call : Bool → CallF R) (dem : Bool) (N : Nat) (J : KF R) (e : Env) (σ : St) : runK Try.prog call dem N f4c20 f4a20 J e σ = runK Try.prog call dem N f4c21 f4a21 (seqC (fun K e σ => runK Try.prog call dem N f4c22 f4a22 K e σ) f4a20 J) e σ := runK_seq' (by kernel_rfl) (by kernel_rfl) (by kernel_rfl)
theorem f4r21_f4e12 {R : Type} (call : Bool → CallF R) (dem : Bool) (N : Nat) (y0 : Option (Nat × Nat)) (y1 : Nat) (y2 : Option (Nat × Nat)) (y3 : Nat) (y4 : Option Nat) (y5 : Int) (y6 : Int) (J : KF R) (σ : St) :
    runK Try.prog call dem N f4c21 f4a21 J (f4e12 y0 y1 y2 y3 y4 y5 y6) σ =
J Ex.normal (f4e13 y0 y1 y2 y3 y4 y5 y6 (decide (y6 < y5))) σ := hide (by kernel_rfl)
theorem f4z20_f4e13 (y0 : Option (Nat × Nat)) (y1 : Nat) (y2 : Option (Nat × Nat)) (y3 : Nat) (y4 : Option Nat) (y5 : Int) (y6 : Int) (y7 : Bool) : Ann.clr f4a20 (f4e13 y0 y1 y2 y3 y4 y5 y6 y7) = f4e13 y0 y1 y2 y3 y4 y5 y6 y7 := hide (by kernel_rfl)
theorem f4n22 {R : Type} (call : Bool → CallF R) (dem : Bool) (N : Nat) (J : KF R) (e : Env) (σ : St) : runK Try.prog call dem N f4c22 f4a22 J e σ = runK Try.prog call dem N f4c23 f4a23 (seqC (fun K e σ => runK Try.prog call dem N f4c24 f4a24 K e σ) f4a22 J) e σ := runK_seq' (by kernel_rfl) (by kernel_rfl) (by kernel_rfl)
theorem f4x23_f4e13 {R : Type} (call : Bool → CallF R) (dem : Bool) (N : Nat) (y0 : Option (Nat × Nat)) (y1 : Nat) (y2 : Option (Nat × Nat)) (y3 : Nat) (y4 : Option Nat) (y5 : Int) (y6 : Int) (y7 : Bool) (J : KF R) (σ : St) : runK Try.prog call dem N f4c23 f4a23 J (f4e13 y0 y1 y2 y3 y4 y5 y6 y7) σ = if y7 = true then runK Try.prog call dem N f4c25 f4a25 (condC f4a23 J) (f4e13 y0 y1 y2 y3 y4 y5 y6 y7) σ else runK Try.prog call dem N f4c26 f4a26 (condC f4a23 J) (f4e13 y0 y1 y2 y3 y4 y5 y6 y7) σ := runK_cond' (o := Operand.tmp (31 : Nat)) (by kernel_rfl) (by kernel_rfl) (by kernel_rfl) (by kernel_rfl)
theorem f4n25 {R : Type} (call : Bool → CallF R) (dem : Bool) (N : Nat) (J : KF R) (e : Env) (σ : St) : runK Try.prog call dem N f4c25 f4a25 J e σ = J .normal e σ := runK_skip' (by kernel_rfl)
theorem f4z23_f4e13 (y0 : Option (Nat × Nat)) (y1 : Nat) (y2 : Option (Nat × Nat)) (y3 : Nat) (y4 : Option Nat) (y5 : Int) (y6 : Int) (y7 : Bool) : Ann.clr f4a23 (f4e13 y0 y1 y2 y3 y4 y5 y6 y7) = f4e12 y0 y1 y2 y3 y4 y5 y6 := hide (by kernel_rfl)
theorem f4y26_f4e13 {R : Type} (call : Bool → CallF R) (dem : Bool) (N : Nat) (y0 : Option (Nat × Nat)) (y1 : Nat) (y2 : Option (Nat × Nat)) (y3 : Nat) (y4 : Option Nat) (y5 : Int) (y6 : Int) (y7 : Bool) (J : KF R) (σ : St) : runK Try.prog call dem N f4c26 f4a26 J (f4e13 y0 y1 y2 y3 y4 y5 y6 y7) σ = J (.exit 0) (f4e14) σ := runK_exit' (by kernel_rfl) (by kernel_rfl)
theorem f4z22_f4e12 (y0 : Option (Nat × Nat)) (y1 : Nat) (y2 : Option (Nat × Nat)) (y3 : Nat) (y4 : Option Nat) (y5 : Int) (y6 : Int) : Ann.clr f4a22 (f4e12 y0 y1 y2 y3 y4 y5 y6) = f4e12 y0 y1 y2 y3 y4 y5 y6 := hide (by kernel_rfl)
theorem f4n24 {R : Type} (call : Bool → CallF R) (dem : Bool) (N : Nat) (J : KF R) (e : Env) (σ : St) : runK Try.prog call dem N f4c24 f4a24 J e σ = runK Try.prog call dem N f4c27 f4a27 (seqC (fun K e σ => runK Try.prog call dem N f4c28 f4a28 K e σ) f4a24 J) e σ := runK_seq' (by kernel_rfl) (by kernel_rfl) (by kernel_rfl)
theorem f4n27 {R : Type} (call : Bool → CallF R) (dem : Bool) (N : Nat) (J : KF R) (e : Env) (σ : St) : runK Try.prog call dem N f4c27 f4a27 J e σ = runK Try.prog call dem N f4c29 f4a29 (blockC 1 f4a27 J) e σ := runK_block' (by kernel_rfl) (by kernel_rfl)
theorem f4n29 {R : Type} (call : Bool → CallF R) (dem : Bool) (N : Nat) (J : KF R) (e : Env) (σ : St) : runK Try.prog call dem N f4c29 f4a29 J e σ = runK Try.prog call dem N f4c30 f4a30 (seqC (fun K e σ => runK Try.prog call dem N f4c31 f4a31 K e σ) f4a29 J) e σ := runK_seq' (by kernel_rfl) (by kernel_rfl) (by kernel_rfl)
theorem f4r30_f4e12 {R : Type} (call : Bool → CallF R) (dem : Bool) (N : Nat) (y0 : Option (Nat × Nat)) (y1 : Nat) (y2 : Option (Nat × Nat)) (y3 : Nat) (y4 : Option Nat) (y5 : Int) (y6 : Int) (J : KF R) (σ : St) :
    runK Try.prog call dem N f4c30 f4a30 J (f4e12 y0 y1 y2 y3 y4 y5 y6) σ =
if (0 : Int) ≤ y6 ∧ y6 < (↑y3 : Int) then
  Option.bind y2 fun v0 =>
    Option.bind (St.ld σ (Prod.fst v0) (Prod.snd v0 + Int.toNat y6 * (3 : Nat))) fun v1 =>
      Option.bind (AV.toInt IntKind.i64 v1) fun v2 =>
        Option.bind (St.ld σ (Prod.fst v0) (Prod.snd v0 + Int.toNat y6 * (3 : Nat) + (1 : Nat))) fun v3 =>
          Option.bind (AV.toInt IntKind.i64 v3) fun v4 =>
            Option.bind (St.ld σ (Prod.fst v0) (Prod.snd v0 + Int.toNat y6 * (3 : Nat) + (2 : Nat))) fun v5 =>
              Option.bind (AV.toInt IntKind.i64 v5) fun v6 =>
                Option.bind
                  (St.st (St.new σ (Blk.cells [AV.int IntKind.i64 (0 : Int), AV.int IntKind.i64 (0 : Int), AV.int IntKind.i64 (0 : Int)] true))
                    (St.next σ) (0 : Nat) [AV.int IntKind.i64 v2, AV.int IntKind.i64 v4, AV.int IntKind.i64 v6])
                  fun v7 =>
                  J Ex.normal (f4e15 y0 y1 (St.next σ) y2 y3 y4 y5 y6 (some (Prod.fst v0, Prod.snd v0 + Int.toNat y6 * (3 : Nat))) v2 v4 v6) v7
else none := hide (by kernel_rfl)
theorem f4z29_f4e15 (y0 : Option (Nat × Nat)) (y1 : Nat) (y2 : Nat) (y3 : Option (Nat × Nat)) (y4 : Nat) (y5 : Option Nat) (y6 : Int) (y7 : Int) (y8 : Option (Nat × Nat)) (y9 : Int) (y10 : Int) (y11 : Int) : Ann.clr f4a29 (f4e15 y0 y1 y2 y3 y4 y5 y6 y7 y8 y9 y10 y11) = f4e16 y0 y1 y2 y3 y4 y5 y6 y7 := hide (by kernel_rfl)
theorem f4n31 {R : Type} (call : Bool → CallF R) (dem : Bool) (N : Nat) (J : KF R) (e : Env) (σ : St) : runK Try.prog call dem N f4c31 f4a31 J e σ = runK Try.prog call dem N f4c32 f4a32 (seqC (fun K e σ => runK Try.prog call dem N f4c33 f4a33 K e σ) f4a31 J) e σ := runK_seq' (by kernel_rfl) (by kernel_rfl) (by kernel_rfl)
theorem f4n32 {R : Type} (call : Bool → CallF R) (dem : Bool) (N : Nat) (J : KF R) (e : Env) (σ : St) : runK Try.prog call dem N f4c32 f4a32 J e σ = runK Try.prog call dem N f4c34 f4a34 (seqC (fun K e σ => runK Try.prog call dem N f4c35 f4a35 K e σ) f4a32 J) e σ := runK_seq' (by kernel_rfl) (by kernel_rfl) (by kernel_rfl)
theorem f4r34_f4e16 {R : Type} (call : Bool → CallF R) (dem : Bool) (N : Nat) (y0 : Option (Nat × Nat)) (y1 : Nat) (y2 : Nat) (y3 : Option (Nat × Nat)) (y4 : Nat) (y5 : Option Nat) (y6 : Int) (y7 : Int) (J : KF R) (σ : St) :
    runK Try.prog call dem N f4c34 f4a34 J (f4e16 y0 y1 y2 y3 y4 y5 y6 y7) σ =
Option.bind (St.ld σ y2 (1 : Nat)) fun v0 =>
  Option.bind (AV.toInt IntKind.i64 v0) fun v1 =>
    if decide (v1 < (0 : Int)) = true then J Ex.normal (f4e17 y0 y1 y2 y3 y4 y5 y6 y7 y2 v1 (decide (v1 < (0 : Int))) true true) σ
    else
      Option.bind (St.ld σ y2 (1 : Nat)) fun v2 =>
        Option.bind (AV.toInt IntKind.i64 v2) fun v3 =>
          J Ex.normal
            (f4e18 y0 y1 y2 y3 y4 y5 y6 y7 y2 v1 (decide (v1 < (0 : Int))) false y2 v3 (decide (v3 > (15 : Int))) (decide (v3 > (15 : Int)))) σ := hide (by kernel_rfl)
theorem f4z32_f4e17 (y0 : Option (Nat × Nat)) (y1 : Nat) (y2 : Nat) (y3 : Option (Nat × Nat)) (y4 : Nat) (y5 : Option Nat) (y6 : Int) (y7 : Int) (y8 : Nat) (y9 : Int) (y10 : Bool) (y11 : Bool) (y12 : Bool) : Ann.clr f4a32 (f4e17 y0 y1 y2 y3 y4 y5 y6 y7 y8 y9 y10 y11 y12) = f4e19 y0 y1 y2 y3 y4 y5 y6 y7 y12 := hide (by kernel_rfl)
theorem f4x35_f4e19 {R : Type} (call : Bool → CallF R) (dem : Bool) (N : Nat) (y0 : Option (Nat × Nat)) (y1 : Nat) (y2 : Nat) (y3 : Option (Nat × Nat)) (y4 : Nat) (y5 : Option Nat) (y6 : Int) (y7 : Int) (y8 : Bool) (J : KF R) (σ : St) : runK Try.prog call dem N f4c35 f4a35 J (f4e19 y0 y1 y2 y3 y4 y5 y6 y7 y8) σ = if y8 = true then runK Try.prog call dem N f4c36 f4a36 (condC f4a35 J) (f4e19 y0 y1 y2 y3 y4 y5 y6 y7 y8) σ else runK Try.prog call dem N f4c37 f4a37 (condC f4a35 J) (f4e19 y0 y1 y2 y3 y4 y5 y6 y7 y8) σ := runK_cond' (o := Operand.tmp (41 : Nat)) (by kernel_rfl) (by kernel_rfl) (by kernel_rfl) (by kernel_rfl)
theorem f4y36_f4e19 {R : Type} (call : Bool → CallF R) (dem : Bool) (N : Nat) (y0 : Option (Nat × Nat)) (y1 : Nat) (y2 : Nat) (y3 : Option (Nat × Nat)) (y4 : Nat) (y5 : Option Nat) (y6 : Int) (y7 : Int) (y8 : Bool) (J : KF R) (σ : St) : runK Try.prog call dem N f4c36 f4a36 J (f4e19 y0 y1 y2 y3 y4 y5 y6 y7 y8) σ = J (.exit 1) (f4e12 y0 y1 y3 y4 y5 y6 y7) σ := runK_exit' (by kernel_rfl) (by kernel_rfl)
theorem f4n37 {R : Type} (call : Bool → CallF R) (dem : Bool) (N : Nat) (J : KF R) (e : Env) (σ : St) : runK Try.prog call dem N f4c37 f4a37 J e σ = J .normal e σ := runK_skip' (by kernel_rfl)
theorem f4z35_f4e19 (y0 : Option (Nat × Nat)) (y1 : Nat) (y2 : Nat) (y3 : Option (Nat × Nat)) (y4 : Nat) (y5 : Option Nat) (y6 : Int) (y7 : Int) (y8 : Bool) : Ann.clr f4a35 (f4e19 y0 y1 y2 y3 y4 y5 y6 y7 y8) = f4e16 y0 y1 y2 y3 y4 y5 y6 y7 := hide (by kernel_rfl)
theorem f4z32_f4e18 (y0 : Option (Nat × Nat)) (y1 : Nat) (y2 : Nat) (y3 : Option (Nat × Nat)) (y4 : Nat) (y5 : Option Nat) (y6 : Int) (y7 : Int) (y8 : Nat) (y9 : Int) (y10 : Bool) (y11 : Bool) (y12 : Nat) (y13 : Int) (y14 : Bool) (y15 : Bool) : Ann.clr f4a32 (f4e18 y0 y1 y2 y3 y4 y5 y6 y7 y8 y9 y10 y11 y12 y13 y14 y15) = f4e19 y0 y1 y2 y3 y4 y5 y6 y7 y15 := hide (by kernel_rfl)
theorem f4z31_f4e16 (y0 : Option (Nat × Nat)) (y1 : Nat) (y2 : Nat) (y3 : Option (Nat × Nat)) (y4 : Nat) (y5 : Option Nat) (y6 : Int) (y7 : Int) : Ann.clr f4a31 (f4e16 y0 y1 y2 y3 y4 y5 y6 y7) = f4e16 y0 y1 y2 y3 y4 y5 y6 y7 := hide (by kernel_rfl)
theorem f4n33 {R : Type} (call : Bool → CallF R) (dem : Bool) (N : Nat) (J : KF R) (e : Env) (σ : St) : runK Try.prog call dem N f4c33 f4a33 J e σ = runK Try.prog call dem N f4c38 f4a38 (seqC (fun K e σ => runK Try.prog call dem N f4c39 f4a39 K e σ) f4a33 J) e σ := runK_seq' (by kernel_rfl) (by kernel_rfl) (by kernel_rfl)
theorem f4r38_f4e16 {R : Type} (call : Bool → CallF R) (dem : Bool) (N : Nat) (y0 : Option (Nat × Nat)) (y1 : Nat) (y2 : Nat) (y3 : Option (Nat × Nat)) (y4 : Nat) (y5 : Option Nat) (y6 : Int) (y7 : Int) (J : KF R) (σ : St) :
    runK Try.prog call dem N f4c38 f4a38 J (f4e16 y0 y1 y2 y3 y4 y5 y6 y7) σ =
Option.bind (St.ld σ y2 (0 : Nat)) fun v0 => Option.bind (AV.toInt IntKind.i64 v0) fun v1 => J Ex.normal (f4e20 y0 y1 y2 y3 y4 y5 y6 y7 y2 v1) σ := hide (by kernel_rfl)
theorem f4z33_f4e20 (y0 : Option (Nat × Nat)) (y1 : Nat) (y2 : Nat) (y3 : Option (Nat × Nat)) (y4 : Nat) (y5 : Option Nat) (y6 : Int) (y7 : Int) (y8 : Nat) (y9 : Int) : Ann.clr f4a33 (f4e20 y0 y1 y2 y3 y4 y5 y6 y7 y8 y9) = f4e21 y0 y1 y2 y3 y4 y5 y6 y7 y9 := hide (by kernel_rfl)
theorem f4n39 {R : Type} (call : Bool → CallF R) (dem : Bool) (N : Nat) (J : KF R) (e : Env) (σ : St) : runK Try.prog call dem N f4c39 f4a39 J e σ = runK Try.prog call dem N f4c40 f4a40 (blockC 2 f4a39 J) e σ := runK_block' (by kernel_rfl) (by kernel_rfl)
theorem f4n40 {R : Type} (call : Bool → CallF R) (dem : Bool) (N : Nat) (J : KF R) (e : Env) (σ : St) : runK Try.prog call dem N f4c40 f4a40 J e σ = runK Try.prog call dem N f4c41 f4a41 (seqC (fun K e σ => runK Try.prog call dem N f4c42 f4a42 K e σ) f4a40 J) e σ := runK_seq' (by kernel_rfl) (by kernel_rfl) (by kernel_rfl)
theorem f4n41 {R : Type} (call : Bool → CallF R) (dem : Bool) (N : Nat) (J : KF R) (e : Env) (σ : St) : runK Try.prog call dem N f4c41 f4a41 J e σ = runK Try.prog call dem N f4c43 f4a43 (seqC (fun K e σ => runK Try.prog call dem N f4c44 f4a44 K e σ) f4a41 J) e σ := runK_seq' (by kernel_rfl) (by kernel_rfl) (by kernel_rfl)
theorem f4r43_f4e21 {R : Type} (call : Bool → CallF R) (dem : Bool) (N : Nat) (y0 : Option (Nat × Nat)) (y1 : Nat) (y2 : Nat) (y3 : Option (Nat × Nat)) (y4 : Nat) (y5 : Option Nat) (y6 : Int) (y7 : Int) (y8 : Int) (J : KF R) (σ : St) :
    runK Try.prog call dem N f4c43 f4a43 J (f4e21 y0 y1 y2 y3 y4 y5 y6 y7 y8) σ =
J Ex.normal (f4e22 y0 y1 y2 y3 y4 y5 y6 y7 y8 (y8 == (0 : Int)) (y8 == (0 : Int))) σ := hide (by kernel_rfl)
theorem f4z41_f4e22 (y0 : Option (Nat × Nat)) (y1 : Nat) (y2 : Nat) (y3 : Option (Nat × Nat)) (y4 : Nat) (y5 : Option Nat) (y6 : Int) (y7 : Int) (y8 : Int) (y9 : Bool) (y10 : Bool) : Ann.clr f4a41 (f4e22 y0 y1 y2 y3 y4 y5 y6 y7 y8 y9 y10) = f4e23 y0 y1 y2 y3 y4 y5 y6 y7 y8 y9 := hide (by kernel_rfl)
theorem f4x44_f4e23 {R : Type} (call : Bool → CallF R) (dem : Bool) (N : Nat) (y0 : Option (Nat × Nat)) (y1 : Nat) (y2 : Nat) (y3 : Option (Nat × Nat)) (y4 : Nat) (y5 : Option Nat) (y6 : Int) (y7 : Int) (y8 : Int) (y9 : Bool) (J : KF R) (σ : St) : runK Try.prog call dem N f4c44 f4a44 J (f4e23 y0 y1 y2 y3 y4 y5 y6 y7 y8 y9) σ = if y9 = true then runK Try.prog call dem N f4c45 f4a45 (condC f4a44 J) (f4e23 y0 y1 y2 y3 y4 y5 y6 y7 y8 y9) σ else runK Try.prog call dem N f4c46 f4a46 (condC f4a44 J) (f4e23 y0 y1 y2 y3 y4 y5 y6 y7 y8 y9) σ := runK_cond' (o := Operand.tmp (44 : Nat)) (by kernel_rfl) (by kernel_rfl) (by kernel_rfl) (by kernel_rfl)
theorem f4n45 {R : Type} (call : Bool → CallF R) (dem : Bool) (N : Nat) (J : KF R) (e : Env) (σ : St) : runK Try.prog call dem N f4c45 f4a45 J e σ = J .normal e σ := runK_skip' (by kernel_rfl)
theorem f4z44_f4e23 (y0 : Option (Nat × Nat)) (y1 : Nat) (y2 : Nat) (y3 : Option (Nat × Nat)) (y4 : Nat) (y5 : Option Nat) (y6 : Int) (y7 : Int) (y8 : Int) (y9 : Bool) : Ann.clr f4a44 (f4e23 y0 y1 y2 y3 y4 y5 y6 y7 y8 y9) = f4e23 y0 y1 y2 y3 y4 y5 y6 y7 y8 y9 := hide (by kernel_rfl)
theorem f4r46_f4e23 {R : Type} (call : Bool → CallF R) (dem : Bool) (N : Nat) (y0 : Option (Nat × Nat)) (y1 : Nat) (y2 : Nat) (y3 : Option (Nat × Nat)) (y4 : Nat) (y5 : Option Nat) (y6 : Int) (y7 : Int) (y8 : Int) (y9 : Bool) (J : KF R) (σ : St) :
    runK Try.prog call dem N f4c46 f4a46 J (f4e23 y0 y1 y2 y3 y4 y5 y6 y7 y8 y9) σ =
J Ex.normal (f4e24 y0 y1 y2 y3 y4 y5 y6 y7 y8 (y8 == (1 : Int)) (y8 == (1 : Int))) σ := hide (by kernel_rfl)
theorem f4z44_f4e24 (y0 : Option (Nat × Nat)) (y1 : Nat) (y2 : Nat) (y3 : Option (Nat × Nat)) (y4 : Nat) (y5 : Option Nat) (y6 : Int) (y7 : Int) (y8 : Int) (y9 : Bool) (y10 : Bool) : Ann.clr f4a44 (f4e24 y0 y1 y2 y3 y4 y5 y6 y7 y8 y9 y10) = f4e23 y0 y1 y2 y3 y4 y5 y6 y7 y8 y9 := hide (by kernel_rfl)
theorem f4z40_f4e23 (y0 : Option (Nat × Nat)) (y1 : Nat) (y2 : Nat) (y3 : Option (Nat × Nat)) (y4 : Nat) (y5 : Option Nat) (y6 : Int) (y7 : Int) (y8 : Int) (y9 : Bool) : Ann.clr f4a40 (f4e23 y0 y1 y2 y3 y4 y5 y6 y7 y8 y9) = f4e23 y0 y1 y2 y3 y4 y5 y6 y7 y8 y9 := hide (by kernel_rfl)
theorem f4x42_f4e23 {R : Type} (call : Bool → CallF R) (dem : Bool) (N : Nat) (y0 : Option (Nat × Nat)) (y1 : Nat) (y2 : Nat) (y3 : Option (Nat × Nat)) (y4 : Nat) (y5 : Option Nat) (y6 : Int) (y7 : Int) (y8 : Int) (y9 : Bool) (J : KF R) (σ : St) : runK Try.prog call dem N f4c42 f4a42 J (f4e23 y0 y1 y2 y3 y4 y5 y6 y7 y8 y9) σ = if y9 = true then runK Try.prog call dem N f4c47 f4a47 (condC f4a42 J) (f4e23 y0 y1 y2 y3 y4 y5 y6 y7 y8 y9) σ else runK Try.prog call dem N f4c48 f4a48 (condC f4a42 J) (f4e23 y0 y1 y2 y3 y4 y5 y6 y7 y8 y9) σ := runK_cond' (o := Operand.tmp (44 : Nat)) (by kernel_rfl) (by kernel_rfl) (by kernel_rfl) (by kernel_rfl)
theorem f4n47 {R : Type} (call : Bool → CallF R) (dem : Bool) (N : Nat) (J : KF R) (e : Env) (σ : St) : runK Try.prog call dem N f4c47 f4a47 J e σ = runK Try.prog call dem N f4c49 f4a49 (seqC (fun K e σ => runK Try.prog call dem N f4c50 f4a50 K e σ) f4a47 J) e σ := runK_seq' (by kernel_rfl) (by kernel_rfl) (by kernel_rfl)
theorem f4r49_f4e23 {R : Type} (call : Bool → CallF R) (dem : Bool) (N : Nat) (y0 : Option (Nat × Nat)) (y1 : Nat) (y2 : Nat) (y3 : Option (Nat × Nat)) (y4 : Nat) (y5 : Option Nat) (y6 : Int) (y7 : Int) (y8 : Int) (y9 : Bool) (J : KF R) (σ : St) :
    runK Try.prog call dem N f4c49 f4a49 J (f4e23 y0 y1 y2 y3 y4 y5 y6 y7 y8 y9) σ =
Option.bind (St.ld σ y2 (1 : Nat)) fun v0 =>
  Option.bind (AV.toInt IntKind.i64 v0) fun v1 =>
    Option.bind (St.ld σ y2 (2 : Nat)) fun v2 =>
      Option.bind (AV.toInt IntKind.i64 v2) fun v3 =>
        call dem (9 : Nat) [AV.ptr y0, AV.int IntKind.i64 v1, AV.int IntKind.i64 v3] σ fun v4 v5 =>
          Option.bind (AV.toInt IntKind.i64 v4) fun v6 => J Ex.normal (f4e25 y0 y1 y2 y3 y4 y5 y6 y7 y8 y9 y0 y2 v1 y2 v3 v6 (v6 == (0 : Int))) v5 := hide (by kernel_rfl)
theorem f4z47_f4e25 (y0 : Option (Nat × Nat)) (y1 : Nat) (y2 : Nat) (y3 : Option (Nat × Nat)) (y4 : Nat) (y5 : Option Nat) (y6 : Int) (y7 : Int) (y8 : Int) (y9 : Bool) (y10 : Option (Nat × Nat)) (y11 : Nat) (y12 : Int) (y13 : Nat) (y14 : Int) (y15 : Int) (y16 : Bool) : Ann.clr f4a47 (f4e25 y0 y1 y2 y3 y4 y5 y6 y7 y8 y9 y10 y11 y12 y13 y14 y15 y16) = f4e26 y0 y1 y2 y3 y4 y5 y6 y7 y16 := hide (by kernel_rfl)
theorem f4x50_f4e26 {R : Type} (call : Bool → CallF R) (dem : Bool) (N : Nat) (y0 : Option (Nat × Nat)) (y1 : Nat) (y2 : Nat) (y3 : Option (Nat × Nat)) (y4 : Nat) (y5 : Option Nat) (y6 : Int) (y7 : Int) (y8 : Bool) (J : KF R) (σ : St) : runK Try.prog call dem N f4c50 f4a50 J (f4e26 y0 y1 y2 y3 y4 y5 y6 y7 y8) σ = if y8 = true then runK Try.prog call dem N f4c51 f4a51 (condC f4a50 J) (f4e26 y0 y1 y2 y3 y4 y5 y6 y7 y8) σ else runK Try.prog call dem N f4c52 f4a52 (condC f4a50 J) (f4e26 y0 y1 y2 y3 y4 y5 y6 y7 y8) σ := runK_cond' (o := Operand.tmp (53 : Nat)) (by kernel_rfl) (by kernel_rfl) (by kernel_rfl) (by kernel_rfl)
theorem f4r51_f4e26 {R : Type} (call : Bool → CallF R) (dem : Bool) (N : Nat) (y0 : Option (Nat × Nat)) (y1 : Nat) (y2 : Nat) (y3 : Option (Nat × Nat)) (y4 : Nat) (y5 : Option Nat) (y6 : Int) (y7 : Int) (y8 : Bool) (J : KF R) (σ : St) :
    runK Try.prog call dem N f4c51 f4a51 J (f4e26 y0 y1 y2 y3 y4 y5 y6 y7 y8) σ =
Option.bind (St.ld σ y2 (1 : Nat)) fun v0 =>
  Option.bind (AV.toInt IntKind.i64 v0) fun v1 =>
    call false (12 : Nat) [AV.ptr y0] σ fun v2 v3 =>
      Option.bind (AV.toInt IntKind.i64 v2) fun v4 =>
        if St.same v3 y2 (1 : Nat) [AV.int IntKind.i64 v1] = true then
          Option.bind (St.ld v3 y2 (2 : Nat)) fun v5 =>
            Option.bind (AV.toInt IntKind.i64 v5) fun v6 =>
              if St.same σ y2 (2 : Nat) [AV.int IntKind.i64 v6] = true then
                if (0 : Nat) < (1 : Nat) ∧ (0 : Int) ≤ v1 ∧ v1 < (16 : Int) then
                  Option.bind (St.st v3 y1 ((0 : Nat) + Int.toNat v1 * (1 : Nat)) [AV.int IntKind.i64 (IntKind.wrap IntKind.i64 (v4 + v6))]) fun v7 =>
                    J Ex.normal
                      (f4e27 y0 y1 y2 y3 y4 y5 y6 y7 y8 y2 v1 y0 v4 y2 v6 (IntKind.wrap IntKind.i64 (v4 + v6))
                        (some (y1, (0 : Nat) + Int.toNat v1 * (1 : Nat))))
                      v7
                else none
              else none
        else none := hide (by kernel_rfl)
theorem f4z50_f4e27 (y0 : Option (Nat × Nat)) (y1 : Nat) (y2 : Nat) (y3 : Option (Nat × Nat)) (y4 : Nat) (y5 : Option Nat) (y6 : Int) (y7 : Int) (y8 : Bool) (y9 : Nat) (y10 : Int) (y11 : Option (Nat × Nat)) (y12 : Int) (y13 : Nat) (y14 : Int) (y15 : Int) (y16 : Option (Nat × Nat)) : Ann.clr f4a50 (f4e27 y0 y1 y2 y3 y4 y5 y6 y7 y8 y9 y10 y11 y12 y13 y14 y15 y16) = f4e12 y0 y1 y3 y4 y5 y6 y7 := hide (by kernel_rfl)
theorem f4n52 {R : Type} (call : Bool → CallF R) (dem : Bool) (N : Nat) (J : KF R) (e : Env) (σ : St) : runK Try.prog call dem N f4c52 f4a52 J e σ = J .normal e σ := runK_skip' (by kernel_rfl)
theorem f4z50_f4e26 (y0 : Option (Nat × Nat)) (y1 : Nat) (y2 : Nat) (y3 : Option (Nat × Nat)) (y4 : Nat) (y5 : Option Nat) (y6 : Int) (y7 : Int) (y8 : Bool) : Ann.clr f4a50 (f4e26 y0 y1 y2 y3 y4 y5 y6 y7 y8) = f4e12 y0 y1 y3 y4 y5 y6 y7 := hide (by kernel_rfl)
theorem f4z42_f4e12 (y0 : Option (Nat × Nat)) (y1 : Nat) (y2 : Option (Nat × Nat)) (y3 : Nat) (y4 : Option Nat) (y5 : Int) (y6 : Int) : Ann.clr f4a42 (f4e12 y0 y1 y2 y3 y4 y5 y6) = f4e12 y0 y1 y2 y3 y4 y5 y6 := hide (by kernel_rfl)
theorem f4n48 {R : Type} (call : Bool → CallF R) (dem : Bool) (N : Nat) (J : KF R) (e : Env) (σ : St) : runK Try.prog call dem N f4c48 f4a48 J e σ = runK Try.prog call dem N f4c53 f4a53 (seqC (fun K e σ => runK Try.prog call dem N f4c54 f4a54 K e σ) f4a48 J) e σ := runK_seq' (by kernel_rfl) (by kernel_rfl) (by kernel_rfl)
theorem f4r53_f4e23 {R : Type} (call : Bool → CallF R) (dem : Bool) (N : Nat) (y0 : Option (Nat × Nat)) (y1 : Nat) (y2 : Nat) (y3 : Option (Nat × Nat)) (y4 : Nat) (y5 : Option Nat) (y6 : Int) (y7 : Int) (y8 : Int) (y9 : Bool) (J : KF R) (σ : St) :
    runK Try.prog call dem N f4c53 f4a53 J (f4e23 y0 y1 y2 y3 y4 y5 y6 y7 y8 y9) σ =
J Ex.normal (f4e28 y0 y1 y2 y3 y4 y5 y6 y7 y8 y9 (y8 == (2 : Int)) (y8 == (2 : Int))) σ := hide (by kernel_rfl)
theorem f4z48_f4e28 (y0 : Option (Nat × Nat)) (y1 : Nat) (y2 : Nat) (y3 : Option (Nat × Nat)) (y4 : Nat) (y5 : Option Nat) (y6 : Int) (y7 : Int) (y8 : Int) (y9 : Bool) (y10 : Bool) (y11 : Bool) : Ann.clr f4a48 (f4e28 y0 y1 y2 y3 y4 y5 y6 y7 y8 y9 y10 y11) = f4e29 y0 y1 y2 y3 y4 y5 y6 y7 y8 y10 := hide (by kernel_rfl)
theorem f4x54_f4e29 {R : Type} (call : Bool → CallF R) (dem : Bool) (N : Nat) (y0 : Option (Nat × Nat)) (y1 : Nat) (y2 : Nat) (y3 : Option (Nat × Nat)) (y4 : Nat) (y5 : Option Nat) (y6 : Int) (y7 : Int) (y8 : Int) (y9 : Bool) (J : KF R) (σ : St) : runK Try.prog call dem N f4c54 f4a54 J (f4e29 y0 y1 y2 y3 y4 y5 y6 y7 y8 y9) σ = if y9 = true then runK Try.prog call dem N f4c55 f4a55 (condC f4a54 J) (f4e29 y0 y1 y2 y3 y4 y5 y6 y7 y8 y9) σ else runK Try.prog call dem N f4c56 f4a56 (condC f4a54 J) (f4e29 y0 y1 y2 y3 y4 y5 y6 y7 y8 y9) σ := runK_cond' (o := Operand.tmp (62 : Nat)) (by kernel_rfl) (by kernel_rfl) (by kernel_rfl) (by kernel_rfl)
theorem f4n55 {R : Type} (call : Bool → CallF R) (dem : Bool) (N : Nat) (J : KF R) (e : Env) (σ : St) : runK Try.prog call dem N f4c55 f4a55 J e σ = runK Try.prog call dem N f4c57 f4a57 (seqC (fun K e σ => runK Try.prog call dem N f4c58 f4a58 K e σ) f4a55 J) e σ := runK_seq' (by kernel_rfl) (by kernel_rfl) (by kernel_rfl)
theorem f4r57_f4e29 {R : Type} (call : Bool → CallF R) (dem : Bool) (N : Nat) (y0 : Option (Nat × Nat)) (y1 : Nat) (y2 : Nat) (y3 : Option (Nat × Nat)) (y4 : Nat) (y5 : Option Nat) (y6 : Int) (y7 : Int) (y8 : Int) (y9 : Bool) (J : KF R) (σ : St) :
    runK Try.prog call dem N f4c57 f4a57 J (f4e29 y0 y1 y2 y3 y4 y5 y6 y7 y8 y9) σ =
Option.bind (St.ld σ y2 (1 : Nat)) fun v0 =>
  Option.bind (AV.toInt IntKind.i64 v0) fun v1 =>
    call dem (14 : Nat) [AV.ptr y0, AV.int IntKind.i64 v1] σ fun v2 v3 =>
      Option.bind (AV.toTuple v2) fun v4 =>
        if List.length v4 = (2 : Nat) then
          Option.bind (List.head? v4) fun v5 =>
            Option.bind (AV.toBool v5) fun v6 =>
              Option.bind (List.head? (List.tail v4)) fun v7 =>
                Option.bind (AV.toInt IntKind.i64 v7) fun v8 => J Ex.normal (f4e30 y0 y1 y2 y3 y4 y5 y6 y7 y8 y9 y0 y2 v1 v6 v8) v3
        else none := hide (by kernel_rfl)
theorem f4z55_f4e30 (y0 : Option (Nat × Nat)) (y1 : Nat) (y2 : Nat) (y3 : Option (Nat × Nat)) (y4 : Nat) (y5 : Option Nat) (y6 : Int) (y7 : Int) (y8 : Int) (y9 : Bool) (y10 : Option (Nat × Nat)) (y11 : Nat) (y12 : Int) (y13 : Bool) (y14 : Int) : Ann.clr f4a55 (f4e30 y0 y1 y2 y3 y4 y5 y6 y7 y8 y9 y10 y11 y12 y13 y14) = f4e16 y0 y1 y2 y3 y4 y5 y6 y7 := hide (by kernel_rfl)
theorem f4r58_f4e16 {R : Type} (call : Bool → CallF R) (dem : Bool) (N : Nat) (y0 : Option (Nat × Nat)) (y1 : Nat) (y2 : Nat) (y3 : Option (Nat × Nat)) (y4 : Nat) (y5 : Option Nat) (y6 : Int) (y7 : Int) (J : KF R) (σ : St) :
    runK Try.prog call dem N f4c58 f4a58 J (f4e16 y0 y1 y2 y3 y4 y5 y6 y7) σ =
Option.bind (St.ld σ y2 (1 : Nat)) fun v0 =>
  Option.bind (AV.toInt IntKind.i64 v0) fun v1 =>
    if (0 : Nat) < (1 : Nat) ∧ (0 : Int) ≤ v1 ∧ v1 < (16 : Int) then
      Option.bind (St.st σ y1 ((0 : Nat) + Int.toNat v1 * (1 : Nat)) [AV.int IntKind.i64 (0 : Int)]) fun v2 =>
        J Ex.normal (f4e31 y0 y1 y2 y3 y4 y5 y6 y7 y2 v1 (some (y1, (0 : Nat) + Int.toNat v1 * (1 : Nat)))) v2
    else none := hide (by kernel_rfl)
theorem f4z54_f4e31 (y0 : Option (Nat × Nat)) (y1 : Nat) (y2 : Nat) (y3 : Option (Nat × Nat)) (y4 : Nat) (y5 : Option Nat) (y6 : Int) (y7 : Int) (y8 : Nat) (y9 : Int) (y10 : Option (Nat × Nat)) : Ann.clr f4a54 (f4e31 y0 y1 y2 y3 y4 y5 y6 y7 y8 y9 y10) = f4e12 y0 y1 y3 y4 y5 y6 y7 := hide (by kernel_rfl)
theorem f4n56 {R : Type} (call : Bool → CallF R) (dem : Bool) (N : Nat) (J : KF R) (e : Env) (σ : St) : runK Try.prog call dem N f4c56 f4a56 J e σ = runK Try.prog call dem N f4c59 f4a59 (seqC (fun K e σ => runK Try.prog call dem N f4c60 f4a60 K e σ) f4a56 J) e σ := runK_seq' (by kernel_rfl) (by kernel_rfl) (by kernel_rfl)
theorem f4r59_f4e29 {R : Type} (call : Bool → CallF R) (dem : Bool) (N : Nat) (y0 : Option (Nat × Nat)) (y1 : Nat) (y2 : Nat) (y3 : Option (Nat × Nat)) (y4 : Nat) (y5 : Option Nat) (y6 : Int) (y7 : Int) (y8 : Int) (y9 : Bool) (J : KF R) (σ : St) :
    runK Try.prog call dem N f4c59 f4a59 J (f4e29 y0 y1 y2 y3 y4 y5 y6 y7 y8 y9) σ =
J Ex.normal (f4e32 y0 y1 y2 y3 y4 y5 y6 y7 y8 y9 (y8 == (3 : Int)) (y8 == (3 : Int))) σ := hide (by kernel_rfl)
theorem f4z56_f4e32 (y0 : Option (Nat × Nat)) (y1 : Nat) (y2 : Nat) (y3 : Option (Nat × Nat)) (y4 : Nat) (y5 : Option Nat) (y6 : Int) (y7 : Int) (y8 : Int) (y9 : Bool) (y10 : Bool) (y11 : Bool) : Ann.clr f4a56 (f4e32 y0 y1 y2 y3 y4 y5 y6 y7 y8 y9 y10 y11) = f4e33 y0 y1 y2 y3 y4 y5 y6 y7 y8 y10 := hide (by kernel_rfl)
theorem f4x60_f4e33 {R : Type} (call : Bool → CallF R) (dem : Bool) (N : Nat) (y0 : Option (Nat × Nat)) (y1 : Nat) (y2 : Nat) (y3 : Option (Nat × Nat)) (y4 : Nat) (y5 : Option Nat) (y6 : Int) (y7 : Int) (y8 : Int) (y9 : Bool) (J : KF R) (σ : St) : runK Try.prog call dem N f4c60 f4a60 J (f4e33 y0 y1 y2 y3 y4 y5 y6 y7 y8 y9) σ = if y9 = true then runK Try.prog call dem N f4c61 f4a61 (condC f4a60 J) (f4e33 y0 y1 y2 y3 y4 y5 y6 y7 y8 y9) σ else runK Try.prog call dem N f4c62 f4a62 (condC f4a60 J) (f4e33 y0 y1 y2 y3 y4 y5 y6 y7 y8 y9) σ := runK_cond' (o := Operand.tmp (71 : Nat)) (by kernel_rfl) (by kernel_rfl) (by kernel_rfl) (by kernel_rfl)
theorem f4n61 {R : Type} (call : Bool → CallF R) (dem : Bool) (N : Nat) (J : KF R) (e : Env) (σ : St) : runK Try.prog call dem N f4c61 f4a61 J e σ = runK Try.prog call dem N f4c63 f4a63 (seqC (fun K e σ => runK Try.prog call dem N f4c64 f4a64 K e σ) f4a61 J) e σ := runK_seq' (by kernel_rfl) (by kernel_rfl) (by kernel_rfl)
theorem f4r63_f4e33 {R : Type} (call : Bool → CallF R) (dem : Bool) (N : Nat) (y0 : Option (Nat × Nat)) (y1 : Nat) (y2 : Nat) (y3 : Option (Nat × Nat)) (y4 : Nat) (y5 : Option Nat) (y6 : Int) (y7 : Int) (y8 : Int) (y9 : Bool) (J : KF R) (σ : St) :
    runK Try.prog call dem N f4c63 f4a63 J (f4e33 y0 y1 y2 y3 y4 y5 y6 y7 y8 y9) σ =
Option.bind (St.ld σ y2 (1 : Nat)) fun v0 =>
  Option.bind (AV.toInt IntKind.i64 v0) fun v1 =>
    call dem (10 : Nat) [AV.ptr y0, AV.int IntKind.i64 v1] σ fun v2 v3 =>
      Option.bind (AV.toTuple v2) fun v4 =>
        if List.length v4 = (2 : Nat) then
          Option.bind (List.head? v4) fun v5 =>
            Option.bind (AV.toInt IntKind.i64 v5) fun v6 =>
              Option.bind (List.head? (List.tail v4)) fun v7 =>
                Option.bind (AV.toInt IntKind.i64 v7) fun v8 => J Ex.normal (f4e34 y0 y1 y2 v6 v8 y3 y4 y5 y6 y7 y8 y9 v6 v8 y0 y2 v1 v6 v8 v6 v8) v3
        else none := hide (by kernel_rfl)
theorem f4z61_f4e34 (y0 : Option (Nat × Nat)) (y1 : Nat) (y2 : Nat) (y3 : Int) (y4 : Int) (y5 : Option (Nat × Nat)) (y6 : Nat) (y7 : Option Nat) (y8 : Int) (y9 : Int) (y10 : Int) (y11 : Bool) (y12 : Int) (y13 : Int) (y14 : Option (Nat × Nat)) (y15 : Nat) (y16 : Int) (y17 : Int) (y18 : Int) (y19 : Int) (y20 : Int) : Ann.clr f4a61 (f4e34 y0 y1 y2 y3 y4 y5 y6 y7 y8 y9 y10 y11 y12 y13 y14 y15 y16 y17 y18 y19 y20) = f4e35 y0 y1 y2 y3 y4 y5 y6 y7 y8 y9 := hide (by kernel_rfl)
theorem f4n64 {R : Type} (call : Bool → CallF R) (dem : Bool) (N : Nat) (J : KF R) (e : Env) (σ : St) : runK Try.prog call dem N f4c64 f4a64 J e σ = runK Try.prog call dem N f4c65 f4a65 (seqC (fun K e σ => runK Try.prog call dem N f4c66 f4a66 K e σ) f4a64 J) e σ := runK_seq' (by kernel_rfl) (by kernel_rfl) (by kernel_rfl)
theorem f4n65 {R : Type} (call : Bool → CallF R) (dem : Bool) (N : Nat) (J : KF R) (e : Env) (σ : St) : runK Try.prog call dem N f4c65 f4a65 J e σ = runK Try.prog call dem N f4c67 f4a67 (seqC (fun K e σ => runK Try.prog call dem N f4c68 f4a68 K e σ) f4a65 J) e σ := runK_seq' (by kernel_rfl) (by kernel_rfl) (by kernel_rfl)
theorem f4r67_f4e35 {R : Type} (call : Bool → CallF R) (dem : Bool) (N : Nat) (y0 : Option (Nat × Nat)) (y1 : Nat) (y2 : Nat) (y3 : Int) (y4 : Int) (y5 : Option (Nat × Nat)) (y6 : Nat) (y7 : Option Nat) (y8 : Int) (y9 : Int) (J : KF R) (σ : St) :
    runK Try.prog call dem N f4c67 f4a67 J (f4e35 y0 y1 y2 y3 y4 y5 y6 y7 y8 y9) σ =
Option.bind (St.ld σ y2 (1 : Nat)) fun v0 =>
  Option.bind (AV.toInt IntKind.i64 v0) fun v1 =>
    if (0 : Nat) < (1 : Nat) ∧ (0 : Int) ≤ v1 ∧ v1 < (16 : Int) then
      Option.bind (St.ld σ y1 ((0 : Nat) + Int.toNat v1 * (1 : Nat))) fun v2 =>
        Option.bind (AV.toInt IntKind.i64 v2) fun v3 =>
          J Ex.normal
            (f4e36 y0 y1 y2 y3 y4 y5 y6 y7 y8 y9 y4 (y4 == (0 : Int)) y2 v1 (some (y1, (0 : Nat) + Int.toNat v1 * (1 : Nat))) v3
              (decide (v3 > (0 : Int))) !(y4 == (0 : Int)) == decide (v3 > (0 : Int)))
            σ
    else none := hide (by kernel_rfl)
theorem f4z65_f4e36 (y0 : Option (Nat × Nat)) (y1 : Nat) (y2 : Nat) (y3 : Int) (y4 : Int) (y5 : Option (Nat × Nat)) (y6 : Nat) (y7 : Option Nat) (y8 : Int) (y9 : Int) (y10 : Int) (y11 : Bool) (y12 : Nat) (y13 : Int) (y14 : Option (Nat × Nat)) (y15 : Int) (y16 : Bool) (y17 : Bool) : Ann.clr f4a65 (f4e36 y0 y1 y2 y3 y4 y5 y6 y7 y8 y9 y10 y11 y12 y13 y14 y15 y16 y17) = f4e37 y0 y1 y2 y3 y4 y5 y6 y7 y8 y9 y17 := hide (by kernel_rfl)
theorem f4x68_f4e37 {R : Type} (call : Bool → CallF R) (dem : Bool) (N : Nat) (y0 : Option (Nat × Nat)) (y1 : Nat) (y2 : Nat) (y3 : Int) (y4 : Int) (y5 : Option (Nat × Nat)) (y6 : Nat) (y7 : Option Nat) (y8 : Int) (y9 : Int) (y10 : Bool) (J : KF R) (σ : St) : runK Try.prog call dem N f4c68 f4a68 J (f4e37 y0 y1 y2 y3 y4 y5 y6 y7 y8 y9 y10) σ = if y10 = true then runK Try.prog call dem N f4c69 f4a69 (condC f4a68 J) (f4e37 y0 y1 y2 y3 y4 y5 y6 y7 y8 y9 y10) σ else runK Try.prog call dem N f4c70 f4a70 (condC f4a68 J) (f4e37 y0 y1 y2 y3 y4 y5 y6 y7 y8 y9 y10) σ := runK_cond' (o := Operand.tmp (87 : Nat)) (by kernel_rfl) (by kernel_rfl) (by kernel_rfl) (by kernel_rfl)
theorem f4n69 {R : Type} (call : Bool → CallF R) (dem : Bool) (N : Nat) (J : KF R) (e : Env) (σ : St) : runK Try.prog call dem N f4c69 f4a69 J e σ = runK Try.prog call dem N f4c71 f4a71 (seqC (fun K e σ => runK Try.prog call dem N f4c72 f4a72 K e σ) f4a69 J) e σ := runK_seq' (by kernel_rfl) (by kernel_rfl) (by kernel_rfl)
theorem f4r71_f4e37 {R : Type} (call : Bool → CallF R) (dem : Bool) (N : Nat) (y0 : Option (Nat × Nat)) (y1 : Nat) (y2 : Nat) (y3 : Int) (y4 : Int) (y5 : Option (Nat × Nat)) (y6 : Nat) (y7 : Option Nat) (y8 : Int) (y9 : Int) (y10 : Bool) (J : KF R) (σ : St) :
    runK Try.prog call dem N f4c71 f4a71 J (f4e37 y0 y1 y2 y3 y4 y5 y6 y7 y8 y9 y10) σ =
J Ex.normal (f4e38 false y0 y1 y2 y3 y4 y5 y6 y7 y8 y9 y10) σ := hide (by kernel_rfl)
theorem f4z69_f4e38 (y0 : Bool) (y1 : Option (Nat × Nat)) (y2 : Nat) (y3 : Nat) (y4 : Int) (y5 : Int) (y6 : Option (Nat × Nat)) (y7 : Nat) (y8 : Option Nat) (y9 : Int) (y10 : Int) (y11 : Bool) : Ann.clr f4a69 (f4e38 y0 y1 y2 y3 y4 y5 y6 y7 y8 y9 y10 y11) = f4e9 y0 := hide (by kernel_rfl)
theorem f4y72_f4e9 {R : Type} (call : Bool → CallF R) (dem : Bool) (N : Nat) (y0 : Bool) (J : KF R) (σ : St) : runK Try.prog call dem N f4c72 f4a72 J (f4e9 y0) σ = J .ret (f4e9 y0) σ := runK_ret' (by kernel_rfl) (by kernel_rfl)
theorem f4n70 {R : Type} (call : Bool → CallF R) (dem : Bool) (N : Nat) (J : KF R) (e : Env) (σ : St) : runK Try.prog call dem N f4c70 f4a70 J e σ = J .normal e σ := runK_skip' (by kernel_rfl)
theorem f4z68_f4e37 (y0 : Option (Nat × Nat)) (y1 : Nat) (y2 : Nat) (y3 : Int) (y4 : Int) (y5 : Option (Nat × Nat)) (y6 : Nat) (y7 : Option Nat) (y8 : Int) (y9 : Int) (y10 : Bool) : Ann.clr f4a68 (f4e37 y0 y1 y2 y3 y4 y5 y6 y7 y8 y9 y10) = f4e35 y0 y1 y2 y3 y4 y5 y6 y7 y8 y9 := hide (by kernel_rfl)
theorem f4z64_f4e35 (y0 : Option (Nat × Nat)) (y1 : Nat) (y2 : Nat) (y3 : Int) (y4 : Int) (y5 : Option (Nat × Nat)) (y6 : Nat) (y7 : Option Nat) (y8 : Int) (y9 : Int) : Ann.clr f4a64 (f4e35 y0 y1 y2 y3 y4 y5 y6 y7 y8 y9) = f4e35 y0 y1 y2 y3 y4 y5 y6 y7 y8 y9 := hide (by kernel_rfl)
theorem f4n66 {R : Type} (call : Bool → CallF R) (dem : Bool) (N : Nat) (J : KF R) (e : Env) (σ : St) : runK Try.prog call dem N f4c66 f4a66 J e σ = runK Try.prog call dem N f4c73 f4a73 (seqC (fun K e σ => runK Try.prog call dem N f4c74 f4a74 K e σ) f4a66 J) e σ := runK_seq' (by kernel_rfl) (by kernel_rfl) (by kernel_rfl)
theorem f4r73_f4e35 {R : Type} (call : Bool → CallF R) (dem : Bool) (N : Nat) (y0 : Option (Nat × Nat)) (y1 : Nat) (y2 : Nat) (y3 : Int) (y4 : Int) (y5 : Option (Nat × Nat)) (y6 : Nat) (y7 : Option Nat) (y8 : Int) (y9 : Int) (J : KF R) (σ : St) :
    runK Try.prog call dem N f4c73 f4a73 J (f4e35 y0 y1 y2 y3 y4 y5 y6 y7 y8 y9) σ =
J Ex.normal (f4e39 y0 y1 y2 y3 y4 y5 y6 y7 y8 y9 y4 (y4 == (0 : Int))) σ := hide (by kernel_rfl)
theorem f4z66_f4e39 (y0 : Option (Nat × Nat)) (y1 : Nat) (y2 : Nat) (y3 : Int) (y4 : Int) (y5 : Option (Nat × Nat)) (y6 : Nat) (y7 : Option Nat) (y8 : Int) (y9 : Int) (y10 : Int) (y11 : Bool) : Ann.clr f4a66 (f4e39 y0 y1 y2 y3 y4 y5 y6 y7 y8 y9 y10 y11) = f4e40 y0 y1 y2 y3 y5 y6 y7 y8 y9 y11 := hide (by kernel_rfl)
theorem f4x74_f4e40 {R : Type} (call : Bool → CallF R) (dem : Bool) (N : Nat) (y0 : Option (Nat × Nat)) (y1 : Nat) (y2 : Nat) (y3 : Int) (y4 : Option (Nat × Nat)) (y5 : Nat) (y6 : Option Nat) (y7 : Int) (y8 : Int) (y9 : Bool) (J : KF R) (σ : St) : runK Try.prog call dem N f4c74 f4a74 J (f4e40 y0 y1 y2 y3 y4 y5 y6 y7 y8 y9) σ = if y9 = true then runK Try.prog call dem N f4c75 f4a75 (condC f4a74 J) (f4e40 y0 y1 y2 y3 y4 y5 y6 y7 y8 y9) σ else runK Try.prog call dem N f4c76 f4a76 (condC f4a74 J) (f4e40 y0 y1 y2 y3 y4 y5 y6 y7 y8 y9) σ := runK_cond' (o := Operand.tmp (89 : Nat)) (by kernel_rfl) (by kernel_rfl) (by kernel_rfl) (by kernel_rfl)
theorem f4r75_f4e40 {R : Type} (call : Bool → CallF R) (dem : Bool) (N : Nat) (y0 : Option (Nat × Nat)) (y1 : Nat) (y2 : Nat) (y3 : Int) (y4 : Option (Nat × Nat)) (y5 : Nat) (y6 : Option Nat) (y7 : Int) (y8 : Int) (y9 : Bool) (J : KF R) (σ : St) :
    runK Try.prog call dem N f4c75 f4a75 J (f4e40 y0 y1 y2 y3 y4 y5 y6 y7 y8 y9) σ =
Option.bind (St.ld σ y2 (1 : Nat)) fun v0 =>
  Option.bind (AV.toInt IntKind.i64 v0) fun v1 =>
    call false (12 : Nat) [AV.ptr y0] σ fun v2 v3 =>
      Option.bind (AV.toInt IntKind.i64 v2) fun v4 =>
        if St.same v3 y2 (1 : Nat) [AV.int IntKind.i64 v1] = true then
          if (0 : Nat) < (1 : Nat) ∧ (0 : Int) ≤ v1 ∧ v1 < (16 : Int) then
            Option.bind (St.st v3 y1 ((0 : Nat) + Int.toNat v1 * (1 : Nat)) [AV.int IntKind.i64 (IntKind.wrap IntKind.i64 (v4 + y3))]) fun v5 =>
              J Ex.normal
                (f4e41 y0 y1 y2 y3 y4 y5 y6 y7 y8 y9 y2 v1 y0 v4 y3 (IntKind.wrap IntKind.i64 (v4 + y3))
                  (some (y1, (0 : Nat) + Int.toNat v1 * (1 : Nat))))
                v5
          else none
        else none := hide (by kernel_rfl)
theorem f4z74_f4e41 (y0 : Option (Nat × Nat)) (y1 : Nat) (y2 : Nat) (y3 : Int) (y4 : Option (Nat × Nat)) (y5 : Nat) (y6 : Option Nat) (y7 : Int) (y8 : Int) (y9 : Bool) (y10 : Nat) (y11 : Int) (y12 : Option (Nat × Nat)) (y13 : Int) (y14 : Int) (y15 : Int) (y16 : Option (Nat × Nat)) : Ann.clr f4a74 (f4e41 y0 y1 y2 y3 y4 y5 y6 y7 y8 y9 y10 y11 y12 y13 y14 y15 y16) = f4e12 y0 y1 y4 y5 y6 y7 y8 := hide (by kernel_rfl)
theorem f4n76 {R : Type} (call : Bool → CallF R) (dem : Bool) (N : Nat) (J : KF R) (e : Env) (σ : St) : runK Try.prog call dem N f4c76 f4a76 J e σ = J .normal e σ := runK_skip' (by kernel_rfl)
theorem f4z74_f4e40 (y0 : Option (Nat × Nat)) (y1 : Nat) (y2 : Nat) (y3 : Int) (y4 : Option (Nat × Nat)) (y5 : Nat) (y6 : Option Nat) (y7 : Int) (y8 : Int) (y9 : Bool) : Ann.clr f4a74 (f4e40 y0 y1 y2 y3 y4 y5 y6 y7 y8 y9) = f4e12 y0 y1 y4 y5 y6 y7 y8 := hide (by kernel_rfl)
theorem f4z60_f4e12 (y0 : Option (Nat × Nat)) (y1 : Nat) (y2 : Option (Nat × Nat)) (y3 : Nat) (y4 : Option Nat) (y5 : Int) (y6 : Int) : Ann.clr f4a60 (f4e12 y0 y1 y2 y3 y4 y5 y6) = f4e12 y0 y1 y2 y3 y4 y5 y6 := hide (by kernel_rfl)
theorem f4n62 {R : Type} (call : Bool → CallF R) (dem : Bool) (N : Nat) (J : KF R) (e : Env) (σ : St) : runK Try.prog call dem N f4c62 f4a62 J e σ = runK Try.prog call dem N f4c77 f4a77 (seqC (fun K e σ => runK Try.prog call dem N f4c78 f4a78 K e σ) f4a62 J) e σ := runK_seq' (by kernel_rfl) (by kernel_rfl) (by kernel_rfl)
theorem f4r77_f4e33 {R : Type} (call : Bool → CallF R) (dem : Bool) (N : Nat) (y0 : Option (Nat × Nat)) (y1 : Nat) (y2 : Nat) (y3 : Option (Nat × Nat)) (y4 : Nat) (y5 : Option Nat) (y6 : Int) (y7 : Int) (y8 : Int) (y9 : Bool) (J : KF R) (σ : St) :
    runK Try.prog call dem N f4c77 f4a77 J (f4e33 y0 y1 y2 y3 y4 y5 y6 y7 y8 y9) σ =
J Ex.normal (f4e42 y0 y1 y2 y3 y4 y5 y6 y7 y8 y9 (y8 == (4 : Int)) (y8 == (4 : Int))) σ := hide (by kernel_rfl)
theorem f4z62_f4e42 (y0 : Option (Nat × Nat)) (y1 : Nat) (y2 : Nat) (y3 : Option (Nat × Nat)) (y4 : Nat) (y5 : Option Nat) (y6 : Int) (y7 : Int) (y8 : Int) (y9 : Bool) (y10 : Bool) (y11 : Bool) : Ann.clr f4a62 (f4e42 y0 y1 y2 y3 y4 y5 y6 y7 y8 y9 y10 y11) = f4e43 y0 y1 y2 y3 y4 y5 y6 y7 y10 := hide (by kernel_rfl)
theorem f4x78_f4e43 {R : Type} (call : Bool → CallF R) (dem : Bool) (N : Nat) (y0 : Option (Nat × Nat)) (y1 : Nat) (y2 : Nat) (y3 : Option (Nat × Nat)) (y4 : Nat) (y5 : Option Nat) (y6 : Int) (y7 : Int) (y8 : Bool) (J : KF R) (σ : St) : runK Try.prog call dem N f4c78 f4a78 J (f4e43 y0 y1 y2 y3 y4 y5 y6 y7 y8) σ = if y8 = true then runK Try.prog call dem N f4c79 f4a79 (condC f4a78 J) (f4e43 y0 y1 y2 y3 y4 y5 y6 y7 y8) σ else runK Try.prog call dem N f4c80 f4a80 (condC f4a78 J) (f4e43 y0 y1 y2 y3 y4 y5 y6 y7 y8) σ := runK_cond' (o := Operand.tmp (97 : Nat)) (by kernel_rfl) (by kernel_rfl) (by kernel_rfl) (by kernel_rfl)
theorem f4n79 {R : Type} (call : Bool → CallF R) (dem : Bool) (N : Nat) (J : KF R) (e : Env) (σ : St) : runK Try.prog call dem N f4c79 f4a79 J e σ = runK Try.prog call dem N f4c81 f4a81 (seqC (fun K e σ => runK Try.prog call dem N f4c82 f4a82 K e σ) f4a79 J) e σ := runK_seq' (by kernel_rfl) (by kernel_rfl) (by kernel_rfl)
theorem f4r81_f4e43 {R : Type} (call : Bool → CallF R) (dem : Bool) (N : Nat) (y0 : Option (Nat × Nat)) (y1 : Nat) (y2 : Nat) (y3 : Option (Nat × Nat)) (y4 : Nat) (y5 : Option Nat) (y6 : Int) (y7 : Int) (y8 : Bool) (J : KF R) (σ : St) :
    runK Try.prog call dem N f4c81 f4a81 J (f4e43 y0 y1 y2 y3 y4 y5 y6 y7 y8) σ =
Option.bind (St.ld σ y2 (2 : Nat)) fun v0 =>
  Option.bind (AV.toInt IntKind.i64 v0) fun v1 =>
    call dem (13 : Nat) [AV.ptr y0, AV.int IntKind.i64 v1] σ fun v2 v3 =>
      Option.bind (AV.toTuple v2) fun v4 =>
        if List.length v4 = (2 : Nat) then
          Option.bind (List.head? v4) fun v5 =>
            Option.bind (AV.toSl (1 : Nat) v5) fun v6 =>
              Option.bind (List.head? (List.tail v4)) fun v7 =>
                Option.bind (AV.toInt IntKind.i64 v7) fun v8 =>
                  J Ex.normal
                    (f4e44 y0 y1 y2 (Sl.o v6) (Sl.len v6) (Sl.cap v6) v8 y3 y4 y5 y6 y7 y8 (Sl.o v6) (Sl.len v6) (Sl.cap v6) v8 y0 y2 v1 (Sl.o v6)
                      (Sl.len v6) (Sl.cap v6) v8 (Sl.o v6) (Sl.len v6) (Sl.cap v6) v8)
                    v3
        else none := hide (by kernel_rfl)
theorem f4z79_f4e44 (y0 : Option (Nat × Nat)) (y1 : Nat) (y2 : Nat) (y3 : Option (Nat × Nat)) (y4 : Nat) (y5 : Option Nat) (y6 : Int) (y7 : Option (Nat × Nat)) (y8 : Nat) (y9 : Option Nat) (y10 : Int) (y11 : Int) (y12 : Bool) (y13 : Option (Nat × Nat)) (y14 : Nat) (y15 : Option Nat) (y16 : Int) (y17 : Option (Nat × Nat)) (y18 : Nat) (y19 : Int) (y20 : Option (Nat × Nat)) (y21 : Nat) (y22 : Option Nat) (y23 : Int) (y24 : Option (Nat × Nat)) (y25 : Nat) (y26 : Option Nat) (y27 : Int) : Ann.clr f4a79 (f4e44 y0 y1 y2 y3 y4 y5 y6 y7 y8 y9 y10 y11 y12 y13 y14 y15 y16 y17 y18 y19 y20 y21 y22 y23 y24 y25 y26 y27) = f4e45 y0 y1 y3 y4 y5 y6 y7 y8 y9 y10 y11 := hide (by kernel_rfl)
theorem f4n82 {R : Type} (call : Bool → CallF R) (dem : Bool) (N : Nat) (J : KF R) (e : Env) (σ : St) : runK Try.prog call dem N f4c82 f4a82 J e σ = runK Try.prog call dem N f4c83 f4a83 (seqC (fun K e σ => runK Try.prog call dem N f4c84 f4a84 K e σ) f4a82 J) e σ := runK_seq' (by kernel_rfl) (by kernel_rfl) (by kernel_rfl)
theorem f4n83 {R : Type} (call : Bool → CallF R) (dem : Bool) (N : Nat) (J : KF R) (e : Env) (σ : St) : runK Try.prog call dem N f4c83 f4a83 J e σ = runK Try.prog call dem N f4c85 f4a85 (seqC (fun K e σ => runK Try.prog call dem N f4c86 f4a86 K e σ) f4a83 J) e σ := runK_seq' (by kernel_rfl) (by kernel_rfl) (by kernel_rfl)
theorem f4r85_f4e45 {R : Type} (call : Bool → CallF R) (dem : Bool) (N : Nat) (y0 : Option (Nat × Nat)) (y1 : Nat) (y2 : Option (Nat × Nat)) (y3 : Nat) (y4 : Option Nat) (y5 : Int) (y6 : Option (Nat × Nat)) (y7 : Nat) (y8 : Option Nat) (y9 : Int) (y10 : Int) (J : KF R) (σ : St) :
    runK Try.prog call dem N f4c85 f4a85 J (f4e45 y0 y1 y2 y3 y4 y5 y6 y7 y8 y9 y10) σ =
J Ex.normal (f4e46 y0 y1 y2 y3 y4 y5 y6 y7 y8 y9 y10 y5 (y5 != (0 : Int))) σ := hide (by kernel_rfl)
theorem f4z83_f4e46 (y0 : Option (Nat × Nat)) (y1 : Nat) (y2 : Option (Nat × Nat)) (y3 : Nat) (y4 : Option Nat) (y5 : Int) (y6 : Option (Nat × Nat)) (y7 : Nat) (y8 : Option Nat) (y9 : Int) (y10 : Int) (y11 : Int) (y12 : Bool) : Ann.clr f4a83 (f4e46 y0 y1 y2 y3 y4 y5 y6 y7 y8 y9 y10 y11 y12) = f4e47 y0 y1 y2 y3 y4 y6 y7 y8 y9 y10 y12 := hide (by kernel_rfl)
theorem f4x86_f4e47 {R : Type} (call : Bool → CallF R) (dem : Bool) (N : Nat) (y0 : Option (Nat × Nat)) (y1 : Nat) (y2 : Option (Nat × Nat)) (y3 : Nat) (y4 : Option Nat) (y5 : Option (Nat × Nat)) (y6 : Nat) (y7 : Option Nat) (y8 : Int) (y9 : Int) (y10 : Bool) (J : KF R) (σ : St) : runK Try.prog call dem N f4c86 f4a86 J (f4e47 y0 y1 y2 y3 y4 y5 y6 y7 y8 y9 y10) σ = if y10 = true then runK Try.prog call dem N f4c87 f4a87 (condC f4a86 J) (f4e47 y0 y1 y2 y3 y4 y5 y6 y7 y8 y9 y10) σ else runK Try.prog call dem N f4c88 f4a88 (condC f4a86 J) (f4e47 y0 y1 y2 y3 y4 y5 y6 y7 y8 y9 y10) σ := runK_cond' (o := Operand.tmp (107 : Nat)) (by kernel_rfl) (by kernel_rfl) (by kernel_rfl) (by kernel_rfl)
theorem f4y87_f4e47 {R : Type} (call : Bool → CallF R) (dem : Bool) (N : Nat) (y0 : Option (Nat × Nat)) (y1 : Nat) (y2 : Option (Nat × Nat)) (y3 : Nat) (y4 : Option Nat) (y5 : Option (Nat × Nat)) (y6 : Nat) (y7 : Option Nat) (y8 : Int) (y9 : Int) (y10 : Bool) (J : KF R) (σ : St) : runK Try.prog call dem N f4c87 f4a87 J (f4e47 y0 y1 y2 y3 y4 y5 y6 y7 y8 y9 y10) σ = J (.exit 1) (f4e12 y0 y1 y5 y6 y7 y8 y9) σ := runK_exit' (by kernel_rfl) (by kernel_rfl)
theorem f4n88 {R : Type} (call : Bool → CallF R) (dem : Bool) (N : Nat) (J : KF R) (e : Env) (σ : St) : runK Try.prog call dem N f4c88 f4a88 J e σ = J .normal e σ := runK_skip' (by kernel_rfl)
theorem f4z86_f4e47 (y0 : Option (Nat × Nat)) (y1 : Nat) (y2 : Option (Nat × Nat)) (y3 : Nat) (y4 : Option Nat) (y5 : Option (Nat × Nat)) (y6 : Nat) (y7 : Option Nat) (y8 : Int) (y9 : Int) (y10 : Bool) : Ann.clr f4a86 (f4e47 y0 y1 y2 y3 y4 y5 y6 y7 y8 y9 y10) = f4e48 y0 y1 y2 y3 y4 y5 y6 y7 y8 y9 := hide (by kernel_rfl)
theorem f4z82_f4e48 (y0 : Option (Nat × Nat)) (y1 : Nat) (y2 : Option (Nat × Nat)) (y3 : Nat) (y4 : Option Nat) (y5 : Option (Nat × Nat)) (y6 : Nat) (y7 : Option Nat) (y8 : Int) (y9 : Int) : Ann.clr f4a82 (f4e48 y0 y1 y2 y3 y4 y5 y6 y7 y8 y9) = f4e48 y0 y1 y2 y3 y4 y5 y6 y7 y8 y9 := hide (by kernel_rfl)
theorem f4n84 {R : Type} (call : Bool → CallF R) (dem : Bool) (N : Nat) (J : KF R) (e : Env) (σ : St) : runK Try.prog call dem N f4c84 f4a84 J e σ = runK Try.prog call dem N f4c89 f4a89 (seqC (fun K e σ => runK Try.prog call dem N f4c90 f4a90 K e σ) f4a84 J) e σ := runK_seq' (by kernel_rfl) (by kernel_rfl) (by kernel_rfl)
theorem f4n89 {R : Type} (call : Bool → CallF R) (dem : Bool) (N : Nat) (J : KF R) (e : Env) (σ : St) : runK Try.prog call dem N f4c89 f4a89 J e σ = runK Try.prog call dem N f4c91 f4a91 (seqC (fun K e σ => runK Try.prog call dem N f4c92 f4a92 K e σ) f4a89 J) e σ := runK_seq' (by kernel_rfl) (by kernel_rfl) (by kernel_rfl)
theorem f4r91_f4e48 {R : Type} (call : Bool → CallF R) (dem : Bool) (N : Nat) (y0 : Option (Nat × Nat)) (y1 : Nat) (y2 : Option (Nat × Nat)) (y3 : Nat) (y4 : Option Nat) (y5 : Option (Nat × Nat)) (y6 : Nat) (y7 : Option Nat) (y8 : Int) (y9 : Int) (J : KF R) (σ : St) :
    runK Try.prog call dem N f4c91 f4a91 J (f4e48 y0 y1 y2 y3 y4 y5 y6 y7 y8 y9) σ =
J Ex.normal (f4e49 y0 y1 y2 y3 y4 y5 y6 y7 y8 y9 y2 y3 y4 (↑y3 : Int) (0 : Int)) σ := hide (by kernel_rfl)
theorem f4z89_f4e49 (y0 : Option (Nat × Nat)) (y1 : Nat) (y2 : Option (Nat × Nat)) (y3 : Nat) (y4 : Option Nat) (y5 : Option (Nat × Nat)) (y6 : Nat) (y7 : Option Nat) (y8 : Int) (y9 : Int) (y10 : Option (Nat × Nat)) (y11 : Nat) (y12 : Option Nat) (y13 : Int) (y14 : Int) : Ann.clr f4a89 (f4e49 y0 y1 y2 y3 y4 y5 y6 y7 y8 y9 y10 y11 y12 y13 y14) = f4e50 y0 y1 y5 y6 y7 y8 y9 y10 y11 y12 y13 y14 := hide (by kernel_rfl)
theorem f4n92 {R : Type} (call : Bool → CallF R) (dem : Bool) (N : Nat) (J : KF R) (e : Env) (σ : St) : runK Try.prog call dem N f4c92 f4a92 J e σ = runK Try.prog call dem N f4c93 f4a93 (blockC 3 f4a92 J) e σ := runK_block' (by kernel_rfl) (by kernel_rfl)
theorem f4L93_eq {R : Type} (call : Bool → CallF R) (dem : Bool) (N : Nat) (J : KF R) (e : Env) (σ : St) : f4L93 call dem N J e σ = runK Try.prog call dem N f4c94 f4a94 J e σ := hide rfl
theorem f4z93_f4e50 (y0 : Option (Nat × Nat)) (y1 : Nat) (y2 : Option (Nat × Nat)) (y3 : Nat) (y4 : Option Nat) (y5 : Int) (y6 : Int) (y7 : Option (Nat × Nat)) (y8 : Nat) (y9 : Option Nat) (y10 : Int) (y11 : Int) : Ann.clr f4a93 (f4e50 y0 y1 y2 y3 y4 y5 y6 y7 y8 y9 y10 y11) = f4e50 y0 y1 y2 y3 y4 y5 y6 y7 y8 y9 y10 y11 := hide (by kernel_rfl)
theorem f4l93_f4e50 {R : Type} (call : Bool → CallF R) (dem : Bool) (N : Nat) (y0 : Option (Nat × Nat)) (y1 : Nat) (y2 : Option (Nat × Nat)) (y3 : Nat) (y4 : Option Nat) (y5 : Int) (y6 : Int) (y7 : Option (Nat × Nat)) (y8 : Nat) (y9 : Option Nat) (y10 : Int) (y11 : Int) (J : KF R) (σ : St) : runK Try.prog call dem N f4c93 f4a93 J (f4e50 y0 y1 y2 y3 y4 y5 y6 y7 y8 y9 y10 y11) σ = loopK (f4L93 call dem N) f4a93 N J (f4e50 y0 y1 y2 y3 y4 y5 y6 y7 y8 y9 y10 y11) σ := runK_loop' (by kernel_rfl) (by kernel_rfl) (by kernel_rfl)
theorem f4n94 {R : Type} (call : Bool → CallF R) (dem : Bool) (N : Nat) (J : KF R) (e : Env) (σ : St) : runK Try.prog call dem N f4c94 f4a94 J e σ = runK Try.prog call dem N f4c95 f4a95 (seqC (fun K e σ => runK Try.prog call dem N f4c96 f4a96 K e σ) f4a94 J) e σ := runK_seq' (by kernel_rfl) (by kernel_rfl) (by kernel_rfl)
theorem f4r95_f4e50 {R : Type} (call : Bool → CallF R) (dem : Bool) (N : Nat) (y0 : Option (Nat × Nat)) (y1 : Nat) (y2 : Option (Nat × Nat)) (y3 : Nat) (y4 : Option Nat) (y5 : Int) (y6 : Int) (y7 : Option (Nat × Nat)) (y8 : Nat) (y9 : Option Nat) (y10 : Int) (y11 : Int) (J : KF R) (σ : St) :
    runK Try.prog call dem N f4c95 f4a95 J (f4e50 y0 y1 y2 y3 y4 y5 y6 y7 y8 y9 y10 y11) σ =
J Ex.normal (f4e51 y0 y1 y2 y3 y4 y5 y6 y7 y8 y9 y10 y11 (decide (y11 < y10))) σ := hide (by kernel_rfl)
theorem f4z94_f4e51 (y0 : Option (Nat × Nat)) (y1 : Nat) (y2 : Option (Nat × Nat)) (y3 : Nat) (y4 : Option Nat) (y5 : Int) (y6 : Int) (y7 : Option (Nat × Nat)) (y8 : Nat) (y9 : Option Nat) (y10 : Int) (y11 : Int) (y12 : Bool) : Ann.clr f4a94 (f4e51 y0 y1 y2 y3 y4 y5 y6 y7 y8 y9 y10 y11 y12) = f4e51 y0 y1 y2 y3 y4 y5 y6 y7 y8 y9 y10 y11 y12 := hide (by kernel_rfl)
theorem f4n96 {R : Type} (call : Bool → CallF R) (dem : Bool) (N : Nat) (J : KF R) (e : Env) (σ : St) : runK Try.prog call dem N f4c96 f4a96 J e σ = runK Try.prog call dem N f4c97 f4a97 (seqC (fun K e σ => runK Try.prog call dem N f4c98 f4a98 K e σ) f4a96 J) e σ := runK_seq' (by kernel_rfl) (by kernel_rfl) (by kernel_rfl)
theorem f4x97_f4e51 {R : Type} (call : Bool → CallF R) (dem : Bool) (N : Nat) (y0 : Option (Nat × Nat)) (y1 : Nat) (y2 : Option (Nat × Nat)) (y3 : Nat) (y4 : Option Nat) (y5 : Int) (y6 : Int) (y7 : Option (Nat × Nat)) (y8 : Nat) (y9 : Option Nat) (y10 : Int) (y11 : Int) (y12 : Bool) (J : KF R) (σ : St) : runK Try.prog call dem N f4c97 f4a97 J (f4e51 y0 y1 y2 y3 y4 y5 y6 y7 y8 y9 y10 y11 y12) σ = if y12 = true then runK Try.prog call dem N f4c99 f4a99 (condC f4a97 J) (f4e51 y0 y1 y2 y3 y4 y5 y6 y7 y8 y9 y10 y11 y12) σ else runK Try.prog call dem N f4c100 f4a100 (condC f4a97 J) (f4e51 y0 y1 y2 y3 y4 y5 y6 y7 y8 y9 y10 y11 y12) σ := runK_cond' (o := Operand.tmp (111 : Nat)) (by kernel_rfl) (by kernel_rfl) (by kernel_rfl) (by kernel_rfl)
theorem f4n99 {R : Type} (call : Bool → CallF R) (dem : Bool) (N : Nat) (J : KF R) (e : Env) (σ : St) : runK Try.prog call dem N f4c99 f4a99 J e σ = J .normal e σ := runK_skip' (by kernel_rfl)
theorem f4z97_f4e51 (y0 : Option (Nat × Nat)) (y1 : Nat) (y2 : Option (Nat × Nat)) (y3 : Nat) (y4 : Option Nat) (y5 : Int) (y6 : Int) (y7 : Option (Nat × Nat)) (y8 : Nat) (y9 : Option Nat) (y10 : Int) (y11 : Int) (y12 : Bool) : Ann.clr f4a97 (f4e51 y0 y1 y2 y3 y4 y5 y6 y7 y8 y9 y10 y11 y12) = f4e50 y0 y1 y2 y3 y4 y5 y6 y7 y8 y9 y10 y11 := hide (by kernel_rfl)
theorem f4y100_f4e51 {R : Type} (call : Bool → CallF R) (dem : Bool) (N : Nat) (y0 : Option (Nat × Nat)) (y1 : Nat) (y2 : Option (Nat × Nat)) (y3 : Nat) (y4 : Option Nat) (y5 : Int) (y6 : Int) (y7 : Option (Nat × Nat)) (y8 : Nat) (y9 : Option Nat) (y10 : Int) (y11 : Int) (y12 : Bool) (J : KF R) (σ : St) : runK Try.prog call dem N f4c100 f4a100 J (f4e51 y0 y1 y2 y3 y4 y5 y6 y7 y8 y9 y10 y11 y12) σ = J (.exit 3) (f4e12 y0 y1 y2 y3 y4 y5 y6) σ := runK_exit' (by kernel_rfl) (by kernel_rfl)
theorem f4z96_f4e50 (y0 : Option (Nat × Nat)) (y1 : Nat) (y2 : Option (Nat × Nat)) (y3 : Nat) (y4 : Option Nat) (y5 : Int) (y6 : Int) (y7 : Option (Nat × Nat)) (y8 : Nat) (y9 : Option Nat) (y10 : Int) (y11 : Int) : Ann.clr f4a96 (f4e50 y0 y1 y2 y3 y4 y5 y6 y7 y8 y9 y10 y11) = f4e50 y0 y1 y2 y3 y4 y5 y6 y7 y8 y9 y10 y11 := hide (by kernel_rfl)
theorem f4n98 {R : Type} (call : Bool → CallF R) (dem : Bool) (N : Nat) (J : KF R) (e : Env) (σ : St) : runK Try.prog call dem N f4c98 f4a98 J e σ = runK Try.prog call dem N f4c101 f4a101 (seqC (fun K e σ => runK Try.prog call dem N f4c102 f4a102 K e σ) f4a98 J) e σ := runK_seq' (by kernel_rfl) (by kernel_rfl) (by kernel_rfl)
theorem f4n101 {R : Type} (call : Bool → CallF R) (dem : Bool) (N : Nat) (J : KF R) (e : Env) (σ : St) : runK Try.prog call dem N f4c101 f4a101 J e σ = runK Try.prog call dem N f4c103 f4a103 (blockC 4 f4a101 J) e σ := runK_block' (by kernel_rfl) (by kernel_rfl)
theorem f4n103 {R : Type} (call : Bool → CallF R) (dem : Bool) (N : Nat) (J : KF R) (e : Env) (σ : St) : runK Try.prog call dem N f4c103 f4a103 J e σ = runK Try.prog call dem N f4c104 f4a104 (seqC (fun K e σ => runK Try.prog call dem N f4c105 f4a105 K e σ) f4a103 J) e σ := runK_seq' (by kernel_rfl) (by kernel_rfl) (by kernel_rfl)
theorem f4r104_f4e50 {R : Type} (call : Bool → CallF R) (dem : Bool) (N : Nat) (y0 : Option (Nat × Nat)) (y1 : Nat) (y2 : Option (Nat × Nat)) (y3 : Nat) (y4 : Option Nat) (y5 : Int) (y6 : Int) (y7 : Option (Nat × Nat)) (y8 : Nat) (y9 : Option Nat) (y10 : Int) (y11 : Int) (J : KF R) (σ : St) :
    runK Try.prog call dem N f4c104 f4a104 J (f4e50 y0 y1 y2 y3 y4 y5 y6 y7 y8 y9 y10 y11) σ =
if (0 : Int) ≤ y11 ∧ y11 < (↑y8 : Int) then
  Option.bind y7 fun v0 =>
    Option.bind (St.ld σ (Prod.fst v0) (Prod.snd v0 + Int.toNat y11 * (1 : Nat))) fun v1 =>
      Option.bind (AV.toInt IntKind.i64 v1) fun v2 =>
        J Ex.normal (f4e52 y0 y1 v2 y2 y3 y4 y5 y6 y7 y8 y9 y10 y11 (some (Prod.fst v0, Prod.snd v0 + Int.toNat y11 * (1 : Nat))) v2) σ
else none := hide (by kernel_rfl)
theorem f4z103_f4e52 (y0 : Option (Nat × Nat)) (y1 : Nat) (y2 : Int) (y3 : Option (Nat × Nat)) (y4 : Nat) (y5 : Option Nat) (y6 : Int) (y7 : Int) (y8 : Option (Nat × Nat)) (y9 : Nat) (y10 : Option Nat) (y11 : Int) (y12 : Int) (y13 : Option (Nat × Nat)) (y14 : Int) : Ann.clr f4a103 (f4e52 y0 y1 y2 y3 y4 y5 y6 y7 y8 y9 y10 y11 y12 y13 y14) = f4e53 y0 y1 y2 y3 y4 y5 y6 y7 y8 y9 y10 y11 y12 := hide (by kernel_rfl)
theorem f4n105 {R : Type} (call : Bool → CallF R) (dem : Bool) (N : Nat) (J : KF R) (e : Env) (σ : St) : runK Try.prog call dem N f4c105 f4a105 J e σ = runK Try.prog call dem N f4c106 f4a106 (seqC (fun K e σ => runK Try.prog call dem N f4c107 f4a107 K e σ) f4a105 J) e σ := runK_seq' (by kernel_rfl) (by kernel_rfl) (by kernel_rfl)
theorem f4n106 {R : Type} (call : Bool → CallF R) (dem : Bool) (N : Nat) (J : KF R) (e : Env) (σ : St) : runK Try.prog call dem N f4c106 f4a106 J e σ = runK Try.prog call dem N f4c108 f4a108 (seqC (fun K e σ => runK Try.prog call dem N f4c109 f4a109 K e σ) f4a106 J) e σ := runK_seq' (by kernel_rfl) (by kernel_rfl) (by kernel_rfl)
theorem f4r108_f4e53 {R : Type} (call : Bool → CallF R) (dem : Bool) (N : Nat) (y0 : Option (Nat × Nat)) (y1 : Nat) (y2 : Int) (y3 : Option (Nat × Nat)) (y4 : Nat) (y5 : Option Nat) (y6 : Int) (y7 : Int) (y8 : Option (Nat × Nat)) (y9 : Nat) (y10 : Option Nat) (y11 : Int) (y12 : Int) (J : KF R) (σ : St) :
    runK Try.prog call dem N f4c108 f4a108 J (f4e53 y0 y1 y2 y3 y4 y5 y6 y7 y8 y9 y10 y11 y12) σ =
if decide (y2 < (0 : Int)) = true then
  J Ex.normal (f4e54 y0 y1 y2 y3 y4 y5 y6 y7 y8 y9 y10 y11 y12 y2 (decide (y2 < (0 : Int))) true true true true true true) σ
else
  if decide (y2 > (15 : Int)) = true then
    J Ex.normal
      (f4e55 y0 y1 y2 y3 y4 y5 y6 y7 y8 y9 y10 y11 y12 y2 (decide (y2 < (0 : Int))) false y2 (decide (y2 > (15 : Int))) (decide (y2 > (15 : Int)))
        true true true true)
      σ
  else
    if (0 : Nat) < (1 : Nat) ∧ (0 : Int) ≤ y2 ∧ y2 < (16 : Int) then
      Option.bind (St.ld σ y1 ((0 : Nat) + Int.toNat y2 * (1 : Nat))) fun v0 =>
        Option.bind (AV.toInt IntKind.i64 v0) fun v1 =>
          if (v1 == (0 : Int)) = true then
            J Ex.normal
              (f4e56 y0 y1 y2 y3 y4 y5 y6 y7 y8 y9 y10 y11 y12 y2 (decide (y2 < (0 : Int))) false y2 (decide (y2 > (15 : Int)))
                (decide (y2 > (15 : Int))) false y2 (some (y1, (0 : Nat) + Int.toNat y2 * (1 : Nat))) v1 (v1 == (0 : Int)) (v1 == (0 : Int)) true
                true)
              σ
          else
            if (0 : Nat) < (1 : Nat) ∧ (0 : Int) ≤ y2 ∧ y2 < (16 : Int) then
              Option.bind (St.ld σ y1 ((0 : Nat) + Int.toNat y2 * (1 : Nat))) fun v2 =>
                Option.bind (AV.toInt IntKind.i64 v2) fun v3 =>
                  call false (12 : Nat) [AV.ptr y0] σ fun v4 v5 =>
                    Option.bind (AV.toInt IntKind.i64 v4) fun v6 =>
                      if St.same v5 y1 ((0 : Nat) + Int.toNat y2 * (1 : Nat)) [AV.int IntKind.i64 v3] = true then
                        J Ex.normal
                          (f4e57 y0 y1 y2 y3 y4 y5 y6 y7 y8 y9 y10 y11 y12 y2 (decide (y2 < (0 : Int))) false y2 (decide (y2 > (15 : Int)))
                            (decide (y2 > (15 : Int))) false y2 (some (y1, (0 : Nat) + Int.toNat y2 * (1 : Nat))) v1 (v1 == (0 : Int))
                            (v1 == (0 : Int)) false y2 (some (y1, (0 : Nat) + Int.toNat y2 * (1 : Nat))) v3 y0 v6 (decide (v3 > v6))
                            (decide (v3 > v6)))
                          v5
                      else none
            else none
    else none := hide (by kernel_rfl)
theorem f4z106_f4e54 (y0 : Option (Nat × Nat)) (y1 : Nat) (y2 : Int) (y3 : Option (Nat × Nat)) (y4 : Nat) (y5 : Option Nat) (y6 : Int) (y7 : Int) (y8 : Option (Nat × Nat)) (y9 : Nat) (y10 : Option Nat) (y11 : Int) (y12 : Int) (y13 : Int) (y14 : Bool) (y15 : Bool) (y16 : Bool) (y17 : Bool) (y18 : Bool) (y19 : Bool) (y20 : Bool) : Ann.clr f4a106 (f4e54 y0 y1 y2 y3 y4 y5 y6 y7 y8 y9 y10 y11 y12 y13 y14 y15 y16 y17 y18 y19 y20) = f4e58 y0 y1 y2 y3 y4 y5 y6 y7 y8 y9 y10 y11 y12 y20 := hide (by kernel_rfl)
theorem f4x109_f4e58 {R : Type} (call : Bool → CallF R) (dem : Bool) (N : Nat) (y0 : Option (Nat × Nat)) (y1 : Nat) (y2 : Int) (y3 : Option (Nat × Nat)) (y4 : Nat) (y5 : Option Nat) (y6 : Int) (y7 : Int) (y8 : Option (Nat × Nat)) (y9 : Nat) (y10 : Option Nat) (y11 : Int) (y12 : Int) (y13 : Bool) (J : KF R) (σ : St) : runK Try.prog call dem N f4c109 f4a109 J (f4e58 y0 y1 y2 y3 y4 y5 y6 y7 y8 y9 y10 y11 y12 y13) σ = if y13 = true then runK Try.prog call dem N f4c110 f4a110 (condC f4a109 J) (f4e58 y0 y1 y2 y3 y4 y5 y6 y7 y8 y9 y10 y11 y12 y13) σ else runK Try.prog call dem N f4c111 f4a111 (condC f4a109 J) (f4e58 y0 y1 y2 y3 y4 y5 y6 y7 y8 y9 y10 y11 y12 y13) σ := runK_cond' (o := Operand.tmp (133 : Nat)) (by kernel_rfl) (by kernel_rfl) (by kernel_rfl) (by kernel_rfl)
theorem f4n110 {R : Type} (call : Bool → CallF R) (dem : Bool) (N : Nat) (J : KF R) (e : Env) (σ : St) : runK Try.prog call dem N f4c110 f4a110 J e σ = runK Try.prog call dem N f4c112 f4a112 (seqC (fun K e σ => runK Try.prog call dem N f4c113 f4a113 K e σ) f4a110 J) e σ := runK_seq' (by kernel_rfl) (by kernel_rfl) (by kernel_rfl)
theorem f4r112_f4e58 {R : Type} (call : Bool → CallF R) (dem : Bool) (N : Nat) (y0 : Option (Nat × Nat)) (y1 : Nat) (y2 : Int) (y3 : Option (Nat × Nat)) (y4 : Nat) (y5 : Option Nat) (y6 : Int) (y7 : Int) (y8 : Option (Nat × Nat)) (y9 : Nat) (y10 : Option Nat) (y11 : Int) (y12 : Int) (y13 : Bool) (J : KF R) (σ : St) :
    runK Try.prog call dem N f4c112 f4a112 J (f4e58 y0 y1 y2 y3 y4 y5 y6 y7 y8 y9 y10 y11 y12 y13) σ =
J Ex.normal (f4e59 false y0 y1 y2 y3 y4 y5 y6 y7 y8 y9 y10 y11 y12 y13) σ := hide (by kernel_rfl)
theorem f4z110_f4e59 (y0 : Bool) (y1 : Option (Nat × Nat)) (y2 : Nat) (y3 : Int) (y4 : Option (Nat × Nat)) (y5 : Nat) (y6 : Option Nat) (y7 : Int) (y8 : Int) (y9 : Option (Nat × Nat)) (y10 : Nat) (y11 : Option Nat) (y12 : Int) (y13 : Int) (y14 : Bool) : Ann.clr f4a110 (f4e59 y0 y1 y2 y3 y4 y5 y6 y7 y8 y9 y10 y11 y12 y13 y14) = f4e9 y0 := hide (by kernel_rfl)
theorem f4y113_f4e9 {R : Type} (call : Bool → CallF R) (dem : Bool) (N : Nat) (y0 : Bool) (J : KF R) (σ : St) : runK Try.prog call dem N f4c113 f4a113 J (f4e9 y0) σ = J .ret (f4e9 y0) σ := runK_ret' (by kernel_rfl) (by kernel_rfl)
theorem f4n111 {R : Type} (call : Bool → CallF R) (dem : Bool) (N : Nat) (J : KF R) (e : Env) (σ : St) : runK Try.prog call dem N f4c111 f4a111 J e σ = J .normal e σ := runK_skip' (by kernel_rfl)
theorem f4z109_f4e58 (y0 : Option (Nat × Nat)) (y1 : Nat) (y2 : Int) (y3 : Option (Nat × Nat)) (y4 : Nat) (y5 : Option Nat) (y6 : Int) (y7 : Int) (y8 : Option (Nat × Nat)) (y9 : Nat) (y10 : Option Nat) (y11 : Int) (y12 : Int) (y13 : Bool) : Ann.clr f4a109 (f4e58 y0 y1 y2 y3 y4 y5 y6 y7 y8 y9 y10 y11 y12 y13) = f4e53 y0 y1 y2 y3 y4 y5 y6 y7 y8 y9 y10 y11 y12 := hide (by kernel_rfl)
theorem f4z106_f4e55 (y0 : Option (Nat × Nat)) (y1 : Nat) (y2 : Int) (y3 : Option (Nat × Nat)) (y4 : Nat) (y5 : Option Nat) (y6 : Int) (y7 : Int) (y8 : Option (Nat × Nat)) (y9 : Nat) (y10 : Option Nat) (y11 : Int) (y12 : Int) (y13 : Int) (y14 : Bool) (y15 : Bool) (y16 : Int) (y17 : Bool) (y18 : Bool) (y19 : Bool) (y20 : Bool) (y21 : Bool) (y22 : Bool) : Ann.clr f4a106 (f4e55 y0 y1 y2 y3 y4 y5 y6 y7 y8 y9 y10 y11 y12 y13 y14 y15 y16 y17 y18 y19 y20 y21 y22) = f4e58 y0 y1 y2 y3 y4 y5 y6 y7 y8 y9 y10 y11 y12 y22 := hide (by kernel_rfl)
theorem f4z106_f4e56 (y0 : Option (Nat × Nat)) (y1 : Nat) (y2 : Int) (y3 : Option (Nat × Nat)) (y4 : Nat) (y5 : Option Nat) (y6 : Int) (y7 : Int) (y8 : Option (Nat × Nat)) (y9 : Nat) (y10 : Option Nat) (y11 : Int) (y12 : Int) (y13 : Int) (y14 : Bool) (y15 : Bool) (y16 : Int) (y17 : Bool) (y18 : Bool) (y19 : Bool) (y20 : Int) (y21 : Option (Nat × Nat)) (y22 : Int) (y23 : Bool) (y24 : Bool) (y25 : Bool) (y26 : Bool) : Ann.clr f4a106 (f4e56 y0 y1 y2 y3 y4 y5 y6 y7 y8 y9 y10 y11 y12 y13 y14 y15 y16 y17 y18 y19 y20 y21 y22 y23 y24 y25 y26) = f4e58 y0 y1 y2 y3 y4 y5 y6 y7 y8 y9 y10 y11 y12 y26 := hide (by kernel_rfl)
theorem f4z106_f4e57 (y0 : Option (Nat × Nat)) (y1 : Nat) (y2 : Int) (y3 : Option (Nat × Nat)) (y4 : Nat) (y5 : Option Nat) (y6 : Int) (y7 : Int) (y8 : Option (Nat × Nat)) (y9 : Nat) (y10 : Option Nat) (y11 : Int) (y12 : Int) (y13 : Int) (y14 : Bool) (y15 : Bool) (y16 : Int) (y17 : Bool) (y18 : Bool) (y19 : Bool) (y20 : Int) (y21 : Option (Nat × Nat)) (y22 : Int) (y23 : Bool) (y24 : Bool) (y25 : Bool) (y26 : Int) (y27 : Option (Nat × Nat)) (y28 : Int) (y29 : Option (Nat × Nat)) (y30 : Int) (y31 : Bool) (y32 : Bool) : Ann.clr f4a106 (f4e57 y0 y1 y2 y3 y4 y5 y6 y7 y8 y9 y10 y11 y12 y13 y14 y15 y16 y17 y18 y19 y20 y21 y22 y23 y24 y25 y26 y27 y28 y29 y30 y31 y32) = f4e58 y0 y1 y2 y3 y4 y5 y6 y7 y8 y9 y10 y11 y12 y32 := hide (by kernel_rfl)
theorem f4z105_f4e53 (y0 : Option (Nat × Nat)) (y1 : Nat) (y2 : Int) (y3 : Option (Nat × Nat)) (y4 : Nat) (y5 : Option Nat) (y6 : Int) (y7 : Int) (y8 : Option (Nat × Nat)) (y9 : Nat) (y10 : Option Nat) (y11 : Int) (y12 : Int) : Ann.clr f4a105 (f4e53 y0 y1 y2 y3 y4 y5 y6 y7 y8 y9 y10 y11 y12) = f4e53 y0 y1 y2 y3 y4 y5 y6 y7 y8 y9 y10 y11 y12 := hide (by kernel_rfl)
theorem f4r107_f4e53 {R : Type} (call : Bool → CallF R) (dem : Bool) (N : Nat) (y0 : Option (Nat × Nat)) (y1 : Nat) (y2 : Int) (y3 : Option (Nat × Nat)) (y4 : Nat) (y5 : Option Nat) (y6 : Int) (y7 : Int) (y8 : Option (Nat × Nat)) (y9 : Nat) (y10 : Option Nat) (y11 : Int) (y12 : Int) (J : KF R) (σ : St) :
    runK Try.prog call dem N f4c107 f4a107 J (f4e53 y0 y1 y2 y3 y4 y5 y6 y7 y8 y9 y10 y11 y12) σ =
if (0 : Nat) < (1 : Nat) ∧ (0 : Int) ≤ y2 ∧ y2 < (16 : Int) then
  Option.bind (St.st σ y1 ((0 : Nat) + Int.toNat y2 * (1 : Nat)) [AV.int IntKind.i64 (0 : Int)]) fun v0 =>
    J Ex.normal (f4e60 y0 y1 y2 y3 y4 y5 y6 y7 y8 y9 y10 y11 y12 y2 (some (y1, (0 : Nat) + Int.toNat y2 * (1 : Nat)))) v0
else none := hide (by kernel_rfl)
theorem f4z101_f4e60 (y0 : Option (Nat × Nat)) (y1 : Nat) (y2 : Int) (y3 : Option (Nat × Nat)) (y4 : Nat) (y5 : Option Nat) (y6 : Int) (y7 : Int) (y8 : Option (Nat × Nat)) (y9 : Nat) (y10 : Option Nat) (y11 : Int) (y12 : Int) (y13 : Int) (y14 : Option (Nat × Nat)) : Ann.clr f4a101 (f4e60 y0 y1 y2 y3 y4 y5 y6 y7 y8 y9 y10 y11 y12 y13 y14) = f4e50 y0 y1 y3 y4 y5 y6 y7 y8 y9 y10 y11 y12 := hide (by kernel_rfl)
theorem f4z98_f4e50 (y0 : Option (Nat × Nat)) (y1 : Nat) (y2 : Option (Nat × Nat)) (y3 : Nat) (y4 : Option Nat) (y5 : Int) (y6 : Int) (y7 : Option (Nat × Nat)) (y8 : Nat) (y9 : Option Nat) (y10 : Int) (y11 : Int) : Ann.clr f4a98 (f4e50 y0 y1 y2 y3 y4 y5 y6 y7 y8 y9 y10 y11) = f4e50 y0 y1 y2 y3 y4 y5 y6 y7 y8 y9 y10 y11 := hide (by kernel_rfl)
theorem f4r102_f4e50 {R : Type} (call : Bool → CallF R) (dem : Bool) (N : Nat) (y0 : Option (Nat × Nat)) (y1 : Nat) (y2 : Option (Nat × Nat)) (y3 : Nat) (y4 : Option Nat) (y5 : Int) (y6 : Int) (y7 : Option (Nat × Nat)) (y8 : Nat) (y9 : Option Nat) (y10 : Int) (y11 : Int) (J : KF R) (σ : St) :
    runK Try.prog call dem N f4c102 f4a102 J (f4e50 y0 y1 y2 y3 y4 y5 y6 y7 y8 y9 y10 y11) σ =
J Ex.normal (f4e61 y0 y1 y2 y3 y4 y5 y6 y7 y8 y9 y10 (IntKind.wrap IntKind.i64 (y11 + (1 : Int))) (IntKind.wrap IntKind.i64 (y11 + (1 : Int)))) σ := hide (by kernel_rfl)
theorem f4z93_f4e61 (y0 : Option (Nat × Nat)) (y1 : Nat) (y2 : Option (Nat × Nat)) (y3 : Nat) (y4 : Option Nat) (y5 : Int) (y6 : Int) (y7 : Option (Nat × Nat)) (y8 : Nat) (y9 : Option Nat) (y10 : Int) (y11 : Int) (y12 : Int) : Ann.clr f4a93 (f4e61 y0 y1 y2 y3 y4 y5 y6 y7 y8 y9 y10 y11 y12) = f4e50 y0 y1 y2 y3 y4 y5 y6 y7 y8 y9 y10 y11 := hide (by kernel_rfl)
theorem f4z92_f4e12 (y0 : Option (Nat × Nat)) (y1 : Nat) (y2 : Option (Nat × Nat)) (y3 : Nat) (y4 : Option Nat) (y5 : Int) (y6 : Int) : Ann.clr f4a92 (f4e12 y0 y1 y2 y3 y4 y5 y6) = f4e12 y0 y1 y2 y3 y4 y5 y6 := hide (by kernel_rfl)
theorem f4z84_f4e12 (y0 : Option (Nat × Nat)) (y1 : Nat) (y2 : Option (Nat × Nat)) (y3 : Nat) (y4 : Option Nat) (y5 : Int) (y6 : Int) : Ann.clr f4a84 (f4e12 y0 y1 y2 y3 y4 y5 y6) = f4e12 y0 y1 y2 y3 y4 y5 y6 := hide (by kernel_rfl)
theorem f4n90 {R : Type} (call : Bool → CallF R) (dem : Bool) (N : Nat) (J : KF R) (e : Env) (σ : St) : runK Try.prog call dem N f4c90 f4a90 J e σ = runK Try.prog call dem N f4c114 f4a114 (seqC (fun K e σ => runK Try.prog call dem N f4c115 f4a115 K e σ) f4a90 J) e σ := runK_seq' (by kernel_rfl) (by kernel_rfl) (by kernel_rfl)
theorem f4r114_f4e12 {R : Type} (call : Bool → CallF R) (dem : Bool) (N : Nat) (y0 : Option (Nat × Nat)) (y1 : Nat) (y2 : Option (Nat × Nat)) (y3 : Nat) (y4 : Option Nat) (y5 : Int) (y6 : Int) (J : KF R) (σ : St) :
    runK Try.prog call dem N f4c114 f4a114 J (f4e12 y0 y1 y2 y3 y4 y5 y6) σ =
Option.bind (St.ld σ y1 (0 : Nat)) fun v0 =>
  Option.bind (AV.toInt IntKind.i64 v0) fun v1 =>
    Option.bind (St.ld σ y1 (1 : Nat)) fun v2 =>
      Option.bind (AV.toInt IntKind.i64 v2) fun v3 =>
        Option.bind (St.ld σ y1 (2 : Nat)) fun v4 =>
          Option.bind (AV.toInt IntKind.i64 v4) fun v5 =>
            Option.bind (St.ld σ y1 (3 : Nat)) fun v6 =>
              Option.bind (AV.toInt IntKind.i64 v6) fun v7 =>
                Option.bind (St.ld σ y1 (4 : Nat)) fun v8 =>
                  Option.bind (AV.toInt IntKind.i64 v8) fun v9 =>
                    Option.bind (St.ld σ y1 (5 : Nat)) fun v10 =>
                      Option.bind (AV.toInt IntKind.i64 v10) fun v11 =>
                        Option.bind (St.ld σ y1 (6 : Nat)) fun v12 =>
                          Option.bind (AV.toInt IntKind.i64 v12) fun v13 =>
                            Option.bind (St.ld σ y1 (7 : Nat)) fun v14 =>
                              Option.bind (AV.toInt IntKind.i64 v14) fun v15 =>
                                Option.bind (St.ld σ y1 (8 : Nat)) fun v16 =>
                                  Option.bind (AV.toInt IntKind.i64 v16) fun v17 =>
                                    Option.bind (St.ld σ y1 (9 : Nat)) fun v18 =>
                                      Option.bind (AV.toInt IntKind.i64 v18) fun v19 =>
                                        Option.bind (St.ld σ y1 (10 : Nat)) fun v20 =>
                                          Option.bind (AV.toInt IntKind.i64 v20) fun v21 =>
                                            Option.bind (St.ld σ y1 (11 : Nat)) fun v22 =>
                                              Option.bind (AV.toInt IntKind.i64 v22) fun v23 =>
                                                Option.bind (St.ld σ y1 (12 : Nat)) fun v24 =>
                                                  Option.bind (AV.toInt IntKind.i64 v24) fun v25 =>
                                                    Option.bind (St.ld σ y1 (13 : Nat)) fun v26 =>
                                                      Option.bind (AV.toInt IntKind.i64 v26) fun v27 =>
                                                        Option.bind (St.ld σ y1 (14 : Nat)) fun v28 =>
                                                          Option.bind (AV.toInt IntKind.i64 v28) fun v29 =>
                                                            Option.bind (St.ld σ y1 (15 : Nat)) fun v30 =>
                                                              Option.bind (AV.toInt IntKind.i64 v30) fun v31 =>
                                                                J Ex.normal
                                                                  (f4e62 y0 y1 y2 y3 y4 y5 y6 v1 v3 v5 v7 v9 v11 v13 v15 v17 v19 v21 v23 v25 v27 v29
                                                                    v31 (0 : Int))
                                                                  σ := hide (by kernel_rfl)
theorem f4z90_f4e62 (y0 : Option (Nat × Nat)) (y1 : Nat) (y2 : Option (Nat × Nat)) (y3 : Nat) (y4 : Option Nat) (y5 : Int) (y6 : Int) (y7 : Int) (y8 : Int) (y9 : Int) (y10 : Int) (y11 : Int) (y12 : Int) (y13 : Int) (y14 : Int) (y15 : Int) (y16 : Int) (y17 : Int) (y18 : Int) (y19 : Int) (y20 : Int) (y21 : Int) (y22 : Int) (y23 : Int) : Ann.clr f4a90 (f4e62 y0 y1 y2 y3 y4 y5 y6 y7 y8 y9 y10 y11 y12 y13 y14 y15 y16 y17 y18 y19 y20 y21 y22 y23) = f4e62 y0 y1 y2 y3 y4 y5 y6 y7 y8 y9 y10 y11 y12 y13 y14 y15 y16 y17 y18 y19 y20 y21 y22 y23 := hide (by kernel_rfl)
theorem f4n115 {R : Type} (call : Bool → CallF R) (dem : Bool) (N : Nat) (J : KF R) (e : Env) (σ : St) : runK Try.prog call dem N f4c115 f4a115 J e σ = runK Try.prog call dem N f4c116 f4a116 (blockC 5 f4a115 J) e σ := runK_block' (by kernel_rfl) (by kernel_rfl)
theorem f4L116_eq {R : Type} (call : Bool → CallF R) (dem : Bool) (N : Nat) (J : KF R) (e : Env) (σ : St) : f4L116 call dem N J e σ = runK Try.prog call dem N f4c117 f4a117 J e σ := hide rfl
theorem f4z116_f4e62 (y0 : Option (Nat × Nat)) (y1 : Nat) (y2 : Option (Nat × Nat)) (y3 : Nat) (y4 : Option Nat) (y5 : Int) (y6 : Int) (y7 : Int) (y8 : Int) (y9 : Int) (y10 : Int) (y11 : Int) (y12 : Int) (y13 : Int) (y14 : Int) (y15 : Int) (y16 : Int) (y17 : Int) (y18 : Int) (y19 : Int) (y20 : Int) (y21 : Int) (y22 : Int) (y23 : Int) : Ann.clr f4a116 (f4e62 y0 y1 y2 y3 y4 y5 y6 y7 y8 y9 y10 y11 y12 y13 y14 y15 y16 y17 y18 y19 y20 y21 y22 y23) = f4e62 y0 y1 y2 y3 y4 y5 y6 y7 y8 y9 y10 y11 y12 y13 y14 y15 y16 y17 y18 y19 y20 y21 y22 y23 := hide (by kernel_rfl)
theorem f4l116_f4e62 {R : Type} (call : Bool → CallF R) (dem : Bool) (N : Nat) (y0 : Option (Nat × Nat)) (y1 : Nat) (y2 : Option (Nat × Nat)) (y3 : Nat) (y4 : Option Nat) (y5 : Int) (y6 : Int) (y7 : Int) (y8 : Int) (y9 : Int) (y10 : Int) (y11 : Int) (y12 : Int) (y13 : Int) (y14 : Int) (y15 : Int) (y16 : Int) (y17 : Int) (y18 : Int) (y19 : Int) (y20 : Int) (y21 : Int) (y22 : Int) (y23 : Int) (J : KF R) (σ : St) : runK Try.prog call dem N f4c116 f4a116 J (f4e62 y0 y1 y2 y3 y4 y5 y6 y7 y8 y9 y10 y11 y12 y13 y14 y15 y16 y17 y18 y19 y20 y21 y22 y23) σ = loopK (f4L116 call dem N) f4a116 N J (f4e62 y0 y1 y2 y3 y4 y5 y6 y7 y8 y9 y10 y11 y12 y13 y14 y15 y16 y17 y18 y19 y20 y21 y22 y23) σ := runK_loop' (by kernel_rfl) (by kernel_rfl) (by kernel_rfl)
theorem f4n117 {R : Type} (call : Bool → CallF R) (dem : Bool) (N : Nat) (J : KF R) (e : Env) (σ : St) : runK Try.prog call dem N f4c117 f4a117 J e σ = runK Try.prog call dem N f4c118 f4a118 (seqC (fun K e σ => runK Try.prog call dem N f4c119 f4a119 K e σ) f4a117 J) e σ := runK_seq' (by kernel_rfl) (by kernel_rfl) (by kernel_rfl)
theorem f4r118_f4e62 {R : Type} (call : Bool → CallF R) (dem : Bool) (N : Nat) (y0 : Option (Nat × Nat)) (y1 : Nat) (y2 : Option (Nat × Nat)) (y3 : Nat) (y4 : Option Nat) (y5 : Int) (y6 : Int) (y7 : Int) (y8 : Int) (y9 : Int) (y10 : Int) (y11 : Int) (y12 : Int) (y13 : Int) (y14 : Int) (y15 : Int) (y16 : Int) (y17 : Int) (y18 : Int) (y19 : Int) (y20 : Int) (y21 : Int) (y22 : Int) (y23 : Int) (J : KF R) (σ : St) :
    runK Try.prog call dem N f4c118 f4a118 J (f4e62 y0 y1 y2 y3 y4 y5 y6 y7 y8 y9 y10 y11 y12 y13 y14 y15 y16 y17 y18 y19 y20 y21 y22 y23) σ =
J Ex.normal (f4e63 y0 y1 y2 y3 y4 y5 y6 y7 y8 y9 y10 y11 y12 y13 y14 y15 y16 y17 y18 y19 y20 y21 y22 y23 (decide (y23 < (16 : Int)))) σ := hide (by kernel_rfl)
theorem f4z117_f4e63 (y0 : Option (Nat × Nat)) (y1 : Nat) (y2 : Option (Nat × Nat)) (y3 : Nat) (y4 : Option Nat) (y5 : Int) (y6 : Int) (y7 : Int) (y8 : Int) (y9 : Int) (y10 : Int) (y11 : Int) (y12 : Int) (y13 : Int) (y14 : Int) (y15 : Int) (y16 : Int) (y17 : Int) (y18 : Int) (y19 : Int) (y20 : Int) (y21 : Int) (y22 : Int) (y23 : Int) (y24 : Bool) : Ann.clr f4a117 (f4e63 y0 y1 y2 y3 y4 y5 y6 y7 y8 y9 y10 y11 y12 y13 y14 y15 y16 y17 y18 y19 y20 y21 y22 y23 y24) = f4e63 y0 y1 y2 y3 y4 y5 y6 y7 y8 y9 y10 y11 y12 y13 y14 y15 y16 y17 y18 y19 y20 y21 y22 y23 y24 := hide (by kernel_rfl)
theorem f4n119 {R : Type} (call : Bool → CallF R) (dem : Bool) (N : Nat) (J : KF R) (e : Env) (σ : St) : runK Try.prog call dem N f4c119 f4a119 J e σ = runK Try.prog call dem N f4c120 f4a120 (seqC (fun K e σ => runK Try.prog call dem N f4c121 f4a121 K e σ) f4a119 J) e σ := runK_seq' (by kernel_rfl) (by kernel_rfl) (by kernel_rfl)
theorem f4x120_f4e63 {R : Type} (call : Bool → CallF R) (dem : Bool) (N : Nat) (y0 : Option (Nat × Nat)) (y1 : Nat) (y2 : Option (Nat × Nat)) (y3 : Nat) (y4 : Option Nat) (y5 : Int) (y6 : Int) (y7 : Int) (y8 : Int) (y9 : Int) (y10 : Int) (y11 : Int) (y12 : Int) (y13 : Int) (y14 : Int) (y15 : Int) (y16 : Int) (y17 : Int) (y18 : Int) (y19 : Int) (y20 : Int) (y21 : Int) (y22 : Int) (y23 : Int) (y24 : Bool) (J : KF R) (σ : St) : runK Try.prog call dem N f4c120 f4a120 J (f4e63 y0 y1 y2 y3 y4 y5 y6 y7 y8 y9 y10 y11 y12 y13 y14 y15 y16 y17 y18 y19 y20 y21 y22 y23 y24) σ = if y24 = true then runK Try.prog call dem N f4c122 f4a122 (condC f4a120 J) (f4e63 y0 y1 y2 y3 y4 y5 y6 y7 y8 y9 y10 y11 y12 y13 y14 y15 y16 y17 y18 y19 y20 y21 y22 y23 y24) σ else runK Try.prog call dem N f4c123 f4a123 (condC f4a120 J) (f4e63 y0 y1 y2 y3 y4 y5 y6 y7 y8 y9 y10 y11 y12 y13 y14 y15 y16 y17 y18 y19 y20 y21 y22 y23 y24) σ := runK_cond' (o := Operand.tmp (139 : Nat)) (by kernel_rfl) (by kernel_rfl) (by kernel_rfl) (by kernel_rfl)
theorem f4n122 {R : Type} (call : Bool → CallF R) (dem : Bool) (N : Nat) (J : KF R) (e : Env) (σ : St) : runK Try.prog call dem N f4c122 f4a122 J e σ = J .normal e σ := runK_skip' (by kernel_rfl)
theorem f4z120_f4e63 (y0 : Option (Nat × Nat)) (y1 : Nat) (y2 : Option (Nat × Nat)) (y3 : Nat) (y4 : Option Nat) (y5 : Int) (y6 : Int) (y7 : Int) (y8 : Int) (y9 : Int) (y10 : Int) (y11 : Int) (y12 : Int) (y13 : Int) (y14 : Int) (y15 : Int) (y16 : Int) (y17 : Int) (y18 : Int) (y19 : Int) (y20 : Int) (y21 : Int) (y22 : Int) (y23 : Int) (y24 : Bool) : Ann.clr f4a120 (f4e63 y0 y1 y2 y3 y4 y5 y6 y7 y8 y9 y10 y11 y12 y13 y14 y15 y16 y17 y18 y19 y20 y21 y22 y23 y24) = f4e62 y0 y1 y2 y3 y4 y5 y6 y7 y8 y9 y10 y11 y12 y13 y14 y15 y16 y17 y18 y19 y20 y21 y22 y23 := hide (by kernel_rfl)
theorem f4y123_f4e63 {R : Type} (call : Bool → CallF R) (dem : Bool) (N : Nat) (y0 : Option (Nat × Nat)) (y1 : Nat) (y2 : Option (Nat × Nat)) (y3 : Nat) (y4 : Option Nat) (y5 : Int) (y6 : Int) (y7 : Int) (y8 : Int) (y9 : Int) (y10 : Int) (y11 : Int) (y12 : Int) (y13 : Int) (y14 : Int) (y15 : Int) (y16 : Int) (y17 : Int) (y18 : Int) (y19 : Int) (y20 : Int) (y21 : Int) (y22 : Int) (y23 : Int) (y24 : Bool) (J : KF R) (σ : St) : runK Try.prog call dem N f4c123 f4a123 J (f4e63 y0 y1 y2 y3 y4 y5 y6 y7 y8 y9 y10 y11 y12 y13 y14 y15 y16 y17 y18 y19 y20 y21 y22 y23 y24) σ = J (.exit 5) (f4e12 y0 y1 y2 y3 y4 y5 y6) σ := runK_exit' (by kernel_rfl) (by kernel_rfl)
theorem f4z119_f4e62 (y0 : Option (Nat × Nat)) (y1 : Nat) (y2 : Option (Nat × Nat)) (y3 : Nat) (y4 : Option Nat) (y5 : Int) (y6 : Int) (y7 : Int) (y8 : Int) (y9 : Int) (y10 : Int) (y11 : Int) (y12 : Int) (y13 : Int) (y14 : Int) (y15 : Int) (y16 : Int) (y17 : Int) (y18 : Int) (y19 : Int) (y20 : Int) (y21 : Int) (y22 : Int) (y23 : Int) : Ann.clr f4a119 (f4e62 y0 y1 y2 y3 y4 y5 y6 y7 y8 y9 y10 y11 y12 y13 y14 y15 y16 y17 y18 y19 y20 y21 y22 y23) = f4e62 y0 y1 y2 y3 y4 y5 y6 y7 y8 y9 y10 y11 y12 y13 y14 y15 y16 y17 y18 y19 y20 y21 y22 y23 := hide (by kernel_rfl)
theorem f4n121 {R : Type} (call : Bool → CallF R) (dem : Bool) (N : Nat) (J : KF R) (e : Env) (σ : St) : runK Try.prog call dem N f4c121 f4a121 J e σ = runK Try.prog call dem N f4c124 f4a124 (seqC (fun K e σ => runK Try.prog call dem N f4c125 f4a125 K e σ) f4a121 J) e σ := runK_seq' (by kernel_rfl) (by kernel_rfl) (by kernel_rfl)
theorem f4n124 {R : Type} (call : Bool → CallF R) (dem : Bool) (N : Nat) (J : KF R) (e : Env) (σ : St) : runK Try.prog call dem N f4c124 f4a124 J e σ = runK Try.prog call dem N f4c126 f4a126 (blockC 6 f4a124 J) e σ := runK_block' (by kernel_rfl) (by kernel_rfl)
theorem f4n126 {R : Type} (call : Bool → CallF R) (dem : Bool) (N : Nat) (J : KF R) (e : Env) (σ : St) : runK Try.prog call dem N f4c126 f4a126 J e σ = runK Try.prog call dem N f4c127 f4a127 (seqC (fun K e σ => runK Try.prog call dem N f4c128 f4a128 K e σ) f4a126 J) e σ := runK_seq' (by kernel_rfl) (by kernel_rfl) (by kernel_rfl)
theorem f4r127_f4e62 {R : Type} (call : Bool → CallF R) (dem : Bool) (N : Nat) (y0 : Option (Nat × Nat)) (y1 : Nat) (y2 : Option (Nat × Nat)) (y3 : Nat) (y4 : Option Nat) (y5 : Int) (y6 : Int) (y7 : Int) (y8 : Int) (y9 : Int) (y10 : Int) (y11 : Int) (y12 : Int) (y13 : Int) (y14 : Int) (y15 : Int) (y16 : Int) (y17 : Int) (y18 : Int) (y19 : Int) (y20 : Int) (y21 : Int) (y22 : Int) (y23 : Int) (J : KF R) (σ : St) :
    runK Try.prog call dem N f4c127 f4a127 J (f4e62 y0 y1 y2 y3 y4 y5 y6 y7 y8 y9 y10 y11 y12 y13 y14 y15 y16 y17 y18 y19 y20 y21 y22 y23) σ =
if (0 : Nat) < (1 : Nat) ∧ (0 : Int) ≤ y23 ∧ y23 < (16 : Int) then
  Option.bind
    (partOf (Program.mk Try.progTables Try.funcs) (3 : Nat)
      [AV.int IntKind.i64 y7, AV.int IntKind.i64 y8, AV.int IntKind.i64 y9, AV.int IntKind.i64 y10, AV.int IntKind.i64 y11, AV.int IntKind.i64 y12,
        AV.int IntKind.i64 y13, AV.int IntKind.i64 y14, AV.int IntKind.i64 y15, AV.int IntKind.i64 y16, AV.int IntKind.i64 y17,
        AV.int IntKind.i64 y18, AV.int IntKind.i64 y19, AV.int IntKind.i64 y20, AV.int IntKind.i64 y21, AV.int IntKind.i64 y22]
      (Int.toNat y23 * (1 : Nat)))
    fun v0 =>
    Option.bind (AV.toInt IntKind.i64 v0) fun v1 =>
      J Ex.normal (f4e64 y0 y1 v1 y2 y3 y4 y5 y6 y7 y8 y9 y10 y11 y12 y13 y14 y15 y16 y17 y18 y19 y20 y21 y22 y23 v1) σ
else none := hide (by kernel_rfl)
theorem f4z126_f4e64 (y0 : Option (Nat × Nat)) (y1 : Nat) (y2 : Int) (y3 : Option (Nat × Nat)) (y4 : Nat) (y5 : Option Nat) (y6 : Int) (y7 : Int) (y8 : Int) (y9 : Int) (y10 : Int) (y11 : Int) (y12 : Int) (y13 : Int) (y14 : Int) (y15 : Int) (y16 : Int) (y17 : Int) (y18 : Int) (y19 : Int) (y20 : Int) (y21 : Int) (y22 : Int) (y23 : Int) (y24 : Int) (y25 : Int) : Ann.clr f4a126 (f4e64 y0 y1 y2 y3 y4 y5 y6 y7 y8 y9 y10 y11 y12 y13 y14 y15 y16 y17 y18 y19 y20 y21 y22 y23 y24 y25) = f4e65 y0 y1 y2 y3 y4 y5 y6 y7 y8 y9 y10 y11 y12 y13 y14 y15 y16 y17 y18 y19 y20 y21 y22 y23 y24 := hide (by kernel_rfl)
theorem f4n128 {R : Type} (call : Bool → CallF R) (dem : Bool) (N : Nat) (J : KF R) (e : Env) (σ : St) : runK Try.prog call dem N f4c128 f4a128 J e σ = runK Try.prog call dem N f4c129 f4a129 (seqC (fun K e σ => runK Try.prog call dem N f4c130 f4a130 K e σ) f4a128 J) e σ := runK_seq' (by kernel_rfl) (by kernel_rfl) (by kernel_rfl)
theorem f4r129_f4e65 {R : Type} (call : Bool → CallF R) (dem : Bool) (N : Nat) (y0 : Option (Nat × Nat)) (y1 : Nat) (y2 : Int) (y3 : Option (Nat × Nat)) (y4 : Nat) (y5 : Option Nat) (y6 : Int) (y7 : Int) (y8 : Int) (y9 : Int) (y10 : Int) (y11 : Int) (y12 : Int) (y13 : Int) (y14 : Int) (y15 : Int) (y16 : Int) (y17 : Int) (y18 : Int) (y19 : Int) (y20 : Int) (y21 : Int) (y22 : Int) (y23 : Int) (y24 : Int) (J : KF R) (σ : St) :
    runK Try.prog call dem N f4c129 f4a129 J (f4e65 y0 y1 y2 y3 y4 y5 y6 y7 y8 y9 y10 y11 y12 y13 y14 y15 y16 y17 y18 y19 y20 y21 y22 y23 y24) σ =
if decide (y2 > (0 : Int)) = true then
  call dem (12 : Nat) [AV.ptr y0] σ fun v0 v1 =>
    Option.bind (AV.toInt IntKind.i64 v0) fun v2 =>
      J Ex.normal
        (f4e66 y0 y1 y2 y3 y4 y5 y6 y7 y8 y9 y10 y11 y12 y13 y14 y15 y16 y17 y18 y19 y20 y21 y22 y23 y24 y2 (decide (y2 > (0 : Int))) true y2 y0 v2
          (decide (y2 ≤ v2)) (decide (y2 ≤ v2)))
        v1
else
  J Ex.normal
    (f4e67 y0 y1 y2 y3 y4 y5 y6 y7 y8 y9 y10 y11 y12 y13 y14 y15 y16 y17 y18 y19 y20 y21 y22 y23 y24 y2 (decide (y2 > (0 : Int))) false false) σ := hide (by kernel_rfl)
theorem f4z128_f4e66 (y0 : Option (Nat × Nat)) (y1 : Nat) (y2 : Int) (y3 : Option (Nat × Nat)) (y4 : Nat) (y5 : Option Nat) (y6 : Int) (y7 : Int) (y8 : Int) (y9 : Int) (y10 : Int) (y11 : Int) (y12 : Int) (y13 : Int) (y14 : Int) (y15 : Int) (y16 : Int) (y17 : Int) (y18 : Int) (y19 : Int) (y20 : Int) (y21 : Int) (y22 : Int) (y23 : Int) (y24 : Int) (y25 : Int) (y26 : Bool) (y27 : Bool) (y28 : Int) (y29 : Option (Nat × Nat)) (y30 : Int) (y31 : Bool) (y32 : Bool) : Ann.clr f4a128 (f4e66 y0 y1 y2 y3 y4 y5 y6 y7 y8 y9 y10 y11 y12 y13 y14 y15 y16 y17 y18 y19 y20 y21 y22 y23 y24 y25 y26 y27 y28 y29 y30 y31 y32) = f4e68 y0 y1 y3 y4 y5 y6 y7 y8 y9 y10 y11 y12 y13 y14 y15 y16 y17 y18 y19 y20 y21 y22 y23 y24 y32 := hide (by kernel_rfl)
theorem f4x130_f4e68 {R : Type} (call : Bool → CallF R) (dem : Bool) (N : Nat) (y0 : Option (Nat × Nat)) (y1 : Nat) (y2 : Option (Nat × Nat)) (y3 : Nat) (y4 : Option Nat) (y5 : Int) (y6 : Int) (y7 : Int) (y8 : Int) (y9 : Int) (y10 : Int) (y11 : Int) (y12 : Int) (y13 : Int) (y14 : Int) (y15 : Int) (y16 : Int) (y17 : Int) (y18 : Int) (y19 : Int) (y20 : Int) (y21 : Int) (y22 : Int) (y23 : Int) (y24 : Bool) (J : KF R) (σ : St) : runK Try.prog call dem N f4c130 f4a130 J (f4e68 y0 y1 y2 y3 y4 y5 y6 y7 y8 y9 y10 y11 y12 y13 y14 y15 y16 y17 y18 y19 y20 y21 y22 y23 y24) σ = if y24 = true then runK Try.prog call dem N f4c131 f4a131 (condC f4a130 J) (f4e68 y0 y1 y2 y3 y4 y5 y6 y7 y8 y9 y10 y11 y12 y13 y14 y15 y16 y17 y18 y19 y20 y21 y22 y23 y24) σ else runK Try.prog call dem N f4c132 f4a132 (condC f4a130 J) (f4e68 y0 y1 y2 y3 y4 y5 y6 y7 y8 y9 y10 y11 y12 y13 y14 y15 y16 y17 y18 y19 y20 y21 y22 y23 y24) σ := runK_cond' (o := Operand.tmp (148 : Nat)) (by kernel_rfl) (by kernel_rfl) (by kernel_rfl) (by kernel_rfl)
theorem f4n131 {R : Type} (call : Bool → CallF R) (dem : Bool) (N : Nat) (J : KF R) (e : Env) (σ : St) : runK Try.prog call dem N f4c131 f4a131 J e σ = runK Try.prog call dem N f4c133 f4a133 (seqC (fun K e σ => runK Try.prog call dem N f4c134 f4a134 K e σ) f4a131 J) e σ := runK_seq' (by kernel_rfl) (by kernel_rfl) (by kernel_rfl)
theorem f4r133_f4e68 {R : Type} (call : Bool → CallF R) (dem : Bool) (N : Nat) (y0 : Option (Nat × Nat)) (y1 : Nat) (y2 : Option (Nat × Nat)) (y3 : Nat) (y4 : Option Nat) (y5 : Int) (y6 : Int) (y7 : Int) (y8 : Int) (y9 : Int) (y10 : Int) (y11 : Int) (y12 : Int) (y13 : Int) (y14 : Int) (y15 : Int) (y16 : Int) (y17 : Int) (y18 : Int) (y19 : Int) (y20 : Int) (y21 : Int) (y22 : Int) (y23 : Int) (y24 : Bool) (J : KF R) (σ : St) :
    runK Try.prog call dem N f4c133 f4a133 J (f4e68 y0 y1 y2 y3 y4 y5 y6 y7 y8 y9 y10 y11 y12 y13 y14 y15 y16 y17 y18 y19 y20 y21 y22 y23 y24) σ =
J Ex.normal (f4e69 false y0 y1 y2 y3 y4 y5 y6 y7 y8 y9 y10 y11 y12 y13 y14 y15 y16 y17 y18 y19 y20 y21 y22 y23 y24) σ := hide (by kernel_rfl)
theorem f4z131_f4e69 (y0 : Bool) (y1 : Option (Nat × Nat)) (y2 : Nat) (y3 : Option (Nat × Nat)) (y4 : Nat) (y5 : Option Nat) (y6 : Int) (y7 : Int) (y8 : Int) (y9 : Int) (y10 : Int) (y11 : Int) (y12 : Int) (y13 : Int) (y14 : Int) (y15 : Int) (y16 : Int) (y17 : Int) (y18 : Int) (y19 : Int) (y20 : Int) (y21 : Int) (y22 : Int) (y23 : Int) (y24 : Int) (y25 : Bool) : Ann.clr f4a131 (f4e69 y0 y1 y2 y3 y4 y5 y6 y7 y8 y9 y10 y11 y12 y13 y14 y15 y16 y17 y18 y19 y20 y21 y22 y23 y24 y25) = f4e9 y0 := hide (by kernel_rfl)
theorem f4y134_f4e9 {R : Type} (call : Bool → CallF R) (dem : Bool) (N : Nat) (y0 : Bool) (J : KF R) (σ : St) : runK Try.prog call dem N f4c134 f4a134 J (f4e9 y0) σ = J .ret (f4e9 y0) σ := runK_ret' (by kernel_rfl) (by kernel_rfl)
theorem f4n132 {R : Type} (call : Bool → CallF R) (dem : Bool) (N : Nat) (J : KF R) (e : Env) (σ : St) : runK Try.prog call dem N f4c132 f4a132 J e σ = J .normal e σ := runK_skip' (by kernel_rfl)
theorem f4z130_f4e68 (y0 : Option (Nat × Nat)) (y1 : Nat) (y2 : Option (Nat × Nat)) (y3 : Nat) (y4 : Option Nat) (y5 : Int) (y6 : Int) (y7 : Int) (y8 : Int) (y9 : Int) (y10 : Int) (y11 : Int) (y12 : Int) (y13 : Int) (y14 : Int) (y15 : Int) (y16 : Int) (y17 : Int) (y18 : Int) (y19 : Int) (y20 : Int) (y21 : Int) (y22 : Int) (y23 : Int) (y24 : Bool) : Ann.clr f4a130 (f4e68 y0 y1 y2 y3 y4 y5 y6 y7 y8 y9 y10 y11 y12 y13 y14 y15 y16 y17 y18 y19 y20 y21 y22 y23 y24) = f4e62 y0 y1 y2 y3 y4 y5 y6 y7 y8 y9 y10 y11 y12 y13 y14 y15 y16 y17 y18 y19 y20 y21 y22 y23 := hide (by kernel_rfl)
theorem f4z128_f4e67 (y0 : Option (Nat × Nat)) (y1 : Nat) (y2 : Int) (y3 : Option (Nat × Nat)) (y4 : Nat) (y5 : Option Nat) (y6 : Int) (y7 : Int) (y8 : Int) (y9 : Int) (y10 : Int) (y11 : Int) (y12 : Int) (y13 : Int) (y14 : Int) (y15 : Int) (y16 : Int) (y17 : Int) (y18 : Int) (y19 : Int) (y20 : Int) (y21 : Int) (y22 : Int) (y23 : Int) (y24 : Int) (y25 : Int) (y26 : Bool) (y27 : Bool) (y28 : Bool) : Ann.clr f4a128 (f4e67 y0 y1 y2 y3 y4 y5 y6 y7 y8 y9 y10 y11 y12 y13 y14 y15 y16 y17 y18 y19 y20 y21 y22 y23 y24 y25 y26 y27 y28) = f4e68 y0 y1 y3 y4 y5 y6 y7 y8 y9 y10 y11 y12 y13 y14 y15 y16 y17 y18 y19 y20 y21 y22 y23 y24 y28 := hide (by kernel_rfl)
theorem f4z124_f4e62 (y0 : Option (Nat × Nat)) (y1 : Nat) (y2 : Option (Nat × Nat)) (y3 : Nat) (y4 : Option Nat) (y5 : Int) (y6 : Int) (y7 : Int) (y8 : Int) (y9 : Int) (y10 : Int) (y11 : Int) (y12 : Int) (y13 : Int) (y14 : Int) (y15 : Int) (y16 : Int) (y17 : Int) (y18 : Int) (y19 : Int) (y20 : Int) (y21 : Int) (y22 : Int) (y23 : Int) : Ann.clr f4a124 (f4e62 y0 y1 y2 y3 y4 y5 y6 y7 y8 y9 y10 y11 y12 y13 y14 y15 y16 y17 y18 y19 y20 y21 y22 y23) = f4e62 y0 y1 y2 y3 y4 y5 y6 y7 y8 y9 y10 y11 y12 y13 y14 y15 y16 y17 y18 y19 y20 y21 y22 y23 := hide (by kernel_rfl)
theorem f4z121_f4e62 (y0 : Option (Nat × Nat)) (y1 : Nat) (y2 : Option (Nat × Nat)) (y3 : Nat) (y4 : Option Nat) (y5 : Int) (y6 : Int) (y7 : Int) (y8 : Int) (y9 : Int) (y10 : Int) (y11 : Int) (y12 : Int) (y13 : Int) (y14 : Int) (y15 : Int) (y16 : Int) (y17 : Int) (y18 : Int) (y19 : Int) (y20 : Int) (y21 : Int) (y22 : Int) (y23 : Int) : Ann.clr f4a121 (f4e62 y0 y1 y2 y3 y4 y5 y6 y7 y8 y9 y10 y11 y12 y13 y14 y15 y16 y17 y18 y19 y20 y21 y22 y23) = f4e62 y0 y1 y2 y3 y4 y5 y6 y7 y8 y9 y10 y11 y12 y13 y14 y15 y16 y17 y18 y19 y20 y21 y22 y23 := hide (by kernel_rfl)
theorem f4r125_f4e62 {R : Type} (call : Bool → CallF R) (dem : Bool) (N : Nat) (y0 : Option (Nat × Nat)) (y1 : Nat) (y2 : Option (Nat × Nat)) (y3 : Nat) (y4 : Option Nat) (y5 : Int) (y6 : Int) (y7 : Int) (y8 : Int) (y9 : Int) (y10 : Int) (y11 : Int) (y12 : Int) (y13 : Int) (y14 : Int) (y15 : Int) (y16 : Int) (y17 : Int) (y18 : Int) (y19 : Int) (y20 : Int) (y21 : Int) (y22 : Int) (y23 : Int) (J : KF R) (σ : St) :
    runK Try.prog call dem N f4c125 f4a125 J (f4e62 y0 y1 y2 y3 y4 y5 y6 y7 y8 y9 y10 y11 y12 y13 y14 y15 y16 y17 y18 y19 y20 y21 y22 y23) σ =
J Ex.normal
  (f4e70 y0 y1 y2 y3 y4 y5 y6 y7 y8 y9 y10 y11 y12 y13 y14 y15 y16 y17 y18 y19 y20 y21 y22 (IntKind.wrap IntKind.i64 (y23 + (1 : Int)))
    (IntKind.wrap IntKind.i64 (y23 + (1 : Int))))
  σ := hide (by kernel_rfl)
theorem f4z116_f4e70 (y0 : Option (Nat × Nat)) (y1 : Nat) (y2 : Option (Nat × Nat)) (y3 : Nat) (y4 : Option Nat) (y5 : Int) (y6 : Int) (y7 : Int) (y8 : Int) (y9 : Int) (y10 : Int) (y11 : Int) (y12 : Int) (y13 : Int) (y14 : Int) (y15 : Int) (y16 : Int) (y17 : Int) (y18 : Int) (y19 : Int) (y20 : Int) (y21 : Int) (y22 : Int) (y23 : Int) (y24 : Int) : Ann.clr f4a116 (f4e70 y0 y1 y2 y3 y4 y5 y6 y7 y8 y9 y10 y11 y12 y13 y14 y15 y16 y17 y18 y19 y20 y21 y22 y23 y24) = f4e62 y0 y1 y2 y3 y4 y5 y6 y7 y8 y9 y10 y11 y12 y13 y14 y15 y16 y17 y18 y19 y20 y21 y22 y23 := hide (by kernel_rfl)
theorem f4z115_f4e12 (y0 : Option (Nat × Nat)) (y1 : Nat) (y2 : Option (Nat × Nat)) (y3 : Nat) (y4 : Option Nat) (y5 : Int) (y6 : Int) : Ann.clr f4a115 (f4e12 y0 y1 y2 y3 y4 y5 y6) = f4e12 y0 y1 y2 y3 y4 y5 y6 := hide (by kernel_rfl)
theorem f4z78_f4e12 (y0 : Option (Nat × Nat)) (y1 : Nat) (y2 : Option (Nat × Nat)) (y3 : Nat) (y4 : Option Nat) (y5 : Int) (y6 : Int) : Ann.clr f4a78 (f4e12 y0 y1 y2 y3 y4 y5 y6) = f4e12 y0 y1 y2 y3 y4 y5 y6 := hide (by kernel_rfl)
theorem f4n80 {R : Type} (call : Bool → CallF R) (dem : Bool) (N : Nat) (J : KF R) (e : Env) (σ : St) : runK Try.prog call dem N f4c80 f4a80 J e σ = J .normal e σ := runK_skip' (by kernel_rfl)
theorem f4z78_f4e43 (y0 : Option (Nat × Nat)) (y1 : Nat) (y2 : Nat) (y3 : Option (Nat × Nat)) (y4 : Nat) (y5 : Option Nat) (y6 : Int) (y7 : Int) (y8 : Bool) : Ann.clr f4a78 (f4e43 y0 y1 y2 y3 y4 y5 y6 y7 y8) = f4e12 y0 y1 y3 y4 y5 y6 y7 := hide (by kernel_rfl)
theorem f4z54_f4e12 (y0 : Option (Nat × Nat)) (y1 : Nat) (y2 : Option (Nat × Nat)) (y3 : Nat) (y4 : Option Nat) (y5 : Int) (y6 : Int) : Ann.clr f4a54 (f4e12 y0 y1 y2 y3 y4 y5 y6) = f4e12 y0 y1 y2 y3 y4 y5 y6 := hide (by kernel_rfl)
theorem f4z39_f4e12 (y0 : Option (Nat × Nat)) (y1 : Nat) (y2 : Option (Nat × Nat)) (y3 : Nat) (y4 : Option Nat) (y5 : Int) (y6 : Int) : Ann.clr f4a39 (f4e12 y0 y1 y2 y3 y4 y5 y6) = f4e12 y0 y1 y2 y3 y4 y5 y6 := hide (by kernel_rfl)
theorem f4z27_f4e12 (y0 : Option (Nat × Nat)) (y1 : Nat) (y2 : Option (Nat × Nat)) (y3 : Nat) (y4 : Option Nat) (y5 : Int) (y6 : Int) : Ann.clr f4a27 (f4e12 y0 y1 y2 y3 y4 y5 y6) = f4e12 y0 y1 y2 y3 y4 y5 y6 := hide (by kernel_rfl)
theorem f4z24_f4e12 (y0 : Option (Nat × Nat)) (y1 : Nat) (y2 : Option (Nat × Nat)) (y3 : Nat) (y4 : Option Nat) (y5 : Int) (y6 : Int) : Ann.clr f4a24 (f4e12 y0 y1 y2 y3 y4 y5 y6) = f4e12 y0 y1 y2 y3 y4 y5 y6 := hide (by kernel_rfl)
theorem f4r28_f4e12 {R : Type} (call : Bool → CallF R) (dem : Bool) (N : Nat) (y0 : Option (Nat × Nat)) (y1 : Nat) (y2 : Option (Nat × Nat)) (y3 : Nat) (y4 : Option Nat) (y5 : Int) (y6 : Int) (J : KF R) (σ : St) :
    runK Try.prog call dem N f4c28 f4a28 J (f4e12 y0 y1 y2 y3 y4 y5 y6) σ =
J Ex.normal (f4e71 y0 y1 y2 y3 y4 y5 (IntKind.wrap IntKind.i64 (y6 + (1 : Int))) (IntKind.wrap IntKind.i64 (y6 + (1 : Int)))) σ := hide (by kernel_rfl)
theorem f4z19_f4e71 (y0 : Option (Nat × Nat)) (y1 : Nat) (y2 : Option (Nat × Nat)) (y3 : Nat) (y4 : Option Nat) (y5 : Int) (y6 : Int) (y7 : Int) : Ann.clr f4a19 (f4e71 y0 y1 y2 y3 y4 y5 y6 y7) = f4e12 y0 y1 y2 y3 y4 y5 y6 := hide (by kernel_rfl)
theorem f4z18_f4e14 : Ann.clr f4a18 (f4e14) = f4e14 := hide (by kernel_rfl)
theorem f4z14_f4e14 : Ann.clr f4a14 (f4e14) = f4e14 := hide (by kernel_rfl)
theorem f4n16 {R : Type} (call : Bool → CallF R) (dem : Bool) (N : Nat) (J : KF R) (e : Env) (σ : St) : runK Try.prog call dem N f4c16 f4a16 J e σ = runK Try.prog call dem N f4c135 f4a135 (seqC (fun K e σ => runK Try.prog call dem N f4c136 f4a136 K e σ) f4a16 J) e σ := runK_seq' (by kernel_rfl) (by kernel_rfl) (by kernel_rfl)
theorem f4r135_f4e14 {R : Type} (call : Bool → CallF R) (dem : Bool) (N : Nat) (J : KF R) (σ : St) :
    runK Try.prog call dem N f4c135 f4a135 J (f4e14) σ =
call dem (8 : Nat) [] σ fun v0 v1 => Option.bind (AV.toBool v0) fun v2 => J Ex.normal (f4e72 v2 v2) v1 := hide (by kernel_rfl)
theorem f4z16_f4e72 (y0 : Bool) (y1 : Bool) : Ann.clr f4a16 (f4e72 y0 y1) = f4e9 y0 := hide (by kernel_rfl)
theorem f4y136_f4e9 {R : Type} (call : Bool → CallF R) (dem : Bool) (N : Nat) (y0 : Bool) (J : KF R) (σ : St) : runK Try.prog call dem N f4c136 f4a136 J (f4e9 y0) σ = J .ret (f4e9 y0) σ := runK_ret' (by kernel_rfl) (by kernel_rfl)
theorem f4b_f4e9_r {R : Type} (y0 : Bool) (σ : St) (K : AV → St → Option R) : bodyC Try.prog f4rs K (Ex.ret) (f4e9 y0) σ =
K (AV.bool y0) σ := hide (by kernel_rfl)
attribute [go_sem] f4_eq f4n0 f4r1_f4e0 f4z0_f4e1 f4n2 f4r3_f4e0 f4z2_f4e2 f4n4 f4n5 f4r7_f4e3 f4z5_f4e4 f4x8_f4e6 f4n9 f4r11_f4e6 f4z9_f4e7 f4y12_f4e9 f4z9_f4e8 f4n10 f4z8_f4e6 f4z5_f4e5 f4z4_f4e3 f4n6 f4r13_f4e3 f4z6_f4e10 f4n14 f4n15 f4r17_f4e10 f4z15_f4e11 f4n18 f4L19_eq f4z19_f4e12 f4l19_f4e12 f4n20 f4r21_f4e12 f4z20_f4e13 f4n22 f4x23_f4e13 f4n25 f4z23_f4e13 f4y26_f4e13 f4z22_f4e12 f4n24 f4n27 f4n29 f4r30_f4e12 f4z29_f4e15 f4n31 f4n32 f4r34_f4e16 f4z32_f4e17 f4x35_f4e19 f4y36_f4e19 f4n37 f4z35_f4e19 f4z32_f4e18 f4z31_f4e16 f4n33 f4r38_f4e16 f4z33_f4e20 f4n39 f4n40 f4n41 f4r43_f4e21 f4z41_f4e22 f4x44_f4e23 f4n45 f4z44_f4e23 f4r46_f4e23 f4z44_f4e24 f4z40_f4e23 f4x42_f4e23 f4n47 f4r49_f4e23 f4z47_f4e25 f4x50_f4e26 f4r51_f4e26 f4z50_f4e27 f4n52 f4z50_f4e26 f4z42_f4e12 f4n48 f4r53_f4e23 f4z48_f4e28 f4x54_f4e29 f4n55 f4r57_f4e29 f4z55_f4e30 f4r58_f4e16 f4z54_f4e31 f4n56 f4r59_f4e29 f4z56_f4e32 f4x60_f4e33 f4n61 f4r63_f4e33 f4z61_f4e34 f4n64 f4n65 f4r67_f4e35 f4z65_f4e36 f4x68_f4e37 f4n69 f4r71_f4e37 f4z69_f4e38 f4y72_f4e9 f4n70 f4z68_f4e37 f4z64_f4e35 f4n66 f4r73_f4e35 f4z66_f4e39 f4x74_f4e40 f4r75_f4e40 f4z74_f4e41 f4n76 f4z74_f4e40 f4z60_f4e12 f4n62 f4r77_f4e33 f4z62_f4e42 f4x78_f4e43 f4n79 f4r81_f4e43 f4z79_f4e44 f4n82 f4n83 f4r85_f4e45 f4z83_f4e46 f4x86_f4e47 f4y87_f4e47 f4n88 f4z86_f4e47 f4z82_f4e48 f4n84 f4n89 f4r91_f4e48 f4z89_f4e49 f4n92 f4L93_eq f4z93_f4e50 f4l93_f4e50 f4n94 f4r95_f4e50 f4z94_f4e51 f4n96 f4x97_f4e51 f4n99 f4z97_f4e51 f4y100_f4e51 f4z96_f4e50 f4n98 f4n101 f4n103 f4r104_f4e50 f4z103_f4e52 f4n105 f4n106 f4r108_f4e53 f4z106_f4e54 f4x109_f4e58 f4n110 f4r112_f4e58 f4z110_f4e59 f4y113_f4e9 f4n111 f4z109_f4e58 f4z106_f4e55 f4z106_f4e56 f4z106_f4e57 f4z105_f4e53 f4r107_f4e53 f4z101_f4e60 f4z98_f4e50 f4r102_f4e50 f4z93_f4e61 f4z92_f4e12 f4z84_f4e12 f4n90 f4r114_f4e12 f4z90_f4e62 f4n115 f4L116_eq f4z116_f4e62 f4l116_f4e62 f4n117 f4r118_f4e62 f4z117_f4e63 f4n119 f4x120_f4e63 f4n122 f4z120_f4e63 f4y123_f4e63 f4z119_f4e62 f4n121 f4n124 f4n126 f4r127_f4e62 f4z126_f4e64 f4n128 f4r129_f4e65 f4z128_f4e66 f4x130_f4e68 f4n131 f4r133_f4e68 f4z131_f4e69 f4y134_f4e9 f4n132 f4z130_f4e68 f4z128_f4e67 f4z124_f4e62 f4z121_f4e62 f4r125_f4e62 f4z116_f4e70 f4z115_f4e12 f4z78_f4e12 f4n80 f4z78_f4e43 f4z54_f4e12 f4z39_f4e12 f4z27_f4e12 f4z24_f4e12 f4r28_f4e12 f4z19_f4e71 f4z18_f4e14 f4z14_f4e14 f4n16 f4r135_f4e14 f4z16_f4e72 f4y136_f4e9 f4b_f4e9_r

end Go.Proofs.Ytciibgjmdgpgnaa
