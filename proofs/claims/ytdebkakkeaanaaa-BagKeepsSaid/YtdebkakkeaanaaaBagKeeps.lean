/- What the machine does with each piece of code, in plain text. PRINTED by a program of this workplace; Lean checks it. -/
import Derived.Test.YtdebkakkeaanaaaBagAnn
import Derived.Test.YtdebkakkeaanaaaProg
import Derived.KernelRfl
import Derived.Attr
namespace Go.Proofs.Ytdebkakkeaanaaa
open Go.AM
set_option maxRecDepth 100000
set_option linter.unusedVariables false
noncomputable def f3rs : List ResultVar := [ResultVar.tmp (4 : Nat)]
noncomputable def f3c0 : Code := subCode [] (bodyOf Try.prog 3)
def f3a0 : Ann := subAnn [] ann3
noncomputable def f3c1 : Code := subCode [0] (bodyOf Try.prog 3)
def f3a1 : Ann := subAnn [0] ann3
noncomputable def f3c2 : Code := subCode [1] (bodyOf Try.prog 3)
def f3a2 : Ann := subAnn [1] ann3
noncomputable def f3c3 : Code := subCode [1, 0] (bodyOf Try.prog 3)
def f3a3 : Ann := subAnn [1, 0] ann3
noncomputable def f3c4 : Code := subCode [1, 1] (bodyOf Try.prog 3)
def f3a4 : Ann := subAnn [1, 1] ann3
noncomputable def f3c5 : Code := subCode [1, 1, 0] (bodyOf Try.prog 3)
def f3a5 : Ann := subAnn [1, 1, 0] ann3
noncomputable def f3c6 : Code := subCode [1, 1, 1] (bodyOf Try.prog 3)
def f3a6 : Ann := subAnn [1, 1, 1] ann3
noncomputable def f3c7 : Code := subCode [1, 1, 0, 0] (bodyOf Try.prog 3)
def f3a7 : Ann := subAnn [1, 1, 0, 0] ann3
noncomputable def f3c8 : Code := subCode [1, 1, 0, 1] (bodyOf Try.prog 3)
def f3a8 : Ann := subAnn [1, 1, 0, 1] ann3
noncomputable def f3c9 : Code := subCode [1, 1, 0, 1, 0] (bodyOf Try.prog 3)
def f3a9 : Ann := subAnn [1, 1, 0, 1, 0] ann3
noncomputable def f3c10 : Code := subCode [1, 1, 0, 1, 1] (bodyOf Try.prog 3)
def f3a10 : Ann := subAnn [1, 1, 0, 1, 1] ann3
noncomputable def f3c11 : Code := subCode [1, 1, 0, 1, 0, 0] (bodyOf Try.prog 3)
def f3a11 : Ann := subAnn [1, 1, 0, 1, 0, 0] ann3
noncomputable def f3c12 : Code := subCode [1, 1, 0, 1, 0, 1] (bodyOf Try.prog 3)
def f3a12 : Ann := subAnn [1, 1, 0, 1, 0, 1] ann3
noncomputable def f3c13 : Code := subCode [1, 1, 1, 0] (bodyOf Try.prog 3)
def f3a13 : Ann := subAnn [1, 1, 1, 0] ann3
noncomputable def f3c14 : Code := subCode [1, 1, 1, 1] (bodyOf Try.prog 3)
def f3a14 : Ann := subAnn [1, 1, 1, 1] ann3
noncomputable def f3c15 : Code := subCode [1, 1, 1, 1, 0] (bodyOf Try.prog 3)
def f3a15 : Ann := subAnn [1, 1, 1, 1, 0] ann3
noncomputable def f3c16 : Code := subCode [1, 1, 1, 1, 1] (bodyOf Try.prog 3)
def f3a16 : Ann := subAnn [1, 1, 1, 1, 1] ann3
noncomputable def f3c17 : Code := subCode [1, 1, 1, 1, 0, 0] (bodyOf Try.prog 3)
def f3a17 : Ann := subAnn [1, 1, 1, 1, 0, 0] ann3
noncomputable def f3c18 : Code := subCode [1, 1, 1, 1, 0, 1] (bodyOf Try.prog 3)
def f3a18 : Ann := subAnn [1, 1, 1, 1, 0, 1] ann3
noncomputable def f3c19 : Code := subCode [1, 1, 1, 1, 0, 1, 0] (bodyOf Try.prog 3)
def f3a19 : Ann := subAnn [1, 1, 1, 1, 0, 1, 0] ann3
noncomputable def f3c20 : Code := subCode [1, 1, 1, 1, 0, 1, 0, 0] (bodyOf Try.prog 3)
def f3a20 : Ann := subAnn [1, 1, 1, 1, 0, 1, 0, 0] ann3
noncomputable def f3c21 : Code := subCode [1, 1, 1, 1, 0, 1, 0, 0, 0] (bodyOf Try.prog 3)
def f3a21 : Ann := subAnn [1, 1, 1, 1, 0, 1, 0, 0, 0] ann3
noncomputable def f3c22 : Code := subCode [1, 1, 1, 1, 0, 1, 0, 0, 1] (bodyOf Try.prog 3)
def f3a22 : Ann := subAnn [1, 1, 1, 1, 0, 1, 0, 0, 1] ann3
noncomputable def f3c23 : Code := subCode [1, 1, 1, 1, 0, 1, 0, 0, 1, 0] (bodyOf Try.prog 3)
def f3a23 : Ann := subAnn [1, 1, 1, 1, 0, 1, 0, 0, 1, 0] ann3
noncomputable def f3c24 : Code := subCode [1, 1, 1, 1, 0, 1, 0, 0, 1, 1] (bodyOf Try.prog 3)
def f3a24 : Ann := subAnn [1, 1, 1, 1, 0, 1, 0, 0, 1, 1] ann3
noncomputable def f3c25 : Code := subCode [1, 1, 1, 1, 0, 1, 0, 0, 1, 0, 0] (bodyOf Try.prog 3)
def f3a25 : Ann := subAnn [1, 1, 1, 1, 0, 1, 0, 0, 1, 0, 0] ann3
noncomputable def f3c26 : Code := subCode [1, 1, 1, 1, 0, 1, 0, 0, 1, 0, 1] (bodyOf Try.prog 3)
def f3a26 : Ann := subAnn [1, 1, 1, 1, 0, 1, 0, 0, 1, 0, 1] ann3
noncomputable def f3c27 : Code := subCode [1, 1, 1, 1, 0, 1, 0, 0, 1, 1, 0] (bodyOf Try.prog 3)
def f3a27 : Ann := subAnn [1, 1, 1, 1, 0, 1, 0, 0, 1, 1, 0] ann3
noncomputable def f3c28 : Code := subCode [1, 1, 1, 1, 0, 1, 0, 0, 1, 1, 1] (bodyOf Try.prog 3)
def f3a28 : Ann := subAnn [1, 1, 1, 1, 0, 1, 0, 0, 1, 1, 1] ann3
noncomputable def f3c29 : Code := subCode [1, 1, 1, 1, 0, 1, 0, 0, 1, 1, 0, 0] (bodyOf Try.prog 3)
def f3a29 : Ann := subAnn [1, 1, 1, 1, 0, 1, 0, 0, 1, 1, 0, 0] ann3
noncomputable def f3c30 : Code := subCode [1, 1, 1, 1, 0, 1, 0, 0, 1, 1, 0, 0, 0] (bodyOf Try.prog 3)
def f3a30 : Ann := subAnn [1, 1, 1, 1, 0, 1, 0, 0, 1, 1, 0, 0, 0] ann3
noncomputable def f3c31 : Code := subCode [1, 1, 1, 1, 0, 1, 0, 0, 1, 1, 0, 0, 1] (bodyOf Try.prog 3)
def f3a31 : Ann := subAnn [1, 1, 1, 1, 0, 1, 0, 0, 1, 1, 0, 0, 1] ann3
noncomputable def f3c32 : Code := subCode [1, 1, 1, 1, 0, 1, 0, 0, 1, 1, 0, 0, 1, 0] (bodyOf Try.prog 3)
def f3a32 : Ann := subAnn [1, 1, 1, 1, 0, 1, 0, 0, 1, 1, 0, 0, 1, 0] ann3
noncomputable def f3c33 : Code := subCode [1, 1, 1, 1, 0, 1, 0, 0, 1, 1, 0, 0, 1, 1] (bodyOf Try.prog 3)
def f3a33 : Ann := subAnn [1, 1, 1, 1, 0, 1, 0, 0, 1, 1, 0, 0, 1, 1] ann3
noncomputable def f3c34 : Code := subCode [1, 1, 1, 1, 0, 1, 0, 0, 1, 1, 0, 0, 1, 1, 0] (bodyOf Try.prog 3)
def f3a34 : Ann := subAnn [1, 1, 1, 1, 0, 1, 0, 0, 1, 1, 0, 0, 1, 1, 0] ann3
noncomputable def f3c35 : Code := subCode [1, 1, 1, 1, 0, 1, 0, 0, 1, 1, 0, 0, 1, 1, 1] (bodyOf Try.prog 3)
def f3a35 : Ann := subAnn [1, 1, 1, 1, 0, 1, 0, 0, 1, 1, 0, 0, 1, 1, 1] ann3
noncomputable def f3c36 : Code := subCode [1, 1, 1, 1, 1, 0] (bodyOf Try.prog 3)
def f3a36 : Ann := subAnn [1, 1, 1, 1, 1, 0] ann3
noncomputable def f3c37 : Code := subCode [1, 1, 1, 1, 1, 1] (bodyOf Try.prog 3)
def f3a37 : Ann := subAnn [1, 1, 1, 1, 1, 1] ann3
noncomputable def f3c38 : Code := subCode [1, 1, 1, 1, 1, 0, 0] (bodyOf Try.prog 3)
def f3a38 : Ann := subAnn [1, 1, 1, 1, 1, 0, 0] ann3
noncomputable def f3c39 : Code := subCode [1, 1, 1, 1, 1, 0, 1] (bodyOf Try.prog 3)
def f3a39 : Ann := subAnn [1, 1, 1, 1, 1, 0, 1] ann3
noncomputable def f3c40 : Code := subCode [1, 1, 1, 1, 1, 0, 1, 0] (bodyOf Try.prog 3)
def f3a40 : Ann := subAnn [1, 1, 1, 1, 1, 0, 1, 0] ann3
noncomputable def f3c41 : Code := subCode [1, 1, 1, 1, 1, 0, 1, 0, 0] (bodyOf Try.prog 3)
def f3a41 : Ann := subAnn [1, 1, 1, 1, 1, 0, 1, 0, 0] ann3
noncomputable def f3c42 : Code := subCode [1, 1, 1, 1, 1, 0, 1, 0, 0, 0] (bodyOf Try.prog 3)
def f3a42 : Ann := subAnn [1, 1, 1, 1, 1, 0, 1, 0, 0, 0] ann3
noncomputable def f3c43 : Code := subCode [1, 1, 1, 1, 1, 0, 1, 0, 0, 1] (bodyOf Try.prog 3)
def f3a43 : Ann := subAnn [1, 1, 1, 1, 1, 0, 1, 0, 0, 1] ann3
noncomputable def f3c44 : Code := subCode [1, 1, 1, 1, 1, 0, 1, 0, 0, 1, 0] (bodyOf Try.prog 3)
def f3a44 : Ann := subAnn [1, 1, 1, 1, 1, 0, 1, 0, 0, 1, 0] ann3
noncomputable def f3c45 : Code := subCode [1, 1, 1, 1, 1, 0, 1, 0, 0, 1, 1] (bodyOf Try.prog 3)
def f3a45 : Ann := subAnn [1, 1, 1, 1, 1, 0, 1, 0, 0, 1, 1] ann3
noncomputable def f3c46 : Code := subCode [1, 1, 1, 1, 1, 0, 1, 0, 0, 1, 0, 0] (bodyOf Try.prog 3)
def f3a46 : Ann := subAnn [1, 1, 1, 1, 1, 0, 1, 0, 0, 1, 0, 0] ann3
noncomputable def f3c47 : Code := subCode [1, 1, 1, 1, 1, 0, 1, 0, 0, 1, 0, 1] (bodyOf Try.prog 3)
def f3a47 : Ann := subAnn [1, 1, 1, 1, 1, 0, 1, 0, 0, 1, 0, 1] ann3
noncomputable def f3c48 : Code := subCode [1, 1, 1, 1, 1, 0, 1, 0, 0, 1, 1, 0] (bodyOf Try.prog 3)
def f3a48 : Ann := subAnn [1, 1, 1, 1, 1, 0, 1, 0, 0, 1, 1, 0] ann3
noncomputable def f3c49 : Code := subCode [1, 1, 1, 1, 1, 0, 1, 0, 0, 1, 1, 1] (bodyOf Try.prog 3)
def f3a49 : Ann := subAnn [1, 1, 1, 1, 1, 0, 1, 0, 0, 1, 1, 1] ann3
noncomputable def f3c50 : Code := subCode [1, 1, 1, 1, 1, 0, 1, 0, 0, 1, 1, 0, 0] (bodyOf Try.prog 3)
def f3a50 : Ann := subAnn [1, 1, 1, 1, 1, 0, 1, 0, 0, 1, 1, 0, 0] ann3
noncomputable def f3c51 : Code := subCode [1, 1, 1, 1, 1, 0, 1, 0, 0, 1, 1, 0, 0, 0] (bodyOf Try.prog 3)
def f3a51 : Ann := subAnn [1, 1, 1, 1, 1, 0, 1, 0, 0, 1, 1, 0, 0, 0] ann3
noncomputable def f3c52 : Code := subCode [1, 1, 1, 1, 1, 0, 1, 0, 0, 1, 1, 0, 0, 1] (bodyOf Try.prog 3)
def f3a52 : Ann := subAnn [1, 1, 1, 1, 1, 0, 1, 0, 0, 1, 1, 0, 0, 1] ann3
noncomputable def f3c53 : Code := subCode [1, 1, 1, 1, 1, 0, 1, 0, 0, 1, 1, 0, 0, 1, 0] (bodyOf Try.prog 3)
def f3a53 : Ann := subAnn [1, 1, 1, 1, 1, 0, 1, 0, 0, 1, 1, 0, 0, 1, 0] ann3
noncomputable def f3c54 : Code := subCode [1, 1, 1, 1, 1, 0, 1, 0, 0, 1, 1, 0, 0, 1, 1] (bodyOf Try.prog 3)
def f3a54 : Ann := subAnn [1, 1, 1, 1, 1, 0, 1, 0, 0, 1, 1, 0, 0, 1, 1] ann3
noncomputable def f3c55 : Code := subCode [1, 1, 1, 1, 1, 0, 1, 0, 0, 1, 1, 0, 0, 1, 1, 0] (bodyOf Try.prog 3)
def f3a55 : Ann := subAnn [1, 1, 1, 1, 1, 0, 1, 0, 0, 1, 1, 0, 0, 1, 1, 0] ann3
noncomputable def f3c56 : Code := subCode [1, 1, 1, 1, 1, 0, 1, 0, 0, 1, 1, 0, 0, 1, 1, 1] (bodyOf Try.prog 3)
def f3a56 : Ann := subAnn [1, 1, 1, 1, 1, 0, 1, 0, 0, 1, 1, 0, 0, 1, 1, 1] ann3
noncomputable def f3c57 : Code := subCode [1, 1, 1, 1, 1, 0, 1, 0, 0, 1, 1, 0, 0, 1, 1, 0, 0] (bodyOf Try.prog 3)
def f3a57 : Ann := subAnn [1, 1, 1, 1, 1, 0, 1, 0, 0, 1, 1, 0, 0, 1, 1, 0, 0] ann3
noncomputable def f3c58 : Code := subCode [1, 1, 1, 1, 1, 0, 1, 0, 0, 1, 1, 0, 0, 1, 1, 0, 1] (bodyOf Try.prog 3)
def f3a58 : Ann := subAnn [1, 1, 1, 1, 1, 0, 1, 0, 0, 1, 1, 0, 0, 1, 1, 0, 1] ann3
noncomputable def f3c59 : Code := subCode [1, 1, 1, 1, 1, 0, 1, 0, 0, 1, 1, 0, 0, 1, 1, 0, 1, 0] (bodyOf Try.prog 3)
def f3a59 : Ann := subAnn [1, 1, 1, 1, 1, 0, 1, 0, 0, 1, 1, 0, 0, 1, 1, 0, 1, 0] ann3
noncomputable def f3c60 : Code := subCode [1, 1, 1, 1, 1, 0, 1, 0, 0, 1, 1, 0, 0, 1, 1, 0, 1, 1] (bodyOf Try.prog 3)
def f3a60 : Ann := subAnn [1, 1, 1, 1, 1, 0, 1, 0, 0, 1, 1, 0, 0, 1, 1, 0, 1, 1] ann3
noncomputable def f3c61 : Code := subCode [1, 1, 1, 1, 1, 0, 1, 0, 0, 1, 1, 0, 0, 1, 1, 0, 1, 0, 0] (bodyOf Try.prog 3)
def f3a61 : Ann := subAnn [1, 1, 1, 1, 1, 0, 1, 0, 0, 1, 1, 0, 0, 1, 1, 0, 1, 0, 0] ann3
noncomputable def f3c62 : Code := subCode [1, 1, 1, 1, 1, 0, 1, 0, 0, 1, 1, 0, 0, 1, 1, 0, 1, 0, 1] (bodyOf Try.prog 3)
def f3a62 : Ann := subAnn [1, 1, 1, 1, 1, 0, 1, 0, 0, 1, 1, 0, 0, 1, 1, 0, 1, 0, 1] ann3
noncomputable def f3c63 : Code := subCode [1, 1, 1, 1, 1, 0, 1, 0, 0, 1, 1, 0, 0, 1, 1, 1, 0] (bodyOf Try.prog 3)
def f3a63 : Ann := subAnn [1, 1, 1, 1, 1, 0, 1, 0, 0, 1, 1, 0, 0, 1, 1, 1, 0] ann3
noncomputable def f3c64 : Code := subCode [1, 1, 1, 1, 1, 0, 1, 0, 0, 1, 1, 0, 0, 1, 1, 1, 1] (bodyOf Try.prog 3)
def f3a64 : Ann := subAnn [1, 1, 1, 1, 1, 0, 1, 0, 0, 1, 1, 0, 0, 1, 1, 1, 1] ann3
noncomputable def f3c65 : Code := subCode [1, 1, 1, 1, 1, 0, 1, 0, 0, 1, 1, 0, 0, 1, 1, 1, 0, 0] (bodyOf Try.prog 3)
def f3a65 : Ann := subAnn [1, 1, 1, 1, 1, 0, 1, 0, 0, 1, 1, 0, 0, 1, 1, 1, 0, 0] ann3
noncomputable def f3c66 : Code := subCode [1, 1, 1, 1, 1, 0, 1, 0, 0, 1, 1, 0, 0, 1, 1, 1, 0, 1] (bodyOf Try.prog 3)
def f3a66 : Ann := subAnn [1, 1, 1, 1, 1, 0, 1, 0, 0, 1, 1, 0, 0, 1, 1, 1, 0, 1] ann3
noncomputable def f3c67 : Code := subCode [1, 1, 1, 1, 1, 0, 1, 0, 0, 1, 1, 0, 0, 1, 1, 1, 0, 1, 0] (bodyOf Try.prog 3)
def f3a67 : Ann := subAnn [1, 1, 1, 1, 1, 0, 1, 0, 0, 1, 1, 0, 0, 1, 1, 1, 0, 1, 0] ann3
noncomputable def f3c68 : Code := subCode [1, 1, 1, 1, 1, 0, 1, 0, 0, 1, 1, 0, 0, 1, 1, 1, 0, 1, 1] (bodyOf Try.prog 3)
def f3a68 : Ann := subAnn [1, 1, 1, 1, 1, 0, 1, 0, 0, 1, 1, 0, 0, 1, 1, 1, 0, 1, 1] ann3
noncomputable def f3c69 : Code := subCode [1, 1, 1, 1, 1, 0, 1, 0, 0, 1, 1, 0, 0, 1, 1, 1, 1, 0] (bodyOf Try.prog 3)
def f3a69 : Ann := subAnn [1, 1, 1, 1, 1, 0, 1, 0, 0, 1, 1, 0, 0, 1, 1, 1, 1, 0] ann3
noncomputable def f3c70 : Code := subCode [1, 1, 1, 1, 1, 0, 1, 0, 0, 1, 1, 0, 0, 1, 1, 1, 1, 1] (bodyOf Try.prog 3)
def f3a70 : Ann := subAnn [1, 1, 1, 1, 1, 0, 1, 0, 0, 1, 1, 0, 0, 1, 1, 1, 1, 1] ann3
noncomputable def f3c71 : Code := subCode [1, 1, 1, 1, 1, 0, 1, 0, 0, 1, 1, 0, 0, 1, 1, 1, 1, 0, 0] (bodyOf Try.prog 3)
def f3a71 : Ann := subAnn [1, 1, 1, 1, 1, 0, 1, 0, 0, 1, 1, 0, 0, 1, 1, 1, 1, 0, 0] ann3
noncomputable def f3c72 : Code := subCode [1, 1, 1, 1, 1, 0, 1, 0, 0, 1, 1, 0, 0, 1, 1, 1, 1, 0, 1] (bodyOf Try.prog 3)
def f3a72 : Ann := subAnn [1, 1, 1, 1, 1, 0, 1, 0, 0, 1, 1, 0, 0, 1, 1, 1, 1, 0, 1] ann3
noncomputable def f3c73 : Code := subCode [1, 1, 1, 1, 1, 0, 1, 0, 0, 1, 1, 0, 0, 1, 1, 1, 1, 0, 1, 0] (bodyOf Try.prog 3)
def f3a73 : Ann := subAnn [1, 1, 1, 1, 1, 0, 1, 0, 0, 1, 1, 0, 0, 1, 1, 1, 1, 0, 1, 0] ann3
noncomputable def f3c74 : Code := subCode [1, 1, 1, 1, 1, 0, 1, 0, 0, 1, 1, 0, 0, 1, 1, 1, 1, 0, 1, 1] (bodyOf Try.prog 3)
def f3a74 : Ann := subAnn [1, 1, 1, 1, 1, 0, 1, 0, 0, 1, 1, 0, 0, 1, 1, 1, 1, 0, 1, 1] ann3
noncomputable def f3c75 : Code := subCode [1, 1, 1, 1, 1, 0, 1, 0, 0, 1, 1, 0, 0, 1, 1, 1, 1, 0, 1, 0, 0] (bodyOf Try.prog 3)
def f3a75 : Ann := subAnn [1, 1, 1, 1, 1, 0, 1, 0, 0, 1, 1, 0, 0, 1, 1, 1, 1, 0, 1, 0, 0] ann3
noncomputable def f3c76 : Code := subCode [1, 1, 1, 1, 1, 0, 1, 0, 0, 1, 1, 0, 0, 1, 1, 1, 1, 0, 1, 0, 1] (bodyOf Try.prog 3)
def f3a76 : Ann := subAnn [1, 1, 1, 1, 1, 0, 1, 0, 0, 1, 1, 0, 0, 1, 1, 1, 1, 0, 1, 0, 1] ann3
noncomputable def f3c77 : Code := subCode [1, 1, 1, 1, 1, 0, 1, 0, 0, 1, 1, 0, 0, 1, 1, 1, 1, 1, 0] (bodyOf Try.prog 3)
def f3a77 : Ann := subAnn [1, 1, 1, 1, 1, 0, 1, 0, 0, 1, 1, 0, 0, 1, 1, 1, 1, 1, 0] ann3
noncomputable def f3c78 : Code := subCode [1, 1, 1, 1, 1, 0, 1, 0, 0, 1, 1, 0, 0, 1, 1, 1, 1, 1, 1] (bodyOf Try.prog 3)
def f3a78 : Ann := subAnn [1, 1, 1, 1, 1, 0, 1, 0, 0, 1, 1, 0, 0, 1, 1, 1, 1, 1, 1] ann3
noncomputable def f3c79 : Code := subCode [1, 1, 1, 1, 1, 0, 1, 0, 0, 1, 1, 0, 0, 1, 1, 1, 1, 1, 1, 0] (bodyOf Try.prog 3)
def f3a79 : Ann := subAnn [1, 1, 1, 1, 1, 0, 1, 0, 0, 1, 1, 0, 0, 1, 1, 1, 1, 1, 1, 0] ann3
noncomputable def f3c80 : Code := subCode [1, 1, 1, 1, 1, 0, 1, 0, 0, 1, 1, 0, 0, 1, 1, 1, 1, 1, 1, 1] (bodyOf Try.prog 3)
def f3a80 : Ann := subAnn [1, 1, 1, 1, 1, 0, 1, 0, 0, 1, 1, 0, 0, 1, 1, 1, 1, 1, 1, 1] ann3
noncomputable def f3c81 : Code := subCode [1, 1, 1, 1, 1, 0, 1, 0, 0, 1, 1, 0, 0, 1, 1, 1, 1, 1, 1, 0, 0] (bodyOf Try.prog 3)
def f3a81 : Ann := subAnn [1, 1, 1, 1, 1, 0, 1, 0, 0, 1, 1, 0, 0, 1, 1, 1, 1, 1, 1, 0, 0] ann3
noncomputable def f3c82 : Code := subCode [1, 1, 1, 1, 1, 0, 1, 0, 0, 1, 1, 0, 0, 1, 1, 1, 1, 1, 1, 0, 1] (bodyOf Try.prog 3)
def f3a82 : Ann := subAnn [1, 1, 1, 1, 1, 0, 1, 0, 0, 1, 1, 0, 0, 1, 1, 1, 1, 1, 1, 0, 1] ann3
noncomputable def f3c83 : Code := subCode [1, 1, 1, 1, 1, 0, 1, 0, 0, 1, 1, 0, 0, 1, 1, 1, 1, 1, 1, 0, 1, 0] (bodyOf Try.prog 3)
def f3a83 : Ann := subAnn [1, 1, 1, 1, 1, 0, 1, 0, 0, 1, 1, 0, 0, 1, 1, 1, 1, 1, 1, 0, 1, 0] ann3
noncomputable def f3c84 : Code := subCode [1, 1, 1, 1, 1, 0, 1, 0, 0, 1, 1, 0, 0, 1, 1, 1, 1, 1, 1, 0, 1, 0, 0] (bodyOf Try.prog 3)
def f3a84 : Ann := subAnn [1, 1, 1, 1, 1, 0, 1, 0, 0, 1, 1, 0, 0, 1, 1, 1, 1, 1, 1, 0, 1, 0, 0] ann3
noncomputable def f3c85 : Code := subCode [1, 1, 1, 1, 1, 0, 1, 0, 0, 1, 1, 0, 0, 1, 1, 1, 1, 1, 1, 0, 1, 0, 0, 0] (bodyOf Try.prog 3)
def f3a85 : Ann := subAnn [1, 1, 1, 1, 1, 0, 1, 0, 0, 1, 1, 0, 0, 1, 1, 1, 1, 1, 1, 0, 1, 0, 0, 0] ann3
noncomputable def f3c86 : Code := subCode [1, 1, 1, 1, 1, 0, 1, 0, 0, 1, 1, 0, 0, 1, 1, 1, 1, 1, 1, 0, 1, 0, 0, 1] (bodyOf Try.prog 3)
def f3a86 : Ann := subAnn [1, 1, 1, 1, 1, 0, 1, 0, 0, 1, 1, 0, 0, 1, 1, 1, 1, 1, 1, 0, 1, 0, 0, 1] ann3
noncomputable def f3c87 : Code := subCode [1, 1, 1, 1, 1, 0, 1, 0, 0, 1, 1, 0, 0, 1, 1, 1, 1, 1, 1, 0, 1, 0, 0, 1, 0] (bodyOf Try.prog 3)
def f3a87 : Ann := subAnn [1, 1, 1, 1, 1, 0, 1, 0, 0, 1, 1, 0, 0, 1, 1, 1, 1, 1, 1, 0, 1, 0, 0, 1, 0] ann3
noncomputable def f3c88 : Code := subCode [1, 1, 1, 1, 1, 0, 1, 0, 0, 1, 1, 0, 0, 1, 1, 1, 1, 1, 1, 0, 1, 0, 0, 1, 1] (bodyOf Try.prog 3)
def f3a88 : Ann := subAnn [1, 1, 1, 1, 1, 0, 1, 0, 0, 1, 1, 0, 0, 1, 1, 1, 1, 1, 1, 0, 1, 0, 0, 1, 1] ann3
noncomputable def f3c89 : Code := subCode [1, 1, 1, 1, 1, 0, 1, 0, 0, 1, 1, 0, 0, 1, 1, 1, 1, 1, 1, 0, 1, 0, 0, 1, 0, 0] (bodyOf Try.prog 3)
def f3a89 : Ann := subAnn [1, 1, 1, 1, 1, 0, 1, 0, 0, 1, 1, 0, 0, 1, 1, 1, 1, 1, 1, 0, 1, 0, 0, 1, 0, 0] ann3
noncomputable def f3c90 : Code := subCode [1, 1, 1, 1, 1, 0, 1, 0, 0, 1, 1, 0, 0, 1, 1, 1, 1, 1, 1, 0, 1, 0, 0, 1, 0, 1] (bodyOf Try.prog 3)
def f3a90 : Ann := subAnn [1, 1, 1, 1, 1, 0, 1, 0, 0, 1, 1, 0, 0, 1, 1, 1, 1, 1, 1, 0, 1, 0, 0, 1, 0, 1] ann3
noncomputable def f3c91 : Code := subCode [1, 1, 1, 1, 1, 0, 1, 0, 0, 1, 1, 0, 0, 1, 1, 1, 1, 1, 1, 0, 1, 0, 0, 1, 1, 0] (bodyOf Try.prog 3)
def f3a91 : Ann := subAnn [1, 1, 1, 1, 1, 0, 1, 0, 0, 1, 1, 0, 0, 1, 1, 1, 1, 1, 1, 0, 1, 0, 0, 1, 1, 0] ann3
noncomputable def f3c92 : Code := subCode [1, 1, 1, 1, 1, 0, 1, 0, 0, 1, 1, 0, 0, 1, 1, 1, 1, 1, 1, 0, 1, 0, 0, 1, 1, 1] (bodyOf Try.prog 3)
def f3a92 : Ann := subAnn [1, 1, 1, 1, 1, 0, 1, 0, 0, 1, 1, 0, 0, 1, 1, 1, 1, 1, 1, 0, 1, 0, 0, 1, 1, 1] ann3
noncomputable def f3c93 : Code := subCode [1, 1, 1, 1, 1, 0, 1, 0, 0, 1, 1, 0, 0, 1, 1, 1, 1, 1, 1, 0, 1, 0, 0, 1, 1, 0, 0] (bodyOf Try.prog 3)
def f3a93 : Ann := subAnn [1, 1, 1, 1, 1, 0, 1, 0, 0, 1, 1, 0, 0, 1, 1, 1, 1, 1, 1, 0, 1, 0, 0, 1, 1, 0, 0] ann3
noncomputable def f3c94 : Code := subCode [1, 1, 1, 1, 1, 0, 1, 0, 0, 1, 1, 0, 0, 1, 1, 1, 1, 1, 1, 0, 1, 0, 0, 1, 1, 0, 0, 0] (bodyOf Try.prog 3)
def f3a94 : Ann := subAnn [1, 1, 1, 1, 1, 0, 1, 0, 0, 1, 1, 0, 0, 1, 1, 1, 1, 1, 1, 0, 1, 0, 0, 1, 1, 0, 0, 0] ann3
noncomputable def f3c95 : Code := subCode [1, 1, 1, 1, 1, 0, 1, 0, 0, 1, 1, 0, 0, 1, 1, 1, 1, 1, 1, 0, 1, 0, 0, 1, 1, 0, 0, 1] (bodyOf Try.prog 3)
def f3a95 : Ann := subAnn [1, 1, 1, 1, 1, 0, 1, 0, 0, 1, 1, 0, 0, 1, 1, 1, 1, 1, 1, 0, 1, 0, 0, 1, 1, 0, 0, 1] ann3
noncomputable def f3c96 : Code := subCode [1, 1, 1, 1, 1, 0, 1, 0, 0, 1, 1, 0, 0, 1, 1, 1, 1, 1, 1, 0, 1, 0, 0, 1, 1, 0, 0, 1, 0] (bodyOf Try.prog 3)
def f3a96 : Ann := subAnn [1, 1, 1, 1, 1, 0, 1, 0, 0, 1, 1, 0, 0, 1, 1, 1, 1, 1, 1, 0, 1, 0, 0, 1, 1, 0, 0, 1, 0] ann3
noncomputable def f3c97 : Code := subCode [1, 1, 1, 1, 1, 0, 1, 0, 0, 1, 1, 0, 0, 1, 1, 1, 1, 1, 1, 0, 1, 0, 0, 1, 1, 0, 0, 1, 1] (bodyOf Try.prog 3)
def f3a97 : Ann := subAnn [1, 1, 1, 1, 1, 0, 1, 0, 0, 1, 1, 0, 0, 1, 1, 1, 1, 1, 1, 0, 1, 0, 0, 1, 1, 0, 0, 1, 1] ann3
noncomputable def f3c98 : Code := subCode [1, 1, 1, 1, 1, 0, 1, 0, 0, 1, 1, 0, 0, 1, 1, 1, 1, 1, 1, 0, 1, 0, 0, 1, 1, 0, 0, 1, 1, 0] (bodyOf Try.prog 3)
def f3a98 : Ann := subAnn [1, 1, 1, 1, 1, 0, 1, 0, 0, 1, 1, 0, 0, 1, 1, 1, 1, 1, 1, 0, 1, 0, 0, 1, 1, 0, 0, 1, 1, 0] ann3
noncomputable def f3c99 : Code := subCode [1, 1, 1, 1, 1, 0, 1, 0, 0, 1, 1, 0, 0, 1, 1, 1, 1, 1, 1, 0, 1, 0, 0, 1, 1, 0, 0, 1, 1, 1] (bodyOf Try.prog 3)
def f3a99 : Ann := subAnn [1, 1, 1, 1, 1, 0, 1, 0, 0, 1, 1, 0, 0, 1, 1, 1, 1, 1, 1, 0, 1, 0, 0, 1, 1, 0, 0, 1, 1, 1] ann3
noncomputable def f3c100 : Code := subCode [1, 1, 1, 1, 1, 1, 0] (bodyOf Try.prog 3)
def f3a100 : Ann := subAnn [1, 1, 1, 1, 1, 1, 0] ann3
noncomputable def f3c101 : Code := subCode [1, 1, 1, 1, 1, 1, 1] (bodyOf Try.prog 3)
def f3a101 : Ann := subAnn [1, 1, 1, 1, 1, 1, 1] ann3
noncomputable def f3c102 : Code := subCode [1, 1, 1, 1, 1, 1, 0, 0] (bodyOf Try.prog 3)
def f3a102 : Ann := subAnn [1, 1, 1, 1, 1, 1, 0, 0] ann3
noncomputable def f3c103 : Code := subCode [1, 1, 1, 1, 1, 1, 0, 1] (bodyOf Try.prog 3)
def f3a103 : Ann := subAnn [1, 1, 1, 1, 1, 1, 0, 1] ann3
noncomputable def f3c104 : Code := subCode [1, 1, 1, 1, 1, 1, 0, 1, 0] (bodyOf Try.prog 3)
def f3a104 : Ann := subAnn [1, 1, 1, 1, 1, 1, 0, 1, 0] ann3
noncomputable def f3c105 : Code := subCode [1, 1, 1, 1, 1, 1, 0, 1, 0, 0] (bodyOf Try.prog 3)
def f3a105 : Ann := subAnn [1, 1, 1, 1, 1, 1, 0, 1, 0, 0] ann3
noncomputable def f3c106 : Code := subCode [1, 1, 1, 1, 1, 1, 0, 1, 0, 0, 0] (bodyOf Try.prog 3)
def f3a106 : Ann := subAnn [1, 1, 1, 1, 1, 1, 0, 1, 0, 0, 0] ann3
noncomputable def f3c107 : Code := subCode [1, 1, 1, 1, 1, 1, 0, 1, 0, 0, 1] (bodyOf Try.prog 3)
def f3a107 : Ann := subAnn [1, 1, 1, 1, 1, 1, 0, 1, 0, 0, 1] ann3
noncomputable def f3c108 : Code := subCode [1, 1, 1, 1, 1, 1, 0, 1, 0, 0, 1, 0] (bodyOf Try.prog 3)
def f3a108 : Ann := subAnn [1, 1, 1, 1, 1, 1, 0, 1, 0, 0, 1, 0] ann3
noncomputable def f3c109 : Code := subCode [1, 1, 1, 1, 1, 1, 0, 1, 0, 0, 1, 1] (bodyOf Try.prog 3)
def f3a109 : Ann := subAnn [1, 1, 1, 1, 1, 1, 0, 1, 0, 0, 1, 1] ann3
noncomputable def f3c110 : Code := subCode [1, 1, 1, 1, 1, 1, 0, 1, 0, 0, 1, 0, 0] (bodyOf Try.prog 3)
def f3a110 : Ann := subAnn [1, 1, 1, 1, 1, 1, 0, 1, 0, 0, 1, 0, 0] ann3
noncomputable def f3c111 : Code := subCode [1, 1, 1, 1, 1, 1, 0, 1, 0, 0, 1, 0, 1] (bodyOf Try.prog 3)
def f3a111 : Ann := subAnn [1, 1, 1, 1, 1, 1, 0, 1, 0, 0, 1, 0, 1] ann3
noncomputable def f3c112 : Code := subCode [1, 1, 1, 1, 1, 1, 0, 1, 0, 0, 1, 1, 0] (bodyOf Try.prog 3)
def f3a112 : Ann := subAnn [1, 1, 1, 1, 1, 1, 0, 1, 0, 0, 1, 1, 0] ann3
noncomputable def f3c113 : Code := subCode [1, 1, 1, 1, 1, 1, 0, 1, 0, 0, 1, 1, 1] (bodyOf Try.prog 3)
def f3a113 : Ann := subAnn [1, 1, 1, 1, 1, 1, 0, 1, 0, 0, 1, 1, 1] ann3
noncomputable def f3c114 : Code := subCode [1, 1, 1, 1, 1, 1, 0, 1, 0, 0, 1, 1, 0, 0] (bodyOf Try.prog 3)
def f3a114 : Ann := subAnn [1, 1, 1, 1, 1, 1, 0, 1, 0, 0, 1, 1, 0, 0] ann3
noncomputable def f3c115 : Code := subCode [1, 1, 1, 1, 1, 1, 0, 1, 0, 0, 1, 1, 0, 0, 0] (bodyOf Try.prog 3)
def f3a115 : Ann := subAnn [1, 1, 1, 1, 1, 1, 0, 1, 0, 0, 1, 1, 0, 0, 0] ann3
noncomputable def f3c116 : Code := subCode [1, 1, 1, 1, 1, 1, 0, 1, 0, 0, 1, 1, 0, 0, 1] (bodyOf Try.prog 3)
def f3a116 : Ann := subAnn [1, 1, 1, 1, 1, 1, 0, 1, 0, 0, 1, 1, 0, 0, 1] ann3
noncomputable def f3c117 : Code := subCode [1, 1, 1, 1, 1, 1, 0, 1, 0, 0, 1, 1, 0, 0, 1, 0] (bodyOf Try.prog 3)
def f3a117 : Ann := subAnn [1, 1, 1, 1, 1, 1, 0, 1, 0, 0, 1, 1, 0, 0, 1, 0] ann3
noncomputable def f3c118 : Code := subCode [1, 1, 1, 1, 1, 1, 0, 1, 0, 0, 1, 1, 0, 0, 1, 1] (bodyOf Try.prog 3)
def f3a118 : Ann := subAnn [1, 1, 1, 1, 1, 1, 0, 1, 0, 0, 1, 1, 0, 0, 1, 1] ann3
noncomputable def f3c119 : Code := subCode [1, 1, 1, 1, 1, 1, 0, 1, 0, 0, 1, 1, 0, 0, 1, 1, 0] (bodyOf Try.prog 3)
def f3a119 : Ann := subAnn [1, 1, 1, 1, 1, 1, 0, 1, 0, 0, 1, 1, 0, 0, 1, 1, 0] ann3
noncomputable def f3c120 : Code := subCode [1, 1, 1, 1, 1, 1, 0, 1, 0, 0, 1, 1, 0, 0, 1, 1, 1] (bodyOf Try.prog 3)
def f3a120 : Ann := subAnn [1, 1, 1, 1, 1, 1, 0, 1, 0, 0, 1, 1, 0, 0, 1, 1, 1] ann3
noncomputable def f3c121 : Code := subCode [1, 1, 1, 1, 1, 1, 0, 1, 0, 0, 1, 1, 0, 0, 1, 1, 1, 0] (bodyOf Try.prog 3)
def f3a121 : Ann := subAnn [1, 1, 1, 1, 1, 1, 0, 1, 0, 0, 1, 1, 0, 0, 1, 1, 1, 0] ann3
noncomputable def f3c122 : Code := subCode [1, 1, 1, 1, 1, 1, 0, 1, 0, 0, 1, 1, 0, 0, 1, 1, 1, 1] (bodyOf Try.prog 3)
def f3a122 : Ann := subAnn [1, 1, 1, 1, 1, 1, 0, 1, 0, 0, 1, 1, 0, 0, 1, 1, 1, 1] ann3
noncomputable def f3c123 : Code := subCode [1, 1, 1, 1, 1, 1, 0, 1, 0, 0, 1, 1, 0, 0, 1, 1, 1, 0, 0] (bodyOf Try.prog 3)
def f3a123 : Ann := subAnn [1, 1, 1, 1, 1, 1, 0, 1, 0, 0, 1, 1, 0, 0, 1, 1, 1, 0, 0] ann3
noncomputable def f3c124 : Code := subCode [1, 1, 1, 1, 1, 1, 0, 1, 0, 0, 1, 1, 0, 0, 1, 1, 1, 0, 1] (bodyOf Try.prog 3)
def f3a124 : Ann := subAnn [1, 1, 1, 1, 1, 1, 0, 1, 0, 0, 1, 1, 0, 0, 1, 1, 1, 0, 1] ann3
noncomputable def f3c125 : Code := subCode [1, 1, 1, 1, 1, 1, 1, 0] (bodyOf Try.prog 3)
def f3a125 : Ann := subAnn [1, 1, 1, 1, 1, 1, 1, 0] ann3
noncomputable def f3c126 : Code := subCode [1, 1, 1, 1, 1, 1, 1, 1] (bodyOf Try.prog 3)
def f3a126 : Ann := subAnn [1, 1, 1, 1, 1, 1, 1, 1] ann3
noncomputable def f3L19 {R : Type} (call : CallF R) (N : Nat) : KF R → Env → St → Option R := fun K e σ => runK Try.prog call N f3c20 f3a20 K e σ
noncomputable def f3L40 {R : Type} (call : CallF R) (N : Nat) : KF R → Env → St → Option R := fun K e σ => runK Try.prog call N f3c41 f3a41 K e σ
noncomputable def f3L83 {R : Type} (call : CallF R) (N : Nat) : KF R → Env → St → Option R := fun K e σ => runK Try.prog call N f3c84 f3a84 K e σ
noncomputable def f3L104 {R : Type} (call : CallF R) (N : Nat) : KF R → Env → St → Option R := fun K e σ => runK Try.prog call N f3c105 f3a105 K e σ
def f3e0 (y0 : Option (Nat × Nat)) (y1 : Nat) (y2 : Option Nat) (y3 : Option (Nat × Nat)) (y4 : Nat) (y5 : Option Nat) : Env := AV.slice y0 y1 y2 (1 : Nat) :: AV.slice y3 y4 y5 (1 : Nat) :: Env.sp 131 []
def f3e1 (y0 : Option (Nat × Nat)) (y1 : Nat) (y2 : Option Nat) (y3 : Option (Nat × Nat)) (y4 : Nat) (y5 : Option Nat) (y6 : Bool) : Env := AV.slice y0 y1 y2 (1 : Nat) :: AV.slice y3 y4 y5 (1 : Nat) :: Env.sp 2 (AV.bool y6 :: Env.sp 128 [])
def f3e2 (y0 : Option (Nat × Nat)) (y1 : Nat) (y2 : Option Nat) (y3 : Option (Nat × Nat)) (y4 : Nat) (y5 : Option Nat) (y6 : Option (Nat × Nat)) (y7 : Option (Nat × Nat)) : Env := AV.slice y0 y1 y2 (1 : Nat) :: AV.slice y3 y4 y5 (1 : Nat) :: Env.sp 3 (AV.ptr y6 :: Env.sp 14 (AV.ptr y7 :: Env.sp 112 []))
def f3e3 (y0 : Option (Nat × Nat)) (y1 : Nat) (y2 : Option Nat) (y3 : Option (Nat × Nat)) (y4 : Nat) (y5 : Option Nat) (y6 : Option (Nat × Nat)) : Env := AV.slice y0 y1 y2 (1 : Nat) :: AV.slice y3 y4 y5 (1 : Nat) :: Env.sp 3 (AV.ptr y6 :: Env.sp 127 [])
def f3e4 (y0 : Option (Nat × Nat)) (y1 : Nat) (y2 : Option Nat) (y3 : Option (Nat × Nat)) (y4 : Nat) (y5 : Option Nat) (y6 : Option (Nat × Nat)) (y7 : Option (Nat × Nat)) (y8 : Bool) (y9 : Bool) (y10 : Bool) (y11 : Bool) (y12 : Bool) : Env := AV.slice y0 y1 y2 (1 : Nat) :: AV.slice y3 y4 y5 (1 : Nat) :: Env.sp 3 (AV.ptr y6 :: Env.sp 15 (AV.ptr y7 :: AV.bool y8 :: AV.bool y9 :: AV.tuple [] :: AV.tuple [] :: AV.tuple [] :: AV.bool y10 :: AV.bool y11 :: AV.tuple [] :: AV.tuple [] :: AV.tuple [] :: AV.bool y12 :: Env.sp 100 []))
def f3e5 (y0 : Option (Nat × Nat)) (y1 : Nat) (y2 : Option Nat) (y3 : Option (Nat × Nat)) (y4 : Nat) (y5 : Option Nat) (y6 : Option (Nat × Nat)) (y7 : Option (Nat × Nat)) (y8 : Bool) (y9 : Bool) (y10 : Option (Nat × Nat)) (y11 : Nat) (y12 : Option Nat) (y13 : Int) (y14 : Bool) (y15 : Bool) (y16 : Bool) (y17 : Bool) : Env := AV.slice y0 y1 y2 (1 : Nat) :: AV.slice y3 y4 y5 (1 : Nat) :: Env.sp 3 (AV.ptr y6 :: Env.sp 15 (AV.ptr y7 :: AV.bool y8 :: AV.bool y9 :: AV.slice y10 y11 y12 (1 : Nat) :: AV.int IntKind.i64 y13 :: AV.bool y14 :: AV.bool y15 :: AV.bool y16 :: AV.tuple [] :: AV.tuple [] :: AV.tuple [] :: AV.bool y17 :: Env.sp 100 []))
def f3e6 (y0 : Option (Nat × Nat)) (y1 : Nat) (y2 : Option Nat) (y3 : Option (Nat × Nat)) (y4 : Nat) (y5 : Option Nat) (y6 : Option (Nat × Nat)) (y7 : Option (Nat × Nat)) (y8 : Bool) (y9 : Bool) (y10 : Option (Nat × Nat)) (y11 : Nat) (y12 : Option Nat) (y13 : Int) (y14 : Bool) (y15 : Bool) (y16 : Bool) (y17 : Option (Nat × Nat)) (y18 : Nat) (y19 : Option Nat) (y20 : Int) (y21 : Bool) (y22 : Bool) : Env := AV.slice y0 y1 y2 (1 : Nat) :: AV.slice y3 y4 y5 (1 : Nat) :: Env.sp 3 (AV.ptr y6 :: Env.sp 15 (AV.ptr y7 :: AV.bool y8 :: AV.bool y9 :: AV.slice y10 y11 y12 (1 : Nat) :: AV.int IntKind.i64 y13 :: AV.bool y14 :: AV.bool y15 :: AV.bool y16 :: AV.slice y17 y18 y19 (1 : Nat) :: AV.int IntKind.i64 y20 :: AV.bool y21 :: AV.bool y22 :: Env.sp 100 []))
def f3e7 (y0 : Option (Nat × Nat)) (y1 : Nat) (y2 : Option Nat) (y3 : Option (Nat × Nat)) (y4 : Nat) (y5 : Option Nat) (y6 : Option (Nat × Nat)) (y7 : Bool) : Env := AV.slice y0 y1 y2 (1 : Nat) :: AV.slice y3 y4 y5 (1 : Nat) :: Env.sp 3 (AV.ptr y6 :: Env.sp 26 (AV.bool y7 :: Env.sp 100 []))
def f3e8 (y0 : Option (Nat × Nat)) (y1 : Nat) (y2 : Option Nat) (y3 : Option (Nat × Nat)) (y4 : Nat) (y5 : Option Nat) (y6 : Bool) (y7 : Option (Nat × Nat)) (y8 : Bool) (y9 : Option (Nat × Nat)) (y10 : Bool) (y11 : Bool) (y12 : Bool) (y13 : Bool) : Env := AV.slice y0 y1 y2 (1 : Nat) :: AV.slice y3 y4 y5 (1 : Nat) :: Env.sp 2 (AV.bool y6 :: AV.ptr y7 :: Env.sp 26 (AV.bool y8 :: AV.ptr y9 :: AV.bool y10 :: AV.bool y11 :: AV.bool y12 :: AV.bool y13 :: Env.sp 95 []))
def f3e9 (y0 : Option (Nat × Nat)) (y1 : Nat) (y2 : Option Nat) (y3 : Option (Nat × Nat)) (y4 : Nat) (y5 : Option Nat) (y6 : Bool) (y7 : Option (Nat × Nat)) (y8 : Bool) (y9 : Option (Nat × Nat)) (y10 : Bool) (y11 : Bool) (y12 : Bool) : Env := AV.slice y0 y1 y2 (1 : Nat) :: AV.slice y3 y4 y5 (1 : Nat) :: Env.sp 2 (AV.bool y6 :: AV.ptr y7 :: Env.sp 26 (AV.bool y8 :: AV.ptr y9 :: AV.bool y10 :: AV.bool y11 :: AV.tuple [] :: AV.bool y12 :: Env.sp 95 []))
def f3e10 (y0 : Bool) : Env := Env.sp 4 (AV.bool y0 :: Env.sp 128 [])
def f3e11 (y0 : Option (Nat × Nat)) (y1 : Nat) (y2 : Option Nat) (y3 : Option (Nat × Nat)) (y4 : Nat) (y5 : Option Nat) (y6 : Option (Nat × Nat)) (y7 : Option (Nat × Nat)) (y8 : Nat) (y9 : Option Nat) : Env := AV.slice y0 y1 y2 (1 : Nat) :: AV.slice y3 y4 y5 (1 : Nat) :: Env.sp 3 (AV.ptr y6 :: AV.slice y7 y8 y9 (1 : Nat) :: Env.sp 126 [])
def f3e12 (y0 : Option (Nat × Nat)) (y1 : Nat) (y2 : Option Nat) (y3 : Option (Nat × Nat)) (y4 : Nat) (y5 : Option Nat) (y6 : Option (Nat × Nat)) (y7 : Option (Nat × Nat)) (y8 : Nat) (y9 : Option Nat) (y10 : Option (Nat × Nat)) (y11 : Nat) (y12 : Option Nat) (y13 : Int) (y14 : Int) : Env := AV.slice y0 y1 y2 (1 : Nat) :: AV.slice y3 y4 y5 (1 : Nat) :: Env.sp 3 (AV.ptr y6 :: AV.slice y7 y8 y9 (1 : Nat) :: Env.sp 31 (AV.slice y10 y11 y12 (1 : Nat) :: AV.int IntKind.i64 y13 :: AV.int IntKind.i64 y14 :: Env.sp 92 []))
def f3e13 (y0 : Option (Nat × Nat)) (y1 : Nat) (y2 : Option Nat) (y3 : Option (Nat × Nat)) (y4 : Option (Nat × Nat)) (y5 : Nat) (y6 : Option Nat) (y7 : Option (Nat × Nat)) (y8 : Nat) (y9 : Option Nat) (y10 : Int) (y11 : Int) : Env := Env.sp 1 (AV.slice y0 y1 y2 (1 : Nat) :: Env.sp 3 (AV.ptr y3 :: AV.slice y4 y5 y6 (1 : Nat) :: Env.sp 31 (AV.slice y7 y8 y9 (1 : Nat) :: AV.int IntKind.i64 y10 :: AV.int IntKind.i64 y11 :: Env.sp 92 [])))
def f3e14 (y0 : Option (Nat × Nat)) (y1 : Nat) (y2 : Option Nat) (y3 : Option (Nat × Nat)) (y4 : Option (Nat × Nat)) (y5 : Nat) (y6 : Option Nat) (y7 : Option (Nat × Nat)) (y8 : Nat) (y9 : Option Nat) (y10 : Int) (y11 : Int) (y12 : Bool) : Env := Env.sp 1 (AV.slice y0 y1 y2 (1 : Nat) :: Env.sp 3 (AV.ptr y3 :: AV.slice y4 y5 y6 (1 : Nat) :: Env.sp 31 (AV.slice y7 y8 y9 (1 : Nat) :: AV.int IntKind.i64 y10 :: AV.int IntKind.i64 y11 :: AV.bool y12 :: Env.sp 91 [])))
def f3e15 (y0 : Option (Nat × Nat)) (y1 : Nat) (y2 : Option Nat) (y3 : Option (Nat × Nat)) (y4 : Option (Nat × Nat)) (y5 : Nat) (y6 : Option Nat) : Env := Env.sp 1 (AV.slice y0 y1 y2 (1 : Nat) :: Env.sp 3 (AV.ptr y3 :: AV.slice y4 y5 y6 (1 : Nat) :: Env.sp 126 []))
def f3e16 (y0 : Option (Nat × Nat)) (y1 : Nat) (y2 : Option Nat) (y3 : Option (Nat × Nat)) (y4 : Option (Nat × Nat)) (y5 : Nat) (y6 : Option Nat) (y7 : ByteArray) (y8 : Option (Nat × Nat)) (y9 : Nat) (y10 : Option Nat) (y11 : Int) (y12 : Int) (y13 : Option (Nat × Nat)) (y14 : ByteArray) : Env := Env.sp 1 (AV.slice y0 y1 y2 (1 : Nat) :: Env.sp 3 (AV.ptr y3 :: AV.slice y4 y5 y6 (1 : Nat) :: Env.sp 1 (AV.str y7 :: Env.sp 29 (AV.slice y8 y9 y10 (1 : Nat) :: AV.int IntKind.i64 y11 :: AV.int IntKind.i64 y12 :: Env.sp 1 (AV.ptr y13 :: AV.str y14 :: Env.sp 89 [])))))
def f3e17 (y0 : Option (Nat × Nat)) (y1 : Nat) (y2 : Option Nat) (y3 : Option (Nat × Nat)) (y4 : Option (Nat × Nat)) (y5 : Nat) (y6 : Option Nat) (y7 : ByteArray) (y8 : Option (Nat × Nat)) (y9 : Nat) (y10 : Option Nat) (y11 : Int) (y12 : Int) : Env := Env.sp 1 (AV.slice y0 y1 y2 (1 : Nat) :: Env.sp 3 (AV.ptr y3 :: AV.slice y4 y5 y6 (1 : Nat) :: Env.sp 1 (AV.str y7 :: Env.sp 29 (AV.slice y8 y9 y10 (1 : Nat) :: AV.int IntKind.i64 y11 :: AV.int IntKind.i64 y12 :: Env.sp 92 []))))
def f3e18 (y0 : Option (Nat × Nat)) (y1 : Nat) (y2 : Option Nat) (y3 : Option (Nat × Nat)) (y4 : Option (Nat × Nat)) (y5 : Nat) (y6 : Option Nat) (y7 : ByteArray) (y8 : Option (Nat × Nat)) (y9 : Nat) (y10 : Option Nat) (y11 : Int) (y12 : Int) (y13 : Option (Nat × Nat)) (y14 : ByteArray) (y15 : Int) (y16 : Int) (y17 : Int) (y18 : ByteArray) (y19 : Int) (y20 : Bool) : Env := Env.sp 1 (AV.slice y0 y1 y2 (1 : Nat) :: Env.sp 3 (AV.ptr y3 :: AV.slice y4 y5 y6 (1 : Nat) :: Env.sp 1 (AV.str y7 :: Env.sp 29 (AV.slice y8 y9 y10 (1 : Nat) :: AV.int IntKind.i64 y11 :: AV.int IntKind.i64 y12 :: Env.sp 3 (AV.ptr y13 :: AV.str y14 :: AV.agg [AV.int IntKind.i64 y15, AV.int IntKind.i64 y16, AV.int IntKind.i64 y17, AV.str y18] :: AV.int IntKind.i64 y19 :: AV.bool y20 :: Env.sp 84 [])))))
def f3e19 (y0 : Option (Nat × Nat)) (y1 : Nat) (y2 : Option Nat) (y3 : Option (Nat × Nat)) (y4 : Option (Nat × Nat)) (y5 : Nat) (y6 : Option Nat) (y7 : ByteArray) (y8 : Option (Nat × Nat)) (y9 : Nat) (y10 : Option Nat) (y11 : Int) (y12 : Int) (y13 : Bool) : Env := Env.sp 1 (AV.slice y0 y1 y2 (1 : Nat) :: Env.sp 3 (AV.ptr y3 :: AV.slice y4 y5 y6 (1 : Nat) :: Env.sp 1 (AV.str y7 :: Env.sp 29 (AV.slice y8 y9 y10 (1 : Nat) :: AV.int IntKind.i64 y11 :: AV.int IntKind.i64 y12 :: Env.sp 7 (AV.bool y13 :: Env.sp 84 [])))))
def f3e20 (y0 : Option (Nat × Nat)) (y1 : Nat) (y2 : Option Nat) (y3 : Option (Nat × Nat)) (y4 : Option (Nat × Nat)) (y5 : Nat) (y6 : Option Nat) (y7 : ByteArray) (y8 : Option (Nat × Nat)) (y9 : Nat) (y10 : Option Nat) (y11 : Int) (y12 : Int) (y13 : Bool) (y14 : Option (Nat × Nat)) (y15 : Nat) (y16 : Option Nat) (y17 : ByteArray) (y18 : Option (Nat × Nat)) (y19 : Nat) (y20 : Option Nat) (y21 : Option (Nat × Nat)) (y22 : Nat) (y23 : Option Nat) : Env := Env.sp 1 (AV.slice y0 y1 y2 (1 : Nat) :: Env.sp 3 (AV.ptr y3 :: AV.slice y4 y5 y6 (1 : Nat) :: Env.sp 1 (AV.str y7 :: Env.sp 29 (AV.slice y8 y9 y10 (1 : Nat) :: AV.int IntKind.i64 y11 :: AV.int IntKind.i64 y12 :: Env.sp 7 (AV.bool y13 :: AV.slice y14 y15 y16 (1 : Nat) :: AV.str y17 :: AV.slice y18 y19 y20 (1 : Nat) :: AV.slice y21 y22 y23 (1 : Nat) :: Env.sp 80 [])))))
def f3e21 (y0 : Option (Nat × Nat)) (y1 : Nat) (y2 : Option Nat) (y3 : Option (Nat × Nat)) (y4 : Option (Nat × Nat)) (y5 : Nat) (y6 : Option Nat) (y7 : Option (Nat × Nat)) (y8 : Nat) (y9 : Option Nat) (y10 : Int) (y11 : Int) (y12 : Int) : Env := Env.sp 1 (AV.slice y0 y1 y2 (1 : Nat) :: Env.sp 3 (AV.ptr y3 :: AV.slice y4 y5 y6 (1 : Nat) :: Env.sp 31 (AV.slice y7 y8 y9 (1 : Nat) :: AV.int IntKind.i64 y10 :: AV.int IntKind.i64 y11 :: Env.sp 12 (AV.int IntKind.i64 y12 :: Env.sp 79 []))))
def f3e22 (y0 : Option (Nat × Nat)) (y1 : Nat) (y2 : Option Nat) (y3 : Option (Nat × Nat)) (y4 : Option (Nat × Nat)) (y5 : Nat) (y6 : Option Nat) (y7 : Option (Nat × Nat)) (y8 : Nat) (y9 : Option Nat) (y10 : Int) (y11 : Int) : Env := Env.sp 1 (AV.slice y0 y1 y2 (1 : Nat) :: Env.sp 3 (AV.ptr y3 :: AV.slice y4 y5 y6 (1 : Nat) :: Env.sp 47 (AV.slice y7 y8 y9 (1 : Nat) :: AV.int IntKind.i64 y10 :: AV.int IntKind.i64 y11 :: Env.sp 76 [])))
def f3e23 (y0 : Option (Nat × Nat)) (y1 : Option (Nat × Nat)) (y2 : Nat) (y3 : Option Nat) (y4 : Option (Nat × Nat)) (y5 : Nat) (y6 : Option Nat) (y7 : Int) (y8 : Int) : Env := Env.sp 5 (AV.ptr y0 :: AV.slice y1 y2 y3 (1 : Nat) :: Env.sp 47 (AV.slice y4 y5 y6 (1 : Nat) :: AV.int IntKind.i64 y7 :: AV.int IntKind.i64 y8 :: Env.sp 76 []))
def f3e24 (y0 : Option (Nat × Nat)) (y1 : Option (Nat × Nat)) (y2 : Nat) (y3 : Option Nat) (y4 : Option (Nat × Nat)) (y5 : Nat) (y6 : Option Nat) (y7 : Int) (y8 : Int) (y9 : Bool) : Env := Env.sp 5 (AV.ptr y0 :: AV.slice y1 y2 y3 (1 : Nat) :: Env.sp 47 (AV.slice y4 y5 y6 (1 : Nat) :: AV.int IntKind.i64 y7 :: AV.int IntKind.i64 y8 :: AV.bool y9 :: Env.sp 75 []))
def f3e25 (y0 : Option (Nat × Nat)) (y1 : Option (Nat × Nat)) (y2 : Nat) (y3 : Option Nat) : Env := Env.sp 5 (AV.ptr y0 :: AV.slice y1 y2 y3 (1 : Nat) :: Env.sp 126 [])
def f3e26 (y0 : Option (Nat × Nat)) (y1 : Option (Nat × Nat)) (y2 : Nat) (y3 : Option Nat) (y4 : Int) (y5 : Option (Nat × Nat)) (y6 : Nat) (y7 : Option Nat) (y8 : Int) (y9 : Int) (y10 : Option (Nat × Nat)) (y11 : Int) : Env := Env.sp 5 (AV.ptr y0 :: AV.slice y1 y2 y3 (1 : Nat) :: Env.sp 3 (AV.int IntKind.i64 y4 :: Env.sp 43 (AV.slice y5 y6 y7 (1 : Nat) :: AV.int IntKind.i64 y8 :: AV.int IntKind.i64 y9 :: Env.sp 1 (AV.ptr y10 :: AV.int IntKind.i64 y11 :: Env.sp 73 []))))
def f3e27 (y0 : Option (Nat × Nat)) (y1 : Option (Nat × Nat)) (y2 : Nat) (y3 : Option Nat) (y4 : Int) (y5 : Option (Nat × Nat)) (y6 : Nat) (y7 : Option Nat) (y8 : Int) (y9 : Int) : Env := Env.sp 5 (AV.ptr y0 :: AV.slice y1 y2 y3 (1 : Nat) :: Env.sp 3 (AV.int IntKind.i64 y4 :: Env.sp 43 (AV.slice y5 y6 y7 (1 : Nat) :: AV.int IntKind.i64 y8 :: AV.int IntKind.i64 y9 :: Env.sp 76 [])))
def f3e28 (y0 : Option (Nat × Nat)) (y1 : Option (Nat × Nat)) (y2 : Nat) (y3 : Option Nat) (y4 : Int) (y5 : Nat) (y6 : Int) (y7 : Option (Nat × Nat)) (y8 : Nat) (y9 : Option Nat) (y10 : Int) (y11 : Int) (y12 : Int) (y13 : Int) (y14 : Int) (y15 : ByteArray) (y16 : Int) (y17 : Option (Nat × Nat)) (y18 : Int) (y19 : Int) (y20 : Int) (y21 : Int) (y22 : ByteArray) (y23 : Int) (y24 : Int) (y25 : Int) (y26 : Int) (y27 : ByteArray) (y28 : Int) : Env := Env.sp 5 (AV.ptr y0 :: AV.slice y1 y2 y3 (1 : Nat) :: Env.sp 3 (AV.int IntKind.i64 y4 :: AV.ptr (some (y5, (0 : Nat))) :: AV.int IntKind.i64 y6 :: Env.sp 41 (AV.slice y7 y8 y9 (1 : Nat) :: AV.int IntKind.i64 y10 :: AV.int IntKind.i64 y11 :: Env.sp 3 (AV.tuple [AV.agg [AV.int IntKind.i64 y12, AV.int IntKind.i64 y13, AV.int IntKind.i64 y14, AV.str y15], AV.int IntKind.i64 y16] :: AV.ptr y17 :: AV.int IntKind.i64 y18 :: AV.tuple [AV.agg [AV.int IntKind.i64 y19, AV.int IntKind.i64 y20, AV.int IntKind.i64 y21, AV.str y22], AV.int IntKind.i64 y23] :: AV.agg [AV.int IntKind.i64 y24, AV.int IntKind.i64 y25, AV.int IntKind.i64 y26, AV.str y27] :: AV.int IntKind.i64 y28 :: Env.sp 67 []))))
def f3e29 (y0 : Option (Nat × Nat)) (y1 : Option (Nat × Nat)) (y2 : Nat) (y3 : Option Nat) (y4 : Int) (y5 : Nat) (y6 : Int) (y7 : Option (Nat × Nat)) (y8 : Nat) (y9 : Option Nat) (y10 : Int) (y11 : Int) : Env := Env.sp 5 (AV.ptr y0 :: AV.slice y1 y2 y3 (1 : Nat) :: Env.sp 3 (AV.int IntKind.i64 y4 :: AV.ptr (some (y5, (0 : Nat))) :: AV.int IntKind.i64 y6 :: Env.sp 41 (AV.slice y7 y8 y9 (1 : Nat) :: AV.int IntKind.i64 y10 :: AV.int IntKind.i64 y11 :: Env.sp 76 [])))
def f3e30 (y0 : Option (Nat × Nat)) (y1 : Option (Nat × Nat)) (y2 : Nat) (y3 : Option Nat) (y4 : Int) (y5 : Nat) (y6 : Int) (y7 : Option (Nat × Nat)) (y8 : Nat) (y9 : Option Nat) (y10 : Int) (y11 : Int) (y12 : Int) (y13 : Bool) (y14 : Int) (y15 : Bool) (y16 : Bool) (y17 : Int) (y18 : Option (Nat × Nat)) (y19 : Nat) (y20 : Option Nat) (y21 : Int) (y22 : Bool) (y23 : Bool) (y24 : Bool) : Env := Env.sp 5 (AV.ptr y0 :: AV.slice y1 y2 y3 (1 : Nat) :: Env.sp 3 (AV.int IntKind.i64 y4 :: AV.ptr (some (y5, (0 : Nat))) :: AV.int IntKind.i64 y6 :: Env.sp 41 (AV.slice y7 y8 y9 (1 : Nat) :: AV.int IntKind.i64 y10 :: AV.int IntKind.i64 y11 :: Env.sp 9 (AV.int IntKind.i64 y12 :: AV.bool y13 :: AV.int IntKind.i64 y14 :: AV.bool y15 :: AV.bool y16 :: AV.int IntKind.i64 y17 :: AV.slice y18 y19 y20 (1 : Nat) :: AV.int IntKind.i64 y21 :: AV.bool y22 :: AV.bool y23 :: AV.bool y24 :: Env.sp 56 []))))
def f3e31 (y0 : Option (Nat × Nat)) (y1 : Option (Nat × Nat)) (y2 : Nat) (y3 : Option Nat) (y4 : Int) (y5 : Nat) (y6 : Int) (y7 : Option (Nat × Nat)) (y8 : Nat) (y9 : Option Nat) (y10 : Int) (y11 : Int) (y12 : Int) (y13 : Bool) (y14 : Int) (y15 : Bool) (y16 : Bool) (y17 : Bool) (y18 : Bool) : Env := Env.sp 5 (AV.ptr y0 :: AV.slice y1 y2 y3 (1 : Nat) :: Env.sp 3 (AV.int IntKind.i64 y4 :: AV.ptr (some (y5, (0 : Nat))) :: AV.int IntKind.i64 y6 :: Env.sp 41 (AV.slice y7 y8 y9 (1 : Nat) :: AV.int IntKind.i64 y10 :: AV.int IntKind.i64 y11 :: Env.sp 9 (AV.int IntKind.i64 y12 :: AV.bool y13 :: AV.int IntKind.i64 y14 :: AV.bool y15 :: AV.bool y16 :: AV.tuple [] :: AV.tuple [] :: AV.tuple [] :: AV.tuple [] :: AV.bool y17 :: AV.bool y18 :: Env.sp 56 []))))
def f3e32 (y0 : Option (Nat × Nat)) (y1 : Option (Nat × Nat)) (y2 : Nat) (y3 : Option Nat) (y4 : Int) (y5 : Nat) (y6 : Int) (y7 : Option (Nat × Nat)) (y8 : Nat) (y9 : Option Nat) (y10 : Int) (y11 : Int) (y12 : Bool) : Env := Env.sp 5 (AV.ptr y0 :: AV.slice y1 y2 y3 (1 : Nat) :: Env.sp 3 (AV.int IntKind.i64 y4 :: AV.ptr (some (y5, (0 : Nat))) :: AV.int IntKind.i64 y6 :: Env.sp 41 (AV.slice y7 y8 y9 (1 : Nat) :: AV.int IntKind.i64 y10 :: AV.int IntKind.i64 y11 :: Env.sp 19 (AV.bool y12 :: Env.sp 56 []))))
def f3e33 (y0 : Bool) (y1 : Option (Nat × Nat)) (y2 : Option (Nat × Nat)) (y3 : Nat) (y4 : Option Nat) (y5 : Int) (y6 : Nat) (y7 : Int) (y8 : Option (Nat × Nat)) (y9 : Nat) (y10 : Option Nat) (y11 : Int) (y12 : Int) (y13 : Bool) : Env := Env.sp 4 (AV.bool y0 :: AV.ptr y1 :: AV.slice y2 y3 y4 (1 : Nat) :: Env.sp 3 (AV.int IntKind.i64 y5 :: AV.ptr (some (y6, (0 : Nat))) :: AV.int IntKind.i64 y7 :: Env.sp 41 (AV.slice y8 y9 y10 (1 : Nat) :: AV.int IntKind.i64 y11 :: AV.int IntKind.i64 y12 :: Env.sp 19 (AV.bool y13 :: Env.sp 56 []))))
def f3e34 (y0 : Option (Nat × Nat)) (y1 : Option (Nat × Nat)) (y2 : Nat) (y3 : Option Nat) (y4 : Int) (y5 : Nat) (y6 : Int) (y7 : Option (Nat × Nat)) (y8 : Nat) (y9 : Option Nat) (y10 : Int) (y11 : Int) (y12 : Int) (y13 : Bool) : Env := Env.sp 5 (AV.ptr y0 :: AV.slice y1 y2 y3 (1 : Nat) :: Env.sp 3 (AV.int IntKind.i64 y4 :: AV.ptr (some (y5, (0 : Nat))) :: AV.int IntKind.i64 y6 :: Env.sp 41 (AV.slice y7 y8 y9 (1 : Nat) :: AV.int IntKind.i64 y10 :: AV.int IntKind.i64 y11 :: Env.sp 20 (AV.int IntKind.i64 y12 :: AV.bool y13 :: Env.sp 54 []))))
def f3e35 (y0 : Option (Nat × Nat)) (y1 : Option (Nat × Nat)) (y2 : Nat) (y3 : Option Nat) (y4 : Int) (y5 : Nat) (y6 : Option (Nat × Nat)) (y7 : Nat) (y8 : Option Nat) (y9 : Int) (y10 : Int) (y11 : Bool) : Env := Env.sp 5 (AV.ptr y0 :: AV.slice y1 y2 y3 (1 : Nat) :: Env.sp 3 (AV.int IntKind.i64 y4 :: AV.ptr (some (y5, (0 : Nat))) :: Env.sp 42 (AV.slice y6 y7 y8 (1 : Nat) :: AV.int IntKind.i64 y9 :: AV.int IntKind.i64 y10 :: Env.sp 21 (AV.bool y11 :: Env.sp 54 []))))
def f3e36 (y0 : Option (Nat × Nat)) (y1 : Option (Nat × Nat)) (y2 : Nat) (y3 : Option Nat) (y4 : Int) (y5 : Nat) (y6 : Option (Nat × Nat)) (y7 : Nat) (y8 : Option Nat) (y9 : Int) (y10 : Int) : Env := Env.sp 5 (AV.ptr y0 :: AV.slice y1 y2 y3 (1 : Nat) :: Env.sp 3 (AV.int IntKind.i64 y4 :: AV.ptr (some (y5, (0 : Nat))) :: Env.sp 42 (AV.slice y6 y7 y8 (1 : Nat) :: AV.int IntKind.i64 y9 :: AV.int IntKind.i64 y10 :: Env.sp 76 [])))
def f3e37 (y0 : Option (Nat × Nat)) (y1 : Option (Nat × Nat)) (y2 : Nat) (y3 : Option Nat) (y4 : Int) (y5 : Nat) (y6 : Option (Nat × Nat)) (y7 : Nat) (y8 : Option Nat) (y9 : Int) (y10 : Int) (y11 : Nat) (y12 : ByteArray) (y13 : Option (Nat × Nat)) (y14 : Nat) (y15 : Option Nat) (y16 : Int) (y17 : Option (Nat × Nat)) (y18 : ByteArray) (y19 : Bool) : Env := Env.sp 5 (AV.ptr y0 :: AV.slice y1 y2 y3 (1 : Nat) :: Env.sp 3 (AV.int IntKind.i64 y4 :: AV.ptr (some (y5, (0 : Nat))) :: Env.sp 42 (AV.slice y6 y7 y8 (1 : Nat) :: AV.int IntKind.i64 y9 :: AV.int IntKind.i64 y10 :: Env.sp 22 (AV.ptr (some (y11, (3 : Nat))) :: AV.str y12 :: AV.slice y13 y14 y15 (1 : Nat) :: AV.int IntKind.i64 y16 :: AV.ptr y17 :: AV.str y18 :: AV.bool y19 :: Env.sp 47 []))))
def f3e38 (y0 : Option (Nat × Nat)) (y1 : Option (Nat × Nat)) (y2 : Nat) (y3 : Option Nat) (y4 : Int) (y5 : Option (Nat × Nat)) (y6 : Nat) (y7 : Option Nat) (y8 : Int) (y9 : Int) (y10 : Bool) : Env := Env.sp 5 (AV.ptr y0 :: AV.slice y1 y2 y3 (1 : Nat) :: Env.sp 3 (AV.int IntKind.i64 y4 :: Env.sp 43 (AV.slice y5 y6 y7 (1 : Nat) :: AV.int IntKind.i64 y8 :: AV.int IntKind.i64 y9 :: Env.sp 28 (AV.bool y10 :: Env.sp 47 []))))
def f3e39 (y0 : Bool) (y1 : Option (Nat × Nat)) (y2 : Option (Nat × Nat)) (y3 : Nat) (y4 : Option Nat) (y5 : Int) (y6 : Option (Nat × Nat)) (y7 : Nat) (y8 : Option Nat) (y9 : Int) (y10 : Int) (y11 : Bool) : Env := Env.sp 4 (AV.bool y0 :: AV.ptr y1 :: AV.slice y2 y3 y4 (1 : Nat) :: Env.sp 3 (AV.int IntKind.i64 y5 :: Env.sp 43 (AV.slice y6 y7 y8 (1 : Nat) :: AV.int IntKind.i64 y9 :: AV.int IntKind.i64 y10 :: Env.sp 28 (AV.bool y11 :: Env.sp 47 []))))
def f3e40 (y0 : Option (Nat × Nat)) (y1 : Option (Nat × Nat)) (y2 : Nat) (y3 : Option Nat) (y4 : Int) (y5 : Option (Nat × Nat)) (y6 : Nat) (y7 : Option Nat) (y8 : Option (Nat × Nat)) (y9 : Nat) (y10 : Option Nat) (y11 : Int) (y12 : Int) : Env := Env.sp 5 (AV.ptr y0 :: AV.slice y1 y2 y3 (1 : Nat) :: Env.sp 3 (AV.int IntKind.i64 y4 :: Env.sp 2 (AV.slice y5 y6 y7 (1 : Nat) :: Env.sp 40 (AV.slice y8 y9 y10 (1 : Nat) :: AV.int IntKind.i64 y11 :: AV.int IntKind.i64 y12 :: Env.sp 76 []))))
def f3e41 (y0 : Option (Nat × Nat)) (y1 : Option (Nat × Nat)) (y2 : Nat) (y3 : Option Nat) (y4 : Int) (y5 : Option (Nat × Nat)) (y6 : Nat) (y7 : Option Nat) (y8 : Option (Nat × Nat)) (y9 : Nat) (y10 : Option Nat) (y11 : Int) (y12 : Int) (y13 : Option (Nat × Nat)) (y14 : Nat) (y15 : Option Nat) (y16 : Int) (y17 : Int) : Env := Env.sp 5 (AV.ptr y0 :: AV.slice y1 y2 y3 (1 : Nat) :: Env.sp 3 (AV.int IntKind.i64 y4 :: Env.sp 2 (AV.slice y5 y6 y7 (1 : Nat) :: Env.sp 40 (AV.slice y8 y9 y10 (1 : Nat) :: AV.int IntKind.i64 y11 :: AV.int IntKind.i64 y12 :: Env.sp 29 (AV.slice y13 y14 y15 (1 : Nat) :: AV.int IntKind.i64 y16 :: AV.int IntKind.i64 y17 :: Env.sp 44 [])))))
def f3e42 (y0 : Option (Nat × Nat)) (y1 : Int) (y2 : Option (Nat × Nat)) (y3 : Nat) (y4 : Option Nat) (y5 : Option (Nat × Nat)) (y6 : Nat) (y7 : Option Nat) (y8 : Int) (y9 : Int) (y10 : Option (Nat × Nat)) (y11 : Nat) (y12 : Option Nat) (y13 : Int) (y14 : Int) : Env := Env.sp 5 (AV.ptr y0 :: Env.sp 4 (AV.int IntKind.i64 y1 :: Env.sp 2 (AV.slice y2 y3 y4 (1 : Nat) :: Env.sp 40 (AV.slice y5 y6 y7 (1 : Nat) :: AV.int IntKind.i64 y8 :: AV.int IntKind.i64 y9 :: Env.sp 29 (AV.slice y10 y11 y12 (1 : Nat) :: AV.int IntKind.i64 y13 :: AV.int IntKind.i64 y14 :: Env.sp 44 [])))))
def f3e43 (y0 : Option (Nat × Nat)) (y1 : Int) (y2 : Option (Nat × Nat)) (y3 : Nat) (y4 : Option Nat) (y5 : Option (Nat × Nat)) (y6 : Nat) (y7 : Option Nat) (y8 : Int) (y9 : Int) (y10 : Option (Nat × Nat)) (y11 : Nat) (y12 : Option Nat) (y13 : Int) (y14 : Int) (y15 : Bool) : Env := Env.sp 5 (AV.ptr y0 :: Env.sp 4 (AV.int IntKind.i64 y1 :: Env.sp 2 (AV.slice y2 y3 y4 (1 : Nat) :: Env.sp 40 (AV.slice y5 y6 y7 (1 : Nat) :: AV.int IntKind.i64 y8 :: AV.int IntKind.i64 y9 :: Env.sp 29 (AV.slice y10 y11 y12 (1 : Nat) :: AV.int IntKind.i64 y13 :: AV.int IntKind.i64 y14 :: AV.bool y15 :: Env.sp 43 [])))))
def f3e44 (y0 : Option (Nat × Nat)) (y1 : Option (Nat × Nat)) (y2 : Nat) (y3 : Option Nat) (y4 : Option (Nat × Nat)) (y5 : Nat) (y6 : Option Nat) (y7 : Int) (y8 : Int) : Env := Env.sp 5 (AV.ptr y0 :: Env.sp 7 (AV.slice y1 y2 y3 (1 : Nat) :: Env.sp 40 (AV.slice y4 y5 y6 (1 : Nat) :: AV.int IntKind.i64 y7 :: AV.int IntKind.i64 y8 :: Env.sp 76 [])))
def f3e45 (y0 : Option (Nat × Nat)) (y1 : Int) (y2 : Option (Nat × Nat)) (y3 : Nat) (y4 : Option Nat) (y5 : Int) (y6 : ByteArray) (y7 : Option (Nat × Nat)) (y8 : Nat) (y9 : Option Nat) (y10 : Int) (y11 : Int) (y12 : Option (Nat × Nat)) (y13 : Nat) (y14 : Option Nat) (y15 : Int) (y16 : Int) (y17 : Int) (y18 : Option (Nat × Nat)) (y19 : ByteArray) : Env := Env.sp 5 (AV.ptr y0 :: Env.sp 4 (AV.int IntKind.i64 y1 :: Env.sp 2 (AV.slice y2 y3 y4 (1 : Nat) :: AV.int IntKind.i64 y5 :: AV.str y6 :: Env.sp 38 (AV.slice y7 y8 y9 (1 : Nat) :: AV.int IntKind.i64 y10 :: AV.int IntKind.i64 y11 :: Env.sp 29 (AV.slice y12 y13 y14 (1 : Nat) :: AV.int IntKind.i64 y15 :: AV.int IntKind.i64 y16 :: Env.sp 1 (AV.int IntKind.i64 y17 :: AV.ptr y18 :: AV.str y19 :: Env.sp 40 []))))))
def f3e46 (y0 : Option (Nat × Nat)) (y1 : Int) (y2 : Option (Nat × Nat)) (y3 : Nat) (y4 : Option Nat) (y5 : Int) (y6 : ByteArray) (y7 : Option (Nat × Nat)) (y8 : Nat) (y9 : Option Nat) (y10 : Int) (y11 : Int) (y12 : Option (Nat × Nat)) (y13 : Nat) (y14 : Option Nat) (y15 : Int) (y16 : Int) : Env := Env.sp 5 (AV.ptr y0 :: Env.sp 4 (AV.int IntKind.i64 y1 :: Env.sp 2 (AV.slice y2 y3 y4 (1 : Nat) :: AV.int IntKind.i64 y5 :: AV.str y6 :: Env.sp 38 (AV.slice y7 y8 y9 (1 : Nat) :: AV.int IntKind.i64 y10 :: AV.int IntKind.i64 y11 :: Env.sp 29 (AV.slice y12 y13 y14 (1 : Nat) :: AV.int IntKind.i64 y15 :: AV.int IntKind.i64 y16 :: Env.sp 44 [])))))
def f3e47 (y0 : Option (Nat × Nat)) (y1 : Int) (y2 : Option (Nat × Nat)) (y3 : Nat) (y4 : Option Nat) (y5 : Int) (y6 : ByteArray) (y7 : Option (Nat × Nat)) (y8 : Nat) (y9 : Option Nat) (y10 : Int) (y11 : Int) (y12 : Option (Nat × Nat)) (y13 : Nat) (y14 : Option Nat) (y15 : Int) (y16 : Int) (y17 : Int) (y18 : Int) (y19 : Bool) : Env := Env.sp 5 (AV.ptr y0 :: Env.sp 4 (AV.int IntKind.i64 y1 :: Env.sp 2 (AV.slice y2 y3 y4 (1 : Nat) :: AV.int IntKind.i64 y5 :: AV.str y6 :: Env.sp 38 (AV.slice y7 y8 y9 (1 : Nat) :: AV.int IntKind.i64 y10 :: AV.int IntKind.i64 y11 :: Env.sp 29 (AV.slice y12 y13 y14 (1 : Nat) :: AV.int IntKind.i64 y15 :: AV.int IntKind.i64 y16 :: Env.sp 4 (AV.int IntKind.i64 y17 :: AV.int IntKind.i64 y18 :: AV.bool y19 :: Env.sp 37 []))))))
def f3e48 (y0 : Option (Nat × Nat)) (y1 : Int) (y2 : Option (Nat × Nat)) (y3 : Nat) (y4 : Option Nat) (y5 : ByteArray) (y6 : Option (Nat × Nat)) (y7 : Nat) (y8 : Option Nat) (y9 : Int) (y10 : Int) (y11 : Option (Nat × Nat)) (y12 : Nat) (y13 : Option Nat) (y14 : Int) (y15 : Int) (y16 : Bool) : Env := Env.sp 5 (AV.ptr y0 :: Env.sp 4 (AV.int IntKind.i64 y1 :: Env.sp 2 (AV.slice y2 y3 y4 (1 : Nat) :: Env.sp 1 (AV.str y5 :: Env.sp 38 (AV.slice y6 y7 y8 (1 : Nat) :: AV.int IntKind.i64 y9 :: AV.int IntKind.i64 y10 :: Env.sp 29 (AV.slice y11 y12 y13 (1 : Nat) :: AV.int IntKind.i64 y14 :: AV.int IntKind.i64 y15 :: Env.sp 6 (AV.bool y16 :: Env.sp 37 [])))))))
def f3e49 (y0 : Option (Nat × Nat)) (y1 : Int) (y2 : Option (Nat × Nat)) (y3 : Nat) (y4 : Option Nat) (y5 : ByteArray) (y6 : Option (Nat × Nat)) (y7 : Nat) (y8 : Option Nat) (y9 : Int) (y10 : Int) (y11 : Option (Nat × Nat)) (y12 : Nat) (y13 : Option Nat) (y14 : Int) (y15 : Int) (y16 : Bool) (y17 : Option (Nat × Nat)) (y18 : Nat) (y19 : Option Nat) (y20 : ByteArray) (y21 : Option (Nat × Nat)) (y22 : Nat) (y23 : Option Nat) (y24 : Option (Nat × Nat)) (y25 : Nat) (y26 : Option Nat) : Env := Env.sp 5 (AV.ptr y0 :: Env.sp 4 (AV.int IntKind.i64 y1 :: Env.sp 2 (AV.slice y2 y3 y4 (1 : Nat) :: Env.sp 1 (AV.str y5 :: Env.sp 38 (AV.slice y6 y7 y8 (1 : Nat) :: AV.int IntKind.i64 y9 :: AV.int IntKind.i64 y10 :: Env.sp 29 (AV.slice y11 y12 y13 (1 : Nat) :: AV.int IntKind.i64 y14 :: AV.int IntKind.i64 y15 :: Env.sp 6 (AV.bool y16 :: AV.slice y17 y18 y19 (1 : Nat) :: AV.str y20 :: AV.slice y21 y22 y23 (1 : Nat) :: AV.slice y24 y25 y26 (1 : Nat) :: Env.sp 33 [])))))))
def f3e50 (y0 : Option (Nat × Nat)) (y1 : Int) (y2 : Option (Nat × Nat)) (y3 : Nat) (y4 : Option Nat) (y5 : Option (Nat × Nat)) (y6 : Nat) (y7 : Option Nat) (y8 : Int) (y9 : Int) (y10 : Option (Nat × Nat)) (y11 : Nat) (y12 : Option Nat) (y13 : Int) (y14 : Int) (y15 : Int) : Env := Env.sp 5 (AV.ptr y0 :: Env.sp 4 (AV.int IntKind.i64 y1 :: Env.sp 2 (AV.slice y2 y3 y4 (1 : Nat) :: Env.sp 40 (AV.slice y5 y6 y7 (1 : Nat) :: AV.int IntKind.i64 y8 :: AV.int IntKind.i64 y9 :: Env.sp 29 (AV.slice y10 y11 y12 (1 : Nat) :: AV.int IntKind.i64 y13 :: AV.int IntKind.i64 y14 :: Env.sp 11 (AV.int IntKind.i64 y15 :: Env.sp 32 []))))))
def f3e51 (y0 : Option (Nat × Nat)) (y1 : Option (Nat × Nat)) (y2 : Nat) (y3 : Option Nat) (y4 : Option (Nat × Nat)) (y5 : Nat) (y6 : Option Nat) (y7 : Option (Nat × Nat)) (y8 : Nat) (y9 : Option Nat) (y10 : Int) (y11 : Int) (y12 : Option (Nat × Nat)) (y13 : Nat) (y14 : Option Nat) : Env := Env.sp 5 (AV.ptr y0 :: AV.slice y1 y2 y3 (1 : Nat) :: Env.sp 6 (AV.slice y4 y5 y6 (1 : Nat) :: Env.sp 40 (AV.slice y7 y8 y9 (1 : Nat) :: AV.int IntKind.i64 y10 :: AV.int IntKind.i64 y11 :: Env.sp 44 (AV.slice y12 y13 y14 (1 : Nat) :: Env.sp 31 []))))
def f3e52 (y0 : Option (Nat × Nat)) (y1 : Option (Nat × Nat)) (y2 : Nat) (y3 : Option Nat) (y4 : Option (Nat × Nat)) (y5 : Nat) (y6 : Option Nat) (y7 : Int) (y8 : Int) (y9 : Int) : Env := Env.sp 5 (AV.ptr y0 :: AV.slice y1 y2 y3 (1 : Nat) :: Env.sp 47 (AV.slice y4 y5 y6 (1 : Nat) :: AV.int IntKind.i64 y7 :: AV.int IntKind.i64 y8 :: Env.sp 45 (AV.int IntKind.i64 y9 :: Env.sp 30 [])))
def f3e53 (y0 : Option (Nat × Nat)) (y1 : Option (Nat × Nat)) (y2 : Nat) (y3 : Option Nat) (y4 : Option (Nat × Nat)) (y5 : Nat) (y6 : Option Nat) (y7 : Int) (y8 : Int) : Env := Env.sp 5 (AV.ptr y0 :: AV.slice y1 y2 y3 (1 : Nat) :: Env.sp 96 (AV.slice y4 y5 y6 (1 : Nat) :: AV.int IntKind.i64 y7 :: AV.int IntKind.i64 y8 :: Env.sp 27 []))
def f3e54 (y0 : Option (Nat × Nat)) (y1 : Option (Nat × Nat)) (y2 : Nat) (y3 : Option Nat) (y4 : Option (Nat × Nat)) (y5 : Nat) (y6 : Option Nat) (y7 : Int) (y8 : Int) (y9 : Bool) : Env := Env.sp 5 (AV.ptr y0 :: AV.slice y1 y2 y3 (1 : Nat) :: Env.sp 96 (AV.slice y4 y5 y6 (1 : Nat) :: AV.int IntKind.i64 y7 :: AV.int IntKind.i64 y8 :: AV.bool y9 :: Env.sp 26 []))
def f3e55 (y0 : Option (Nat × Nat)) (y1 : Option (Nat × Nat)) (y2 : Nat) (y3 : Option Nat) (y4 : Int) (y5 : ByteArray) (y6 : Option (Nat × Nat)) (y7 : Nat) (y8 : Option Nat) (y9 : Int) (y10 : Int) (y11 : Int) (y12 : Option (Nat × Nat)) (y13 : ByteArray) : Env := Env.sp 5 (AV.ptr y0 :: AV.slice y1 y2 y3 (1 : Nat) :: Env.sp 9 (AV.int IntKind.i64 y4 :: AV.str y5 :: Env.sp 85 (AV.slice y6 y7 y8 (1 : Nat) :: AV.int IntKind.i64 y9 :: AV.int IntKind.i64 y10 :: Env.sp 1 (AV.int IntKind.i64 y11 :: AV.ptr y12 :: AV.str y13 :: Env.sp 23 []))))
def f3e56 (y0 : Option (Nat × Nat)) (y1 : Option (Nat × Nat)) (y2 : Nat) (y3 : Option Nat) (y4 : Int) (y5 : ByteArray) (y6 : Option (Nat × Nat)) (y7 : Nat) (y8 : Option Nat) (y9 : Int) (y10 : Int) : Env := Env.sp 5 (AV.ptr y0 :: AV.slice y1 y2 y3 (1 : Nat) :: Env.sp 9 (AV.int IntKind.i64 y4 :: AV.str y5 :: Env.sp 85 (AV.slice y6 y7 y8 (1 : Nat) :: AV.int IntKind.i64 y9 :: AV.int IntKind.i64 y10 :: Env.sp 27 [])))
def f3e57 (y0 : Option (Nat × Nat)) (y1 : Option (Nat × Nat)) (y2 : Nat) (y3 : Option Nat) (y4 : Int) (y5 : ByteArray) (y6 : Nat) (y7 : Int) (y8 : Option (Nat × Nat)) (y9 : Nat) (y10 : Option Nat) (y11 : Int) (y12 : Int) (y13 : Int) (y14 : Int) (y15 : Int) (y16 : ByteArray) (y17 : Int) (y18 : Option (Nat × Nat)) (y19 : Int) (y20 : Int) (y21 : Int) (y22 : Int) (y23 : ByteArray) (y24 : Int) (y25 : Int) (y26 : Int) (y27 : Int) (y28 : ByteArray) (y29 : Int) : Env := Env.sp 5 (AV.ptr y0 :: AV.slice y1 y2 y3 (1 : Nat) :: Env.sp 9 (AV.int IntKind.i64 y4 :: AV.str y5 :: AV.ptr (some (y6, (0 : Nat))) :: AV.int IntKind.i64 y7 :: Env.sp 83 (AV.slice y8 y9 y10 (1 : Nat) :: AV.int IntKind.i64 y11 :: AV.int IntKind.i64 y12 :: Env.sp 4 (AV.tuple [AV.agg [AV.int IntKind.i64 y13, AV.int IntKind.i64 y14, AV.int IntKind.i64 y15, AV.str y16], AV.int IntKind.i64 y17] :: AV.ptr y18 :: AV.int IntKind.i64 y19 :: AV.tuple [AV.agg [AV.int IntKind.i64 y20, AV.int IntKind.i64 y21, AV.int IntKind.i64 y22, AV.str y23], AV.int IntKind.i64 y24] :: AV.agg [AV.int IntKind.i64 y25, AV.int IntKind.i64 y26, AV.int IntKind.i64 y27, AV.str y28] :: AV.int IntKind.i64 y29 :: Env.sp 17 []))))
def f3e58 (y0 : Option (Nat × Nat)) (y1 : Option (Nat × Nat)) (y2 : Nat) (y3 : Option Nat) (y4 : ByteArray) (y5 : Nat) (y6 : Int) (y7 : Option (Nat × Nat)) (y8 : Nat) (y9 : Option Nat) (y10 : Int) (y11 : Int) : Env := Env.sp 5 (AV.ptr y0 :: AV.slice y1 y2 y3 (1 : Nat) :: Env.sp 10 (AV.str y4 :: AV.ptr (some (y5, (0 : Nat))) :: AV.int IntKind.i64 y6 :: Env.sp 83 (AV.slice y7 y8 y9 (1 : Nat) :: AV.int IntKind.i64 y10 :: AV.int IntKind.i64 y11 :: Env.sp 27 [])))
def f3e59 (y0 : Option (Nat × Nat)) (y1 : Option (Nat × Nat)) (y2 : Nat) (y3 : Option Nat) (y4 : ByteArray) (y5 : Nat) (y6 : Int) (y7 : Option (Nat × Nat)) (y8 : Nat) (y9 : Option Nat) (y10 : Int) (y11 : Int) (y12 : Int) (y13 : Bool) (y14 : Bool) (y15 : Bool) : Env := Env.sp 5 (AV.ptr y0 :: AV.slice y1 y2 y3 (1 : Nat) :: Env.sp 10 (AV.str y4 :: AV.ptr (some (y5, (0 : Nat))) :: AV.int IntKind.i64 y6 :: Env.sp 83 (AV.slice y7 y8 y9 (1 : Nat) :: AV.int IntKind.i64 y10 :: AV.int IntKind.i64 y11 :: Env.sp 10 (AV.int IntKind.i64 y12 :: AV.bool y13 :: AV.bool y14 :: AV.tuple [] :: AV.tuple [] :: AV.tuple [] :: AV.tuple [] :: AV.bool y15 :: Env.sp 9 []))))
def f3e60 (y0 : Option (Nat × Nat)) (y1 : Option (Nat × Nat)) (y2 : Nat) (y3 : Option Nat) (y4 : ByteArray) (y5 : Nat) (y6 : Int) (y7 : Option (Nat × Nat)) (y8 : Nat) (y9 : Option Nat) (y10 : Int) (y11 : Int) (y12 : Int) (y13 : Bool) (y14 : Bool) (y15 : Nat) (y16 : ByteArray) (y17 : ByteArray) (y18 : Bool) (y19 : Bool) : Env := Env.sp 5 (AV.ptr y0 :: AV.slice y1 y2 y3 (1 : Nat) :: Env.sp 10 (AV.str y4 :: AV.ptr (some (y5, (0 : Nat))) :: AV.int IntKind.i64 y6 :: Env.sp 83 (AV.slice y7 y8 y9 (1 : Nat) :: AV.int IntKind.i64 y10 :: AV.int IntKind.i64 y11 :: Env.sp 10 (AV.int IntKind.i64 y12 :: AV.bool y13 :: AV.bool y14 :: AV.ptr (some (y15, (3 : Nat))) :: AV.str y16 :: AV.str y17 :: AV.bool y18 :: AV.bool y19 :: Env.sp 9 []))))
def f3e61 (y0 : Option (Nat × Nat)) (y1 : Option (Nat × Nat)) (y2 : Nat) (y3 : Option Nat) (y4 : Option (Nat × Nat)) (y5 : Nat) (y6 : Option Nat) (y7 : Int) (y8 : Int) (y9 : Bool) : Env := Env.sp 5 (AV.ptr y0 :: AV.slice y1 y2 y3 (1 : Nat) :: Env.sp 96 (AV.slice y4 y5 y6 (1 : Nat) :: AV.int IntKind.i64 y7 :: AV.int IntKind.i64 y8 :: Env.sp 17 (AV.bool y9 :: Env.sp 9 [])))
def f3e62 (y0 : Bool) (y1 : Option (Nat × Nat)) (y2 : Option (Nat × Nat)) (y3 : Nat) (y4 : Option Nat) (y5 : Option (Nat × Nat)) (y6 : Nat) (y7 : Option Nat) (y8 : Int) (y9 : Int) (y10 : Bool) : Env := Env.sp 4 (AV.bool y0 :: AV.ptr y1 :: AV.slice y2 y3 y4 (1 : Nat) :: Env.sp 96 (AV.slice y5 y6 y7 (1 : Nat) :: AV.int IntKind.i64 y8 :: AV.int IntKind.i64 y9 :: Env.sp 17 (AV.bool y10 :: Env.sp 9 [])))
def f3e63 (y0 : Option (Nat × Nat)) (y1 : Option (Nat × Nat)) (y2 : Nat) (y3 : Option Nat) (y4 : Option (Nat × Nat)) (y5 : Nat) (y6 : Option Nat) (y7 : Int) (y8 : Int) (y9 : Int) : Env := Env.sp 5 (AV.ptr y0 :: AV.slice y1 y2 y3 (1 : Nat) :: Env.sp 96 (AV.slice y4 y5 y6 (1 : Nat) :: AV.int IntKind.i64 y7 :: AV.int IntKind.i64 y8 :: Env.sp 18 (AV.int IntKind.i64 y9 :: Env.sp 8 [])))
def f3e64 (y0 : Bool) (y1 : Option (Nat × Nat)) (y2 : Option (Nat × Nat)) (y3 : Nat) (y4 : Option Nat) (y5 : Option (Nat × Nat)) (y6 : Int) (y7 : Option (Nat × Nat)) (y8 : Nat) (y9 : Option Nat) (y10 : Int) (y11 : Bool) (y12 : Bool) (y13 : Bool) (y14 : Bool) : Env := Env.sp 4 (AV.bool y0 :: AV.ptr y1 :: AV.slice y2 y3 y4 (1 : Nat) :: Env.sp 118 (AV.ptr y5 :: AV.int IntKind.i64 y6 :: AV.slice y7 y8 y9 (1 : Nat) :: AV.int IntKind.i64 y10 :: AV.bool y11 :: AV.bool y12 :: AV.bool y13 :: AV.bool y14 :: []))
def f3e65 (y0 : Bool) (y1 : Option (Nat × Nat)) (y2 : Option (Nat × Nat)) (y3 : Nat) (y4 : Option Nat) (y5 : Option (Nat × Nat)) (y6 : Int) (y7 : Option (Nat × Nat)) (y8 : Nat) (y9 : Option Nat) (y10 : Int) (y11 : Bool) (y12 : Bool) (y13 : Bool) : Env := Env.sp 4 (AV.bool y0 :: AV.ptr y1 :: AV.slice y2 y3 y4 (1 : Nat) :: Env.sp 118 (AV.ptr y5 :: AV.int IntKind.i64 y6 :: AV.slice y7 y8 y9 (1 : Nat) :: AV.int IntKind.i64 y10 :: AV.bool y11 :: AV.bool y12 :: AV.tuple [] :: AV.bool y13 :: []))

/- function 3 -/
theorem f3_eq {R : Type} (call : CallF R) (N : Nat) (y0 : Option (Nat × Nat)) (y1 : Nat) (y2 : Option Nat) (y3 : Option (Nat × Nat)) (y4 : Nat) (y5 : Option Nat) (σ : St) (K : AV → St → Option R) :
    bodyK Try.prog call N ann 3 [AV.slice y0 y1 y2 (1 : Nat), AV.slice y3 y4 y5 (1 : Nat)] σ K = runK Try.prog call N f3c0 f3a0 (bodyC Try.prog f3rs K) (f3e0 y0 y1 y2 y3 y4 y5) σ := bodyK_of (fn := ((Try.prog.funcs[3]?).get rfl)) (by kernel_rfl) (by kernel_rfl) (by kernel_rfl) (by kernel_rfl) (by kernel_rfl) (by kernel_rfl)
theorem f3n0 {R : Type} (call : CallF R) (N : Nat) (J : KF R) (e : Env) (σ : St) : runK Try.prog call N f3c0 f3a0 J e σ = runK Try.prog call N f3c1 f3a1 (seqC (fun K e σ => runK Try.prog call N f3c2 f3a2 K e σ) f3a0 J) e σ := runK_seq' (by kernel_rfl) (by kernel_rfl) (by kernel_rfl)
theorem f3r1_f3e0 {R : Type} (call : CallF R) (N : Nat) (y0 : Option (Nat × Nat)) (y1 : Nat) (y2 : Option Nat) (y3 : Option (Nat × Nat)) (y4 : Nat) (y5 : Option Nat) (J : KF R) (σ : St) :
    runK Try.prog call N f3c1 f3a1 J (f3e0 y0 y1 y2 y3 y4 y5) σ =
J Ex.normal (f3e1 y0 y1 y2 y3 y4 y5 false) σ := hide (by kernel_rfl)
theorem f3z0_f3e1 (y0 : Option (Nat × Nat)) (y1 : Nat) (y2 : Option Nat) (y3 : Option (Nat × Nat)) (y4 : Nat) (y5 : Option Nat) (y6 : Bool) : Ann.clr f3a0 (f3e1 y0 y1 y2 y3 y4 y5 y6) = f3e0 y0 y1 y2 y3 y4 y5 := hide (by kernel_rfl)
theorem f3n2 {R : Type} (call : CallF R) (N : Nat) (J : KF R) (e : Env) (σ : St) : runK Try.prog call N f3c2 f3a2 J e σ = runK Try.prog call N f3c3 f3a3 (seqC (fun K e σ => runK Try.prog call N f3c4 f3a4 K e σ) f3a2 J) e σ := runK_seq' (by kernel_rfl) (by kernel_rfl) (by kernel_rfl)
theorem f3r3_f3e0 {R : Type} (call : CallF R) (N : Nat) (y0 : Option (Nat × Nat)) (y1 : Nat) (y2 : Option Nat) (y3 : Option (Nat × Nat)) (y4 : Nat) (y5 : Option Nat) (J : KF R) (σ : St) :
    runK Try.prog call N f3c3 f3a3 J (f3e0 y0 y1 y2 y3 y4 y5) σ =
call (8 : Nat) [] σ fun v0 v1 => Option.bind (AV.toPtr v0) fun v2 => J Ex.normal (f3e2 y0 y1 y2 y3 y4 y5 v2 v2) v1 := hide (by kernel_rfl)
theorem f3z2_f3e2 (y0 : Option (Nat × Nat)) (y1 : Nat) (y2 : Option Nat) (y3 : Option (Nat × Nat)) (y4 : Nat) (y5 : Option Nat) (y6 : Option (Nat × Nat)) (y7 : Option (Nat × Nat)) : Ann.clr f3a2 (f3e2 y0 y1 y2 y3 y4 y5 y6 y7) = f3e3 y0 y1 y2 y3 y4 y5 y6 := hide (by kernel_rfl)
theorem f3n4 {R : Type} (call : CallF R) (N : Nat) (J : KF R) (e : Env) (σ : St) : runK Try.prog call N f3c4 f3a4 J e σ = runK Try.prog call N f3c5 f3a5 (seqC (fun K e σ => runK Try.prog call N f3c6 f3a6 K e σ) f3a4 J) e σ := runK_seq' (by kernel_rfl) (by kernel_rfl) (by kernel_rfl)
theorem f3n5 {R : Type} (call : CallF R) (N : Nat) (J : KF R) (e : Env) (σ : St) : runK Try.prog call N f3c5 f3a5 J e σ = runK Try.prog call N f3c7 f3a7 (seqC (fun K e σ => runK Try.prog call N f3c8 f3a8 K e σ) f3a5 J) e σ := runK_seq' (by kernel_rfl) (by kernel_rfl) (by kernel_rfl)
theorem f3r7_f3e3 {R : Type} (call : CallF R) (N : Nat) (y0 : Option (Nat × Nat)) (y1 : Nat) (y2 : Option Nat) (y3 : Option (Nat × Nat)) (y4 : Nat) (y5 : Option Nat) (y6 : Option (Nat × Nat)) (J : KF R) (σ : St) :
    runK Try.prog call N f3c7 f3a7 J (f3e3 y0 y1 y2 y3 y4 y5 y6) σ =
if Option.isNone y6 = true then J Ex.normal (f3e4 y0 y1 y2 y3 y4 y5 y6 y6 (Option.isNone y6) true true true true) σ
else
  if decide ((↑y1 : Int) > (300 : Int)) = true then
    J Ex.normal
      (f3e5 y0 y1 y2 y3 y4 y5 y6 y6 (Option.isNone y6) false y0 y1 y2 (↑y1 : Int) (decide ((↑y1 : Int) > (300 : Int)))
        (decide ((↑y1 : Int) > (300 : Int))) true true)
      σ
  else
    J Ex.normal
      (f3e6 y0 y1 y2 y3 y4 y5 y6 y6 (Option.isNone y6) false y0 y1 y2 (↑y1 : Int) (decide ((↑y1 : Int) > (300 : Int)))
        (decide ((↑y1 : Int) > (300 : Int))) false y3 y4 y5 (↑y4 : Int) (decide ((↑y4 : Int) > (300 : Int))) (decide ((↑y4 : Int) > (300 : Int))))
      σ := hide (by kernel_rfl)
theorem f3z5_f3e4 (y0 : Option (Nat × Nat)) (y1 : Nat) (y2 : Option Nat) (y3 : Option (Nat × Nat)) (y4 : Nat) (y5 : Option Nat) (y6 : Option (Nat × Nat)) (y7 : Option (Nat × Nat)) (y8 : Bool) (y9 : Bool) (y10 : Bool) (y11 : Bool) (y12 : Bool) : Ann.clr f3a5 (f3e4 y0 y1 y2 y3 y4 y5 y6 y7 y8 y9 y10 y11 y12) = f3e7 y0 y1 y2 y3 y4 y5 y6 y12 := hide (by kernel_rfl)
theorem f3x8_f3e7 {R : Type} (call : CallF R) (N : Nat) (y0 : Option (Nat × Nat)) (y1 : Nat) (y2 : Option Nat) (y3 : Option (Nat × Nat)) (y4 : Nat) (y5 : Option Nat) (y6 : Option (Nat × Nat)) (y7 : Bool) (J : KF R) (σ : St) : runK Try.prog call N f3c8 f3a8 J (f3e7 y0 y1 y2 y3 y4 y5 y6 y7) σ = if y7 = true then runK Try.prog call N f3c9 f3a9 (condC f3a8 J) (f3e7 y0 y1 y2 y3 y4 y5 y6 y7) σ else runK Try.prog call N f3c10 f3a10 (condC f3a8 J) (f3e7 y0 y1 y2 y3 y4 y5 y6 y7) σ := runK_cond' (o := Operand.tmp (32 : Nat)) (by kernel_rfl) (by kernel_rfl) (by kernel_rfl) (by kernel_rfl)
theorem f3n9 {R : Type} (call : CallF R) (N : Nat) (J : KF R) (e : Env) (σ : St) : runK Try.prog call N f3c9 f3a9 J e σ = runK Try.prog call N f3c11 f3a11 (seqC (fun K e σ => runK Try.prog call N f3c12 f3a12 K e σ) f3a9 J) e σ := runK_seq' (by kernel_rfl) (by kernel_rfl) (by kernel_rfl)
theorem f3r11_f3e7 {R : Type} (call : CallF R) (N : Nat) (y0 : Option (Nat × Nat)) (y1 : Nat) (y2 : Option Nat) (y3 : Option (Nat × Nat)) (y4 : Nat) (y5 : Option Nat) (y6 : Option (Nat × Nat)) (y7 : Bool) (J : KF R) (σ : St) :
    runK Try.prog call N f3c11 f3a11 J (f3e7 y0 y1 y2 y3 y4 y5 y6 y7) σ =
if (!Option.isNone y6) = true then
  call (9 : Nat) [] σ fun v0 v1 =>
    Option.bind (AV.toBool v0) fun v2 => J Ex.normal (f3e8 y0 y1 y2 y3 y4 y5 v2 y6 y7 y6 (!Option.isNone y6) true v2 v2) v1
else J Ex.normal (f3e9 y0 y1 y2 y3 y4 y5 false y6 y7 y6 (!Option.isNone y6) false false) σ := hide (by kernel_rfl)
theorem f3z9_f3e8 (y0 : Option (Nat × Nat)) (y1 : Nat) (y2 : Option Nat) (y3 : Option (Nat × Nat)) (y4 : Nat) (y5 : Option Nat) (y6 : Bool) (y7 : Option (Nat × Nat)) (y8 : Bool) (y9 : Option (Nat × Nat)) (y10 : Bool) (y11 : Bool) (y12 : Bool) (y13 : Bool) : Ann.clr f3a9 (f3e8 y0 y1 y2 y3 y4 y5 y6 y7 y8 y9 y10 y11 y12 y13) = f3e10 y6 := hide (by kernel_rfl)
theorem f3y12_f3e10 {R : Type} (call : CallF R) (N : Nat) (y0 : Bool) (J : KF R) (σ : St) : runK Try.prog call N f3c12 f3a12 J (f3e10 y0) σ = J .ret (f3e10 y0) σ := runK_ret' (by kernel_rfl) (by kernel_rfl)
theorem f3z9_f3e9 (y0 : Option (Nat × Nat)) (y1 : Nat) (y2 : Option Nat) (y3 : Option (Nat × Nat)) (y4 : Nat) (y5 : Option Nat) (y6 : Bool) (y7 : Option (Nat × Nat)) (y8 : Bool) (y9 : Option (Nat × Nat)) (y10 : Bool) (y11 : Bool) (y12 : Bool) : Ann.clr f3a9 (f3e9 y0 y1 y2 y3 y4 y5 y6 y7 y8 y9 y10 y11 y12) = f3e10 y6 := hide (by kernel_rfl)
theorem f3n10 {R : Type} (call : CallF R) (N : Nat) (J : KF R) (e : Env) (σ : St) : runK Try.prog call N f3c10 f3a10 J e σ = J .normal e σ := runK_skip' (by kernel_rfl)
theorem f3z8_f3e7 (y0 : Option (Nat × Nat)) (y1 : Nat) (y2 : Option Nat) (y3 : Option (Nat × Nat)) (y4 : Nat) (y5 : Option Nat) (y6 : Option (Nat × Nat)) (y7 : Bool) : Ann.clr f3a8 (f3e7 y0 y1 y2 y3 y4 y5 y6 y7) = f3e3 y0 y1 y2 y3 y4 y5 y6 := hide (by kernel_rfl)
theorem f3z5_f3e5 (y0 : Option (Nat × Nat)) (y1 : Nat) (y2 : Option Nat) (y3 : Option (Nat × Nat)) (y4 : Nat) (y5 : Option Nat) (y6 : Option (Nat × Nat)) (y7 : Option (Nat × Nat)) (y8 : Bool) (y9 : Bool) (y10 : Option (Nat × Nat)) (y11 : Nat) (y12 : Option Nat) (y13 : Int) (y14 : Bool) (y15 : Bool) (y16 : Bool) (y17 : Bool) : Ann.clr f3a5 (f3e5 y0 y1 y2 y3 y4 y5 y6 y7 y8 y9 y10 y11 y12 y13 y14 y15 y16 y17) = f3e7 y0 y1 y2 y3 y4 y5 y6 y17 := hide (by kernel_rfl)
theorem f3z5_f3e6 (y0 : Option (Nat × Nat)) (y1 : Nat) (y2 : Option Nat) (y3 : Option (Nat × Nat)) (y4 : Nat) (y5 : Option Nat) (y6 : Option (Nat × Nat)) (y7 : Option (Nat × Nat)) (y8 : Bool) (y9 : Bool) (y10 : Option (Nat × Nat)) (y11 : Nat) (y12 : Option Nat) (y13 : Int) (y14 : Bool) (y15 : Bool) (y16 : Bool) (y17 : Option (Nat × Nat)) (y18 : Nat) (y19 : Option Nat) (y20 : Int) (y21 : Bool) (y22 : Bool) : Ann.clr f3a5 (f3e6 y0 y1 y2 y3 y4 y5 y6 y7 y8 y9 y10 y11 y12 y13 y14 y15 y16 y17 y18 y19 y20 y21 y22) = f3e7 y0 y1 y2 y3 y4 y5 y6 y22 := hide (by kernel_rfl)
theorem f3z4_f3e3 (y0 : Option (Nat × Nat)) (y1 : Nat) (y2 : Option Nat) (y3 : Option (Nat × Nat)) (y4 : Nat) (y5 : Option Nat) (y6 : Option (Nat × Nat)) : Ann.clr f3a4 (f3e3 y0 y1 y2 y3 y4 y5 y6) = f3e3 y0 y1 y2 y3 y4 y5 y6 := hide (by kernel_rfl)
theorem f3n6 {R : Type} (call : CallF R) (N : Nat) (J : KF R) (e : Env) (σ : St) : runK Try.prog call N f3c6 f3a6 J e σ = runK Try.prog call N f3c13 f3a13 (seqC (fun K e σ => runK Try.prog call N f3c14 f3a14 K e σ) f3a6 J) e σ := runK_seq' (by kernel_rfl) (by kernel_rfl) (by kernel_rfl)
theorem f3r13_f3e3 {R : Type} (call : CallF R) (N : Nat) (y0 : Option (Nat × Nat)) (y1 : Nat) (y2 : Option Nat) (y3 : Option (Nat × Nat)) (y4 : Nat) (y5 : Option Nat) (y6 : Option (Nat × Nat)) (J : KF R) (σ : St) :
    runK Try.prog call N f3c13 f3a13 J (f3e3 y0 y1 y2 y3 y4 y5 y6) σ =
J Ex.normal (f3e11 y0 y1 y2 y3 y4 y5 y6 none (0 : Nat) (some (0 : Nat))) σ := hide (by kernel_rfl)
theorem f3z6_f3e11 (y0 : Option (Nat × Nat)) (y1 : Nat) (y2 : Option Nat) (y3 : Option (Nat × Nat)) (y4 : Nat) (y5 : Option Nat) (y6 : Option (Nat × Nat)) (y7 : Option (Nat × Nat)) (y8 : Nat) (y9 : Option Nat) : Ann.clr f3a6 (f3e11 y0 y1 y2 y3 y4 y5 y6 y7 y8 y9) = f3e11 y0 y1 y2 y3 y4 y5 y6 y7 y8 y9 := hide (by kernel_rfl)
theorem f3n14 {R : Type} (call : CallF R) (N : Nat) (J : KF R) (e : Env) (σ : St) : runK Try.prog call N f3c14 f3a14 J e σ = runK Try.prog call N f3c15 f3a15 (seqC (fun K e σ => runK Try.prog call N f3c16 f3a16 K e σ) f3a14 J) e σ := runK_seq' (by kernel_rfl) (by kernel_rfl) (by kernel_rfl)
theorem f3n15 {R : Type} (call : CallF R) (N : Nat) (J : KF R) (e : Env) (σ : St) : runK Try.prog call N f3c15 f3a15 J e σ = runK Try.prog call N f3c17 f3a17 (seqC (fun K e σ => runK Try.prog call N f3c18 f3a18 K e σ) f3a15 J) e σ := runK_seq' (by kernel_rfl) (by kernel_rfl) (by kernel_rfl)
theorem f3r17_f3e11 {R : Type} (call : CallF R) (N : Nat) (y0 : Option (Nat × Nat)) (y1 : Nat) (y2 : Option Nat) (y3 : Option (Nat × Nat)) (y4 : Nat) (y5 : Option Nat) (y6 : Option (Nat × Nat)) (y7 : Option (Nat × Nat)) (y8 : Nat) (y9 : Option Nat) (J : KF R) (σ : St) :
    runK Try.prog call N f3c17 f3a17 J (f3e11 y0 y1 y2 y3 y4 y5 y6 y7 y8 y9) σ =
J Ex.normal (f3e12 y0 y1 y2 y3 y4 y5 y6 y7 y8 y9 y0 y1 y2 (↑y1 : Int) (0 : Int)) σ := hide (by kernel_rfl)
theorem f3z15_f3e12 (y0 : Option (Nat × Nat)) (y1 : Nat) (y2 : Option Nat) (y3 : Option (Nat × Nat)) (y4 : Nat) (y5 : Option Nat) (y6 : Option (Nat × Nat)) (y7 : Option (Nat × Nat)) (y8 : Nat) (y9 : Option Nat) (y10 : Option (Nat × Nat)) (y11 : Nat) (y12 : Option Nat) (y13 : Int) (y14 : Int) : Ann.clr f3a15 (f3e12 y0 y1 y2 y3 y4 y5 y6 y7 y8 y9 y10 y11 y12 y13 y14) = f3e13 y3 y4 y5 y6 y7 y8 y9 y10 y11 y12 y13 y14 := hide (by kernel_rfl)
theorem f3n18 {R : Type} (call : CallF R) (N : Nat) (J : KF R) (e : Env) (σ : St) : runK Try.prog call N f3c18 f3a18 J e σ = runK Try.prog call N f3c19 f3a19 (blockC 0 f3a18 J) e σ := runK_block' (by kernel_rfl) (by kernel_rfl)
theorem f3L19_eq {R : Type} (call : CallF R) (N : Nat) (J : KF R) (e : Env) (σ : St) : f3L19 call N J e σ = runK Try.prog call N f3c20 f3a20 J e σ := hide rfl
theorem f3z19_f3e13 (y0 : Option (Nat × Nat)) (y1 : Nat) (y2 : Option Nat) (y3 : Option (Nat × Nat)) (y4 : Option (Nat × Nat)) (y5 : Nat) (y6 : Option Nat) (y7 : Option (Nat × Nat)) (y8 : Nat) (y9 : Option Nat) (y10 : Int) (y11 : Int) : Ann.clr f3a19 (f3e13 y0 y1 y2 y3 y4 y5 y6 y7 y8 y9 y10 y11) = f3e13 y0 y1 y2 y3 y4 y5 y6 y7 y8 y9 y10 y11 := hide (by kernel_rfl)
theorem f3l19_f3e13 {R : Type} (call : CallF R) (N : Nat) (y0 : Option (Nat × Nat)) (y1 : Nat) (y2 : Option Nat) (y3 : Option (Nat × Nat)) (y4 : Option (Nat × Nat)) (y5 : Nat) (y6 : Option Nat) (y7 : Option (Nat × Nat)) (y8 : Nat) (y9 : Option Nat) (y10 : Int) (y11 : Int) (J : KF R) (σ : St) : runK Try.prog call N f3c19 f3a19 J (f3e13 y0 y1 y2 y3 y4 y5 y6 y7 y8 y9 y10 y11) σ = loopK (f3L19 call N) f3a19 N J (f3e13 y0 y1 y2 y3 y4 y5 y6 y7 y8 y9 y10 y11) σ := runK_loop' (by kernel_rfl) (by kernel_rfl) (by kernel_rfl)
theorem f3n20 {R : Type} (call : CallF R) (N : Nat) (J : KF R) (e : Env) (σ : St) : runK Try.prog call N f3c20 f3a20 J e σ = runK Try.prog call N f3c21 f3a21 (seqC (fun K e σ => runK Try.prog call N f3c22 f3a22 K e σ) f3a20 J) e σ := runK_seq' (by kernel_rfl) (by kernel_rfl) (by kernel_rfl)
theorem f3r21_f3e13 {R : Type} (call : CallF R) (N : Nat) (y0 : Option (Nat × Nat)) (y1 : Nat) (y2 : Option Nat) (y3 : Option (Nat × Nat)) (y4 : Option (Nat × Nat)) (y5 : Nat) (y6 : Option Nat) (y7 : Option (Nat × Nat)) (y8 : Nat) (y9 : Option Nat) (y10 : Int) (y11 : Int) (J : KF R) (σ : St) :
    runK Try.prog call N f3c21 f3a21 J (f3e13 y0 y1 y2 y3 y4 y5 y6 y7 y8 y9 y10 y11) σ =
J Ex.normal (f3e14 y0 y1 y2 y3 y4 y5 y6 y7 y8 y9 y10 y11 (decide (y11 < y10))) σ := hide (by kernel_rfl)
theorem f3z20_f3e14 (y0 : Option (Nat × Nat)) (y1 : Nat) (y2 : Option Nat) (y3 : Option (Nat × Nat)) (y4 : Option (Nat × Nat)) (y5 : Nat) (y6 : Option Nat) (y7 : Option (Nat × Nat)) (y8 : Nat) (y9 : Option Nat) (y10 : Int) (y11 : Int) (y12 : Bool) : Ann.clr f3a20 (f3e14 y0 y1 y2 y3 y4 y5 y6 y7 y8 y9 y10 y11 y12) = f3e14 y0 y1 y2 y3 y4 y5 y6 y7 y8 y9 y10 y11 y12 := hide (by kernel_rfl)
theorem f3n22 {R : Type} (call : CallF R) (N : Nat) (J : KF R) (e : Env) (σ : St) : runK Try.prog call N f3c22 f3a22 J e σ = runK Try.prog call N f3c23 f3a23 (seqC (fun K e σ => runK Try.prog call N f3c24 f3a24 K e σ) f3a22 J) e σ := runK_seq' (by kernel_rfl) (by kernel_rfl) (by kernel_rfl)
theorem f3x23_f3e14 {R : Type} (call : CallF R) (N : Nat) (y0 : Option (Nat × Nat)) (y1 : Nat) (y2 : Option Nat) (y3 : Option (Nat × Nat)) (y4 : Option (Nat × Nat)) (y5 : Nat) (y6 : Option Nat) (y7 : Option (Nat × Nat)) (y8 : Nat) (y9 : Option Nat) (y10 : Int) (y11 : Int) (y12 : Bool) (J : KF R) (σ : St) : runK Try.prog call N f3c23 f3a23 J (f3e14 y0 y1 y2 y3 y4 y5 y6 y7 y8 y9 y10 y11 y12) σ = if y12 = true then runK Try.prog call N f3c25 f3a25 (condC f3a23 J) (f3e14 y0 y1 y2 y3 y4 y5 y6 y7 y8 y9 y10 y11 y12) σ else runK Try.prog call N f3c26 f3a26 (condC f3a23 J) (f3e14 y0 y1 y2 y3 y4 y5 y6 y7 y8 y9 y10 y11 y12) σ := runK_cond' (o := Operand.tmp (41 : Nat)) (by kernel_rfl) (by kernel_rfl) (by kernel_rfl) (by kernel_rfl)
theorem f3n25 {R : Type} (call : CallF R) (N : Nat) (J : KF R) (e : Env) (σ : St) : runK Try.prog call N f3c25 f3a25 J e σ = J .normal e σ := runK_skip' (by kernel_rfl)
theorem f3z23_f3e14 (y0 : Option (Nat × Nat)) (y1 : Nat) (y2 : Option Nat) (y3 : Option (Nat × Nat)) (y4 : Option (Nat × Nat)) (y5 : Nat) (y6 : Option Nat) (y7 : Option (Nat × Nat)) (y8 : Nat) (y9 : Option Nat) (y10 : Int) (y11 : Int) (y12 : Bool) : Ann.clr f3a23 (f3e14 y0 y1 y2 y3 y4 y5 y6 y7 y8 y9 y10 y11 y12) = f3e13 y0 y1 y2 y3 y4 y5 y6 y7 y8 y9 y10 y11 := hide (by kernel_rfl)
theorem f3y26_f3e14 {R : Type} (call : CallF R) (N : Nat) (y0 : Option (Nat × Nat)) (y1 : Nat) (y2 : Option Nat) (y3 : Option (Nat × Nat)) (y4 : Option (Nat × Nat)) (y5 : Nat) (y6 : Option Nat) (y7 : Option (Nat × Nat)) (y8 : Nat) (y9 : Option Nat) (y10 : Int) (y11 : Int) (y12 : Bool) (J : KF R) (σ : St) : runK Try.prog call N f3c26 f3a26 J (f3e14 y0 y1 y2 y3 y4 y5 y6 y7 y8 y9 y10 y11 y12) σ = J (.exit 0) (f3e15 y0 y1 y2 y3 y4 y5 y6) σ := runK_exit' (by kernel_rfl) (by kernel_rfl)
theorem f3z22_f3e13 (y0 : Option (Nat × Nat)) (y1 : Nat) (y2 : Option Nat) (y3 : Option (Nat × Nat)) (y4 : Option (Nat × Nat)) (y5 : Nat) (y6 : Option Nat) (y7 : Option (Nat × Nat)) (y8 : Nat) (y9 : Option Nat) (y10 : Int) (y11 : Int) : Ann.clr f3a22 (f3e13 y0 y1 y2 y3 y4 y5 y6 y7 y8 y9 y10 y11) = f3e13 y0 y1 y2 y3 y4 y5 y6 y7 y8 y9 y10 y11 := hide (by kernel_rfl)
theorem f3n24 {R : Type} (call : CallF R) (N : Nat) (J : KF R) (e : Env) (σ : St) : runK Try.prog call N f3c24 f3a24 J e σ = runK Try.prog call N f3c27 f3a27 (seqC (fun K e σ => runK Try.prog call N f3c28 f3a28 K e σ) f3a24 J) e σ := runK_seq' (by kernel_rfl) (by kernel_rfl) (by kernel_rfl)
theorem f3n27 {R : Type} (call : CallF R) (N : Nat) (J : KF R) (e : Env) (σ : St) : runK Try.prog call N f3c27 f3a27 J e σ = runK Try.prog call N f3c29 f3a29 (blockC 1 f3a27 J) e σ := runK_block' (by kernel_rfl) (by kernel_rfl)
theorem f3n29 {R : Type} (call : CallF R) (N : Nat) (J : KF R) (e : Env) (σ : St) : runK Try.prog call N f3c29 f3a29 J e σ = runK Try.prog call N f3c30 f3a30 (seqC (fun K e σ => runK Try.prog call N f3c31 f3a31 K e σ) f3a29 J) e σ := runK_seq' (by kernel_rfl) (by kernel_rfl) (by kernel_rfl)
theorem f3r30_f3e13 {R : Type} (call : CallF R) (N : Nat) (y0 : Option (Nat × Nat)) (y1 : Nat) (y2 : Option Nat) (y3 : Option (Nat × Nat)) (y4 : Option (Nat × Nat)) (y5 : Nat) (y6 : Option Nat) (y7 : Option (Nat × Nat)) (y8 : Nat) (y9 : Option Nat) (y10 : Int) (y11 : Int) (J : KF R) (σ : St) :
    runK Try.prog call N f3c30 f3a30 J (f3e13 y0 y1 y2 y3 y4 y5 y6 y7 y8 y9 y10 y11) σ =
if (0 : Int) ≤ y11 ∧ y11 < (↑y8 : Int) then
  Option.bind y7 fun v0 =>
    Option.bind (St.ld σ (Prod.fst v0) (Prod.snd v0 + Int.toNat y11 * (1 : Nat))) fun v1 =>
      Option.bind (AV.toStr v1) fun v2 =>
        J Ex.normal (f3e16 y0 y1 y2 y3 y4 y5 y6 v2 y7 y8 y9 y10 y11 (some (Prod.fst v0, Prod.snd v0 + Int.toNat y11 * (1 : Nat))) v2) σ
else none := hide (by kernel_rfl)
theorem f3z29_f3e16 (y0 : Option (Nat × Nat)) (y1 : Nat) (y2 : Option Nat) (y3 : Option (Nat × Nat)) (y4 : Option (Nat × Nat)) (y5 : Nat) (y6 : Option Nat) (y7 : ByteArray) (y8 : Option (Nat × Nat)) (y9 : Nat) (y10 : Option Nat) (y11 : Int) (y12 : Int) (y13 : Option (Nat × Nat)) (y14 : ByteArray) : Ann.clr f3a29 (f3e16 y0 y1 y2 y3 y4 y5 y6 y7 y8 y9 y10 y11 y12 y13 y14) = f3e17 y0 y1 y2 y3 y4 y5 y6 y7 y8 y9 y10 y11 y12 := hide (by kernel_rfl)
theorem f3n31 {R : Type} (call : CallF R) (N : Nat) (J : KF R) (e : Env) (σ : St) : runK Try.prog call N f3c31 f3a31 J e σ = runK Try.prog call N f3c32 f3a32 (seqC (fun K e σ => runK Try.prog call N f3c33 f3a33 K e σ) f3a31 J) e σ := runK_seq' (by kernel_rfl) (by kernel_rfl) (by kernel_rfl)
theorem f3r32_f3e17 {R : Type} (call : CallF R) (N : Nat) (y0 : Option (Nat × Nat)) (y1 : Nat) (y2 : Option Nat) (y3 : Option (Nat × Nat)) (y4 : Option (Nat × Nat)) (y5 : Nat) (y6 : Option Nat) (y7 : ByteArray) (y8 : Option (Nat × Nat)) (y9 : Nat) (y10 : Option Nat) (y11 : Int) (y12 : Int) (J : KF R) (σ : St) :
    runK Try.prog call N f3c32 f3a32 J (f3e17 y0 y1 y2 y3 y4 y5 y6 y7 y8 y9 y10 y11 y12) σ =
call (10 : Nat) [AV.ptr y3, AV.agg [AV.int IntKind.i64 (0 : Int), AV.int IntKind.i64 (0 : Int), AV.int IntKind.i64 (0 : Int), AV.str y7]] σ
  fun v0 v1 =>
  Option.bind (AV.toInt IntKind.i64 v0) fun v2 =>
    J Ex.normal (f3e18 y0 y1 y2 y3 y4 y5 y6 y7 y8 y9 y10 y11 y12 y3 y7 (0 : Int) (0 : Int) (0 : Int) y7 v2 (v2 == (0 : Int))) v1 := hide (by kernel_rfl)
theorem f3z31_f3e18 (y0 : Option (Nat × Nat)) (y1 : Nat) (y2 : Option Nat) (y3 : Option (Nat × Nat)) (y4 : Option (Nat × Nat)) (y5 : Nat) (y6 : Option Nat) (y7 : ByteArray) (y8 : Option (Nat × Nat)) (y9 : Nat) (y10 : Option Nat) (y11 : Int) (y12 : Int) (y13 : Option (Nat × Nat)) (y14 : ByteArray) (y15 : Int) (y16 : Int) (y17 : Int) (y18 : ByteArray) (y19 : Int) (y20 : Bool) : Ann.clr f3a31 (f3e18 y0 y1 y2 y3 y4 y5 y6 y7 y8 y9 y10 y11 y12 y13 y14 y15 y16 y17 y18 y19 y20) = f3e19 y0 y1 y2 y3 y4 y5 y6 y7 y8 y9 y10 y11 y12 y20 := hide (by kernel_rfl)
theorem f3x33_f3e19 {R : Type} (call : CallF R) (N : Nat) (y0 : Option (Nat × Nat)) (y1 : Nat) (y2 : Option Nat) (y3 : Option (Nat × Nat)) (y4 : Option (Nat × Nat)) (y5 : Nat) (y6 : Option Nat) (y7 : ByteArray) (y8 : Option (Nat × Nat)) (y9 : Nat) (y10 : Option Nat) (y11 : Int) (y12 : Int) (y13 : Bool) (J : KF R) (σ : St) : runK Try.prog call N f3c33 f3a33 J (f3e19 y0 y1 y2 y3 y4 y5 y6 y7 y8 y9 y10 y11 y12 y13) σ = if y13 = true then runK Try.prog call N f3c34 f3a34 (condC f3a33 J) (f3e19 y0 y1 y2 y3 y4 y5 y6 y7 y8 y9 y10 y11 y12 y13) σ else runK Try.prog call N f3c35 f3a35 (condC f3a33 J) (f3e19 y0 y1 y2 y3 y4 y5 y6 y7 y8 y9 y10 y11 y12 y13) σ := runK_cond' (o := Operand.tmp (48 : Nat)) (by kernel_rfl) (by kernel_rfl) (by kernel_rfl) (by kernel_rfl)
theorem f3r34_f3e19 {R : Type} (call : CallF R) (N : Nat) (y0 : Option (Nat × Nat)) (y1 : Nat) (y2 : Option Nat) (y3 : Option (Nat × Nat)) (y4 : Option (Nat × Nat)) (y5 : Nat) (y6 : Option Nat) (y7 : ByteArray) (y8 : Option (Nat × Nat)) (y9 : Nat) (y10 : Option Nat) (y11 : Int) (y12 : Int) (y13 : Bool) (J : KF R) (σ : St) :
    runK Try.prog call N f3c34 f3a34 J (f3e19 y0 y1 y2 y3 y4 y5 y6 y7 y8 y9 y10 y11 y12 y13) σ =
Option.bind (St.elems (St.new σ (Blk.cells [AV.str y7] true)) (1 : Nat) (Sl.mk (some (St.next σ, (0 : Nat))) (1 : Nat) (some (1 : Nat))) (1 : Nat))
  fun v0 =>
  Option.bind (St.app (St.new σ (Blk.cells [AV.str y7] true)) (1 : Nat) (16 : Nat) (Sl.mk y4 y5 y6) (1 : Nat) v0) fun v1 =>
    J Ex.normal
      (f3e20 y0 y1 y2 y3 (Sl.o (Prod.fst v1)) (Sl.len (Prod.fst v1)) (Sl.cap (Prod.fst v1)) y7 y8 y9 y10 y11 y12 y13 y4 y5 y6 y7
        (some (St.next σ, (0 : Nat))) (1 : Nat) (some (1 : Nat)) (Sl.o (Prod.fst v1)) (Sl.len (Prod.fst v1)) (Sl.cap (Prod.fst v1)))
      (Prod.snd v1) := hide (by kernel_rfl)
theorem f3z33_f3e20 (y0 : Option (Nat × Nat)) (y1 : Nat) (y2 : Option Nat) (y3 : Option (Nat × Nat)) (y4 : Option (Nat × Nat)) (y5 : Nat) (y6 : Option Nat) (y7 : ByteArray) (y8 : Option (Nat × Nat)) (y9 : Nat) (y10 : Option Nat) (y11 : Int) (y12 : Int) (y13 : Bool) (y14 : Option (Nat × Nat)) (y15 : Nat) (y16 : Option Nat) (y17 : ByteArray) (y18 : Option (Nat × Nat)) (y19 : Nat) (y20 : Option Nat) (y21 : Option (Nat × Nat)) (y22 : Nat) (y23 : Option Nat) : Ann.clr f3a33 (f3e20 y0 y1 y2 y3 y4 y5 y6 y7 y8 y9 y10 y11 y12 y13 y14 y15 y16 y17 y18 y19 y20 y21 y22 y23) = f3e13 y0 y1 y2 y3 y4 y5 y6 y8 y9 y10 y11 y12 := hide (by kernel_rfl)
theorem f3n35 {R : Type} (call : CallF R) (N : Nat) (J : KF R) (e : Env) (σ : St) : runK Try.prog call N f3c35 f3a35 J e σ = J .normal e σ := runK_skip' (by kernel_rfl)
theorem f3z33_f3e19 (y0 : Option (Nat × Nat)) (y1 : Nat) (y2 : Option Nat) (y3 : Option (Nat × Nat)) (y4 : Option (Nat × Nat)) (y5 : Nat) (y6 : Option Nat) (y7 : ByteArray) (y8 : Option (Nat × Nat)) (y9 : Nat) (y10 : Option Nat) (y11 : Int) (y12 : Int) (y13 : Bool) : Ann.clr f3a33 (f3e19 y0 y1 y2 y3 y4 y5 y6 y7 y8 y9 y10 y11 y12 y13) = f3e13 y0 y1 y2 y3 y4 y5 y6 y8 y9 y10 y11 y12 := hide (by kernel_rfl)
theorem f3z27_f3e13 (y0 : Option (Nat × Nat)) (y1 : Nat) (y2 : Option Nat) (y3 : Option (Nat × Nat)) (y4 : Option (Nat × Nat)) (y5 : Nat) (y6 : Option Nat) (y7 : Option (Nat × Nat)) (y8 : Nat) (y9 : Option Nat) (y10 : Int) (y11 : Int) : Ann.clr f3a27 (f3e13 y0 y1 y2 y3 y4 y5 y6 y7 y8 y9 y10 y11) = f3e13 y0 y1 y2 y3 y4 y5 y6 y7 y8 y9 y10 y11 := hide (by kernel_rfl)
theorem f3z24_f3e13 (y0 : Option (Nat × Nat)) (y1 : Nat) (y2 : Option Nat) (y3 : Option (Nat × Nat)) (y4 : Option (Nat × Nat)) (y5 : Nat) (y6 : Option Nat) (y7 : Option (Nat × Nat)) (y8 : Nat) (y9 : Option Nat) (y10 : Int) (y11 : Int) : Ann.clr f3a24 (f3e13 y0 y1 y2 y3 y4 y5 y6 y7 y8 y9 y10 y11) = f3e13 y0 y1 y2 y3 y4 y5 y6 y7 y8 y9 y10 y11 := hide (by kernel_rfl)
theorem f3r28_f3e13 {R : Type} (call : CallF R) (N : Nat) (y0 : Option (Nat × Nat)) (y1 : Nat) (y2 : Option Nat) (y3 : Option (Nat × Nat)) (y4 : Option (Nat × Nat)) (y5 : Nat) (y6 : Option Nat) (y7 : Option (Nat × Nat)) (y8 : Nat) (y9 : Option Nat) (y10 : Int) (y11 : Int) (J : KF R) (σ : St) :
    runK Try.prog call N f3c28 f3a28 J (f3e13 y0 y1 y2 y3 y4 y5 y6 y7 y8 y9 y10 y11) σ =
J Ex.normal (f3e21 y0 y1 y2 y3 y4 y5 y6 y7 y8 y9 y10 (IntKind.wrap IntKind.i64 (y11 + (1 : Int))) (IntKind.wrap IntKind.i64 (y11 + (1 : Int)))) σ := hide (by kernel_rfl)
theorem f3z19_f3e21 (y0 : Option (Nat × Nat)) (y1 : Nat) (y2 : Option Nat) (y3 : Option (Nat × Nat)) (y4 : Option (Nat × Nat)) (y5 : Nat) (y6 : Option Nat) (y7 : Option (Nat × Nat)) (y8 : Nat) (y9 : Option Nat) (y10 : Int) (y11 : Int) (y12 : Int) : Ann.clr f3a19 (f3e21 y0 y1 y2 y3 y4 y5 y6 y7 y8 y9 y10 y11 y12) = f3e13 y0 y1 y2 y3 y4 y5 y6 y7 y8 y9 y10 y11 := hide (by kernel_rfl)
theorem f3z18_f3e15 (y0 : Option (Nat × Nat)) (y1 : Nat) (y2 : Option Nat) (y3 : Option (Nat × Nat)) (y4 : Option (Nat × Nat)) (y5 : Nat) (y6 : Option Nat) : Ann.clr f3a18 (f3e15 y0 y1 y2 y3 y4 y5 y6) = f3e15 y0 y1 y2 y3 y4 y5 y6 := hide (by kernel_rfl)
theorem f3z14_f3e15 (y0 : Option (Nat × Nat)) (y1 : Nat) (y2 : Option Nat) (y3 : Option (Nat × Nat)) (y4 : Option (Nat × Nat)) (y5 : Nat) (y6 : Option Nat) : Ann.clr f3a14 (f3e15 y0 y1 y2 y3 y4 y5 y6) = f3e15 y0 y1 y2 y3 y4 y5 y6 := hide (by kernel_rfl)
theorem f3n16 {R : Type} (call : CallF R) (N : Nat) (J : KF R) (e : Env) (σ : St) : runK Try.prog call N f3c16 f3a16 J e σ = runK Try.prog call N f3c36 f3a36 (seqC (fun K e σ => runK Try.prog call N f3c37 f3a37 K e σ) f3a16 J) e σ := runK_seq' (by kernel_rfl) (by kernel_rfl) (by kernel_rfl)
theorem f3n36 {R : Type} (call : CallF R) (N : Nat) (J : KF R) (e : Env) (σ : St) : runK Try.prog call N f3c36 f3a36 J e σ = runK Try.prog call N f3c38 f3a38 (seqC (fun K e σ => runK Try.prog call N f3c39 f3a39 K e σ) f3a36 J) e σ := runK_seq' (by kernel_rfl) (by kernel_rfl) (by kernel_rfl)
theorem f3r38_f3e15 {R : Type} (call : CallF R) (N : Nat) (y0 : Option (Nat × Nat)) (y1 : Nat) (y2 : Option Nat) (y3 : Option (Nat × Nat)) (y4 : Option (Nat × Nat)) (y5 : Nat) (y6 : Option Nat) (J : KF R) (σ : St) :
    runK Try.prog call N f3c38 f3a38 J (f3e15 y0 y1 y2 y3 y4 y5 y6) σ =
J Ex.normal (f3e22 y0 y1 y2 y3 y4 y5 y6 y0 y1 y2 (↑y1 : Int) (0 : Int)) σ := hide (by kernel_rfl)
theorem f3z36_f3e22 (y0 : Option (Nat × Nat)) (y1 : Nat) (y2 : Option Nat) (y3 : Option (Nat × Nat)) (y4 : Option (Nat × Nat)) (y5 : Nat) (y6 : Option Nat) (y7 : Option (Nat × Nat)) (y8 : Nat) (y9 : Option Nat) (y10 : Int) (y11 : Int) : Ann.clr f3a36 (f3e22 y0 y1 y2 y3 y4 y5 y6 y7 y8 y9 y10 y11) = f3e23 y3 y4 y5 y6 y7 y8 y9 y10 y11 := hide (by kernel_rfl)
theorem f3n39 {R : Type} (call : CallF R) (N : Nat) (J : KF R) (e : Env) (σ : St) : runK Try.prog call N f3c39 f3a39 J e σ = runK Try.prog call N f3c40 f3a40 (blockC 2 f3a39 J) e σ := runK_block' (by kernel_rfl) (by kernel_rfl)
theorem f3L40_eq {R : Type} (call : CallF R) (N : Nat) (J : KF R) (e : Env) (σ : St) : f3L40 call N J e σ = runK Try.prog call N f3c41 f3a41 J e σ := hide rfl
theorem f3z40_f3e23 (y0 : Option (Nat × Nat)) (y1 : Option (Nat × Nat)) (y2 : Nat) (y3 : Option Nat) (y4 : Option (Nat × Nat)) (y5 : Nat) (y6 : Option Nat) (y7 : Int) (y8 : Int) : Ann.clr f3a40 (f3e23 y0 y1 y2 y3 y4 y5 y6 y7 y8) = f3e23 y0 y1 y2 y3 y4 y5 y6 y7 y8 := hide (by kernel_rfl)
theorem f3l40_f3e23 {R : Type} (call : CallF R) (N : Nat) (y0 : Option (Nat × Nat)) (y1 : Option (Nat × Nat)) (y2 : Nat) (y3 : Option Nat) (y4 : Option (Nat × Nat)) (y5 : Nat) (y6 : Option Nat) (y7 : Int) (y8 : Int) (J : KF R) (σ : St) : runK Try.prog call N f3c40 f3a40 J (f3e23 y0 y1 y2 y3 y4 y5 y6 y7 y8) σ = loopK (f3L40 call N) f3a40 N J (f3e23 y0 y1 y2 y3 y4 y5 y6 y7 y8) σ := runK_loop' (by kernel_rfl) (by kernel_rfl) (by kernel_rfl)
theorem f3n41 {R : Type} (call : CallF R) (N : Nat) (J : KF R) (e : Env) (σ : St) : runK Try.prog call N f3c41 f3a41 J e σ = runK Try.prog call N f3c42 f3a42 (seqC (fun K e σ => runK Try.prog call N f3c43 f3a43 K e σ) f3a41 J) e σ := runK_seq' (by kernel_rfl) (by kernel_rfl) (by kernel_rfl)
theorem f3r42_f3e23 {R : Type} (call : CallF R) (N : Nat) (y0 : Option (Nat × Nat)) (y1 : Option (Nat × Nat)) (y2 : Nat) (y3 : Option Nat) (y4 : Option (Nat × Nat)) (y5 : Nat) (y6 : Option Nat) (y7 : Int) (y8 : Int) (J : KF R) (σ : St) :
    runK Try.prog call N f3c42 f3a42 J (f3e23 y0 y1 y2 y3 y4 y5 y6 y7 y8) σ =
J Ex.normal (f3e24 y0 y1 y2 y3 y4 y5 y6 y7 y8 (decide (y8 < y7))) σ := hide (by kernel_rfl)
theorem f3z41_f3e24 (y0 : Option (Nat × Nat)) (y1 : Option (Nat × Nat)) (y2 : Nat) (y3 : Option Nat) (y4 : Option (Nat × Nat)) (y5 : Nat) (y6 : Option Nat) (y7 : Int) (y8 : Int) (y9 : Bool) : Ann.clr f3a41 (f3e24 y0 y1 y2 y3 y4 y5 y6 y7 y8 y9) = f3e24 y0 y1 y2 y3 y4 y5 y6 y7 y8 y9 := hide (by kernel_rfl)
theorem f3n43 {R : Type} (call : CallF R) (N : Nat) (J : KF R) (e : Env) (σ : St) : runK Try.prog call N f3c43 f3a43 J e σ = runK Try.prog call N f3c44 f3a44 (seqC (fun K e σ => runK Try.prog call N f3c45 f3a45 K e σ) f3a43 J) e σ := runK_seq' (by kernel_rfl) (by kernel_rfl) (by kernel_rfl)
theorem f3x44_f3e24 {R : Type} (call : CallF R) (N : Nat) (y0 : Option (Nat × Nat)) (y1 : Option (Nat × Nat)) (y2 : Nat) (y3 : Option Nat) (y4 : Option (Nat × Nat)) (y5 : Nat) (y6 : Option Nat) (y7 : Int) (y8 : Int) (y9 : Bool) (J : KF R) (σ : St) : runK Try.prog call N f3c44 f3a44 J (f3e24 y0 y1 y2 y3 y4 y5 y6 y7 y8 y9) σ = if y9 = true then runK Try.prog call N f3c46 f3a46 (condC f3a44 J) (f3e24 y0 y1 y2 y3 y4 y5 y6 y7 y8 y9) σ else runK Try.prog call N f3c47 f3a47 (condC f3a44 J) (f3e24 y0 y1 y2 y3 y4 y5 y6 y7 y8 y9) σ := runK_cond' (o := Operand.tmp (57 : Nat)) (by kernel_rfl) (by kernel_rfl) (by kernel_rfl) (by kernel_rfl)
theorem f3n46 {R : Type} (call : CallF R) (N : Nat) (J : KF R) (e : Env) (σ : St) : runK Try.prog call N f3c46 f3a46 J e σ = J .normal e σ := runK_skip' (by kernel_rfl)
theorem f3z44_f3e24 (y0 : Option (Nat × Nat)) (y1 : Option (Nat × Nat)) (y2 : Nat) (y3 : Option Nat) (y4 : Option (Nat × Nat)) (y5 : Nat) (y6 : Option Nat) (y7 : Int) (y8 : Int) (y9 : Bool) : Ann.clr f3a44 (f3e24 y0 y1 y2 y3 y4 y5 y6 y7 y8 y9) = f3e23 y0 y1 y2 y3 y4 y5 y6 y7 y8 := hide (by kernel_rfl)
theorem f3y47_f3e24 {R : Type} (call : CallF R) (N : Nat) (y0 : Option (Nat × Nat)) (y1 : Option (Nat × Nat)) (y2 : Nat) (y3 : Option Nat) (y4 : Option (Nat × Nat)) (y5 : Nat) (y6 : Option Nat) (y7 : Int) (y8 : Int) (y9 : Bool) (J : KF R) (σ : St) : runK Try.prog call N f3c47 f3a47 J (f3e24 y0 y1 y2 y3 y4 y5 y6 y7 y8 y9) σ = J (.exit 2) (f3e25 y0 y1 y2 y3) σ := runK_exit' (by kernel_rfl) (by kernel_rfl)
theorem f3z43_f3e23 (y0 : Option (Nat × Nat)) (y1 : Option (Nat × Nat)) (y2 : Nat) (y3 : Option Nat) (y4 : Option (Nat × Nat)) (y5 : Nat) (y6 : Option Nat) (y7 : Int) (y8 : Int) : Ann.clr f3a43 (f3e23 y0 y1 y2 y3 y4 y5 y6 y7 y8) = f3e23 y0 y1 y2 y3 y4 y5 y6 y7 y8 := hide (by kernel_rfl)
theorem f3n45 {R : Type} (call : CallF R) (N : Nat) (J : KF R) (e : Env) (σ : St) : runK Try.prog call N f3c45 f3a45 J e σ = runK Try.prog call N f3c48 f3a48 (seqC (fun K e σ => runK Try.prog call N f3c49 f3a49 K e σ) f3a45 J) e σ := runK_seq' (by kernel_rfl) (by kernel_rfl) (by kernel_rfl)
theorem f3n48 {R : Type} (call : CallF R) (N : Nat) (J : KF R) (e : Env) (σ : St) : runK Try.prog call N f3c48 f3a48 J e σ = runK Try.prog call N f3c50 f3a50 (blockC 3 f3a48 J) e σ := runK_block' (by kernel_rfl) (by kernel_rfl)
theorem f3n50 {R : Type} (call : CallF R) (N : Nat) (J : KF R) (e : Env) (σ : St) : runK Try.prog call N f3c50 f3a50 J e σ = runK Try.prog call N f3c51 f3a51 (seqC (fun K e σ => runK Try.prog call N f3c52 f3a52 K e σ) f3a50 J) e σ := runK_seq' (by kernel_rfl) (by kernel_rfl) (by kernel_rfl)
theorem f3r51_f3e23 {R : Type} (call : CallF R) (N : Nat) (y0 : Option (Nat × Nat)) (y1 : Option (Nat × Nat)) (y2 : Nat) (y3 : Option Nat) (y4 : Option (Nat × Nat)) (y5 : Nat) (y6 : Option Nat) (y7 : Int) (y8 : Int) (J : KF R) (σ : St) :
    runK Try.prog call N f3c51 f3a51 J (f3e23 y0 y1 y2 y3 y4 y5 y6 y7 y8) σ =
if (0 : Int) ≤ y8 ∧ y8 < (↑y5 : Int) then
  Option.bind y4 fun v0 =>
    Option.bind (St.ld σ (Prod.fst v0) (Prod.snd v0 + Int.toNat y8 * (1 : Nat))) fun v1 =>
      Option.bind (AV.toInt IntKind.i64 v1) fun v2 =>
        J Ex.normal (f3e26 y0 y1 y2 y3 v2 y4 y5 y6 y7 y8 (some (Prod.fst v0, Prod.snd v0 + Int.toNat y8 * (1 : Nat))) v2) σ
else none := hide (by kernel_rfl)
theorem f3z50_f3e26 (y0 : Option (Nat × Nat)) (y1 : Option (Nat × Nat)) (y2 : Nat) (y3 : Option Nat) (y4 : Int) (y5 : Option (Nat × Nat)) (y6 : Nat) (y7 : Option Nat) (y8 : Int) (y9 : Int) (y10 : Option (Nat × Nat)) (y11 : Int) : Ann.clr f3a50 (f3e26 y0 y1 y2 y3 y4 y5 y6 y7 y8 y9 y10 y11) = f3e27 y0 y1 y2 y3 y4 y5 y6 y7 y8 y9 := hide (by kernel_rfl)
theorem f3n52 {R : Type} (call : CallF R) (N : Nat) (J : KF R) (e : Env) (σ : St) : runK Try.prog call N f3c52 f3a52 J e σ = runK Try.prog call N f3c53 f3a53 (seqC (fun K e σ => runK Try.prog call N f3c54 f3a54 K e σ) f3a52 J) e σ := runK_seq' (by kernel_rfl) (by kernel_rfl) (by kernel_rfl)
theorem f3r53_f3e27 {R : Type} (call : CallF R) (N : Nat) (y0 : Option (Nat × Nat)) (y1 : Option (Nat × Nat)) (y2 : Nat) (y3 : Option Nat) (y4 : Int) (y5 : Option (Nat × Nat)) (y6 : Nat) (y7 : Option Nat) (y8 : Int) (y9 : Int) (J : KF R) (σ : St) :
    runK Try.prog call N f3c53 f3a53 J (f3e27 y0 y1 y2 y3 y4 y5 y6 y7 y8 y9) σ =
call (11 : Nat) [AV.ptr y0, AV.int IntKind.i64 y4] σ fun v0 v1 =>
  Option.bind (AV.toTuple v0) fun v2 =>
    if List.length v2 = (2 : Nat) then
      Option.bind (List.head? v2) fun v3 =>
        Option.bind (AV.toAgg v3) fun v4 =>
          if List.length v4 = (4 : Nat) then
            Option.bind (List.head? v4) fun v5 =>
              Option.bind (AV.toInt IntKind.i64 v5) fun v6 =>
                Option.bind (List.head? (List.tail v4)) fun v7 =>
                  Option.bind (AV.toInt IntKind.i64 v7) fun v8 =>
                    Option.bind (List.head? (List.tail (List.tail v4))) fun v9 =>
                      Option.bind (AV.toInt IntKind.i64 v9) fun v10 =>
                        Option.bind (List.head? (List.tail (List.tail (List.tail v4)))) fun v11 =>
                          Option.bind (AV.toStr v11) fun v12 =>
                            Option.bind (List.head? (List.tail v2)) fun v13 =>
                              Option.bind (AV.toInt IntKind.i64 v13) fun v14 =>
                                Option.bind
                                  (St.st
                                    (St.new v1
                                      (Blk.cells
                                        [AV.int IntKind.i64 (0 : Int), AV.int IntKind.i64 (0 : Int), AV.int IntKind.i64 (0 : Int),
                                          AV.str (ByteArray.mk #[])]
                                        true))
                                    (St.next v1) (0 : Nat) [AV.int IntKind.i64 v6, AV.int IntKind.i64 v8, AV.int IntKind.i64 v10, AV.str v12])
                                  fun v15 =>
                                  J Ex.normal
                                    (f3e28 y0 y1 y2 y3 y4 (St.next v1) v14 y5 y6 y7 y8 y9 v6 v8 v10 v12 v14 y0 y4 v6 v8 v10 v12 v14 v6 v8 v10 v12 v14)
                                    v15
          else none
    else none := hide (by kernel_rfl)
theorem f3z52_f3e28 (y0 : Option (Nat × Nat)) (y1 : Option (Nat × Nat)) (y2 : Nat) (y3 : Option Nat) (y4 : Int) (y5 : Nat) (y6 : Int) (y7 : Option (Nat × Nat)) (y8 : Nat) (y9 : Option Nat) (y10 : Int) (y11 : Int) (y12 : Int) (y13 : Int) (y14 : Int) (y15 : ByteArray) (y16 : Int) (y17 : Option (Nat × Nat)) (y18 : Int) (y19 : Int) (y20 : Int) (y21 : Int) (y22 : ByteArray) (y23 : Int) (y24 : Int) (y25 : Int) (y26 : Int) (y27 : ByteArray) (y28 : Int) : Ann.clr f3a52 (f3e28 y0 y1 y2 y3 y4 y5 y6 y7 y8 y9 y10 y11 y12 y13 y14 y15 y16 y17 y18 y19 y20 y21 y22 y23 y24 y25 y26 y27 y28) = f3e29 y0 y1 y2 y3 y4 y5 y6 y7 y8 y9 y10 y11 := hide (by kernel_rfl)
theorem f3n54 {R : Type} (call : CallF R) (N : Nat) (J : KF R) (e : Env) (σ : St) : runK Try.prog call N f3c54 f3a54 J e σ = runK Try.prog call N f3c55 f3a55 (seqC (fun K e σ => runK Try.prog call N f3c56 f3a56 K e σ) f3a54 J) e σ := runK_seq' (by kernel_rfl) (by kernel_rfl) (by kernel_rfl)
theorem f3n55 {R : Type} (call : CallF R) (N : Nat) (J : KF R) (e : Env) (σ : St) : runK Try.prog call N f3c55 f3a55 J e σ = runK Try.prog call N f3c57 f3a57 (seqC (fun K e σ => runK Try.prog call N f3c58 f3a58 K e σ) f3a55 J) e σ := runK_seq' (by kernel_rfl) (by kernel_rfl) (by kernel_rfl)
theorem f3r57_f3e29 {R : Type} (call : CallF R) (N : Nat) (y0 : Option (Nat × Nat)) (y1 : Option (Nat × Nat)) (y2 : Nat) (y3 : Option Nat) (y4 : Int) (y5 : Nat) (y6 : Int) (y7 : Option (Nat × Nat)) (y8 : Nat) (y9 : Option Nat) (y10 : Int) (y11 : Int) (J : KF R) (σ : St) :
    runK Try.prog call N f3c57 f3a57 J (f3e29 y0 y1 y2 y3 y4 y5 y6 y7 y8 y9 y10 y11) σ =
if decide (y4 ≥ (0 : Int)) = true then
  J Ex.normal
    (f3e30 y0 y1 y2 y3 y4 y5 y6 y7 y8 y9 y10 y11 y6 (y6 == (0 : Int)) y4 (decide (y4 ≥ (0 : Int))) true y4 y1 y2 y3 (↑y2 : Int)
      (decide (y4 < (↑y2 : Int))) (decide (y4 < (↑y2 : Int))) !(y6 == (0 : Int)) == decide (y4 < (↑y2 : Int)))
    σ
else
  J Ex.normal (f3e31 y0 y1 y2 y3 y4 y5 y6 y7 y8 y9 y10 y11 y6 (y6 == (0 : Int)) y4 (decide (y4 ≥ (0 : Int))) false false !(y6 == (0 : Int)) == false)
    σ := hide (by kernel_rfl)
theorem f3z55_f3e30 (y0 : Option (Nat × Nat)) (y1 : Option (Nat × Nat)) (y2 : Nat) (y3 : Option Nat) (y4 : Int) (y5 : Nat) (y6 : Int) (y7 : Option (Nat × Nat)) (y8 : Nat) (y9 : Option Nat) (y10 : Int) (y11 : Int) (y12 : Int) (y13 : Bool) (y14 : Int) (y15 : Bool) (y16 : Bool) (y17 : Int) (y18 : Option (Nat × Nat)) (y19 : Nat) (y20 : Option Nat) (y21 : Int) (y22 : Bool) (y23 : Bool) (y24 : Bool) : Ann.clr f3a55 (f3e30 y0 y1 y2 y3 y4 y5 y6 y7 y8 y9 y10 y11 y12 y13 y14 y15 y16 y17 y18 y19 y20 y21 y22 y23 y24) = f3e32 y0 y1 y2 y3 y4 y5 y6 y7 y8 y9 y10 y11 y24 := hide (by kernel_rfl)
theorem f3x58_f3e32 {R : Type} (call : CallF R) (N : Nat) (y0 : Option (Nat × Nat)) (y1 : Option (Nat × Nat)) (y2 : Nat) (y3 : Option Nat) (y4 : Int) (y5 : Nat) (y6 : Int) (y7 : Option (Nat × Nat)) (y8 : Nat) (y9 : Option Nat) (y10 : Int) (y11 : Int) (y12 : Bool) (J : KF R) (σ : St) : runK Try.prog call N f3c58 f3a58 J (f3e32 y0 y1 y2 y3 y4 y5 y6 y7 y8 y9 y10 y11 y12) σ = if y12 = true then runK Try.prog call N f3c59 f3a59 (condC f3a58 J) (f3e32 y0 y1 y2 y3 y4 y5 y6 y7 y8 y9 y10 y11 y12) σ else runK Try.prog call N f3c60 f3a60 (condC f3a58 J) (f3e32 y0 y1 y2 y3 y4 y5 y6 y7 y8 y9 y10 y11 y12) σ := runK_cond' (o := Operand.tmp (76 : Nat)) (by kernel_rfl) (by kernel_rfl) (by kernel_rfl) (by kernel_rfl)
theorem f3n59 {R : Type} (call : CallF R) (N : Nat) (J : KF R) (e : Env) (σ : St) : runK Try.prog call N f3c59 f3a59 J e σ = runK Try.prog call N f3c61 f3a61 (seqC (fun K e σ => runK Try.prog call N f3c62 f3a62 K e σ) f3a59 J) e σ := runK_seq' (by kernel_rfl) (by kernel_rfl) (by kernel_rfl)
theorem f3r61_f3e32 {R : Type} (call : CallF R) (N : Nat) (y0 : Option (Nat × Nat)) (y1 : Option (Nat × Nat)) (y2 : Nat) (y3 : Option Nat) (y4 : Int) (y5 : Nat) (y6 : Int) (y7 : Option (Nat × Nat)) (y8 : Nat) (y9 : Option Nat) (y10 : Int) (y11 : Int) (y12 : Bool) (J : KF R) (σ : St) :
    runK Try.prog call N f3c61 f3a61 J (f3e32 y0 y1 y2 y3 y4 y5 y6 y7 y8 y9 y10 y11 y12) σ =
J Ex.normal (f3e33 false y0 y1 y2 y3 y4 y5 y6 y7 y8 y9 y10 y11 y12) σ := hide (by kernel_rfl)
theorem f3z59_f3e33 (y0 : Bool) (y1 : Option (Nat × Nat)) (y2 : Option (Nat × Nat)) (y3 : Nat) (y4 : Option Nat) (y5 : Int) (y6 : Nat) (y7 : Int) (y8 : Option (Nat × Nat)) (y9 : Nat) (y10 : Option Nat) (y11 : Int) (y12 : Int) (y13 : Bool) : Ann.clr f3a59 (f3e33 y0 y1 y2 y3 y4 y5 y6 y7 y8 y9 y10 y11 y12 y13) = f3e10 y0 := hide (by kernel_rfl)
theorem f3y62_f3e10 {R : Type} (call : CallF R) (N : Nat) (y0 : Bool) (J : KF R) (σ : St) : runK Try.prog call N f3c62 f3a62 J (f3e10 y0) σ = J .ret (f3e10 y0) σ := runK_ret' (by kernel_rfl) (by kernel_rfl)
theorem f3n60 {R : Type} (call : CallF R) (N : Nat) (J : KF R) (e : Env) (σ : St) : runK Try.prog call N f3c60 f3a60 J e σ = J .normal e σ := runK_skip' (by kernel_rfl)
theorem f3z58_f3e32 (y0 : Option (Nat × Nat)) (y1 : Option (Nat × Nat)) (y2 : Nat) (y3 : Option Nat) (y4 : Int) (y5 : Nat) (y6 : Int) (y7 : Option (Nat × Nat)) (y8 : Nat) (y9 : Option Nat) (y10 : Int) (y11 : Int) (y12 : Bool) : Ann.clr f3a58 (f3e32 y0 y1 y2 y3 y4 y5 y6 y7 y8 y9 y10 y11 y12) = f3e29 y0 y1 y2 y3 y4 y5 y6 y7 y8 y9 y10 y11 := hide (by kernel_rfl)
theorem f3z55_f3e31 (y0 : Option (Nat × Nat)) (y1 : Option (Nat × Nat)) (y2 : Nat) (y3 : Option Nat) (y4 : Int) (y5 : Nat) (y6 : Int) (y7 : Option (Nat × Nat)) (y8 : Nat) (y9 : Option Nat) (y10 : Int) (y11 : Int) (y12 : Int) (y13 : Bool) (y14 : Int) (y15 : Bool) (y16 : Bool) (y17 : Bool) (y18 : Bool) : Ann.clr f3a55 (f3e31 y0 y1 y2 y3 y4 y5 y6 y7 y8 y9 y10 y11 y12 y13 y14 y15 y16 y17 y18) = f3e32 y0 y1 y2 y3 y4 y5 y6 y7 y8 y9 y10 y11 y18 := hide (by kernel_rfl)
theorem f3z54_f3e29 (y0 : Option (Nat × Nat)) (y1 : Option (Nat × Nat)) (y2 : Nat) (y3 : Option Nat) (y4 : Int) (y5 : Nat) (y6 : Int) (y7 : Option (Nat × Nat)) (y8 : Nat) (y9 : Option Nat) (y10 : Int) (y11 : Int) : Ann.clr f3a54 (f3e29 y0 y1 y2 y3 y4 y5 y6 y7 y8 y9 y10 y11) = f3e29 y0 y1 y2 y3 y4 y5 y6 y7 y8 y9 y10 y11 := hide (by kernel_rfl)
theorem f3n56 {R : Type} (call : CallF R) (N : Nat) (J : KF R) (e : Env) (σ : St) : runK Try.prog call N f3c56 f3a56 J e σ = runK Try.prog call N f3c63 f3a63 (seqC (fun K e σ => runK Try.prog call N f3c64 f3a64 K e σ) f3a56 J) e σ := runK_seq' (by kernel_rfl) (by kernel_rfl) (by kernel_rfl)
theorem f3n63 {R : Type} (call : CallF R) (N : Nat) (J : KF R) (e : Env) (σ : St) : runK Try.prog call N f3c63 f3a63 J e σ = runK Try.prog call N f3c65 f3a65 (seqC (fun K e σ => runK Try.prog call N f3c66 f3a66 K e σ) f3a63 J) e σ := runK_seq' (by kernel_rfl) (by kernel_rfl) (by kernel_rfl)
theorem f3r65_f3e29 {R : Type} (call : CallF R) (N : Nat) (y0 : Option (Nat × Nat)) (y1 : Option (Nat × Nat)) (y2 : Nat) (y3 : Option Nat) (y4 : Int) (y5 : Nat) (y6 : Int) (y7 : Option (Nat × Nat)) (y8 : Nat) (y9 : Option Nat) (y10 : Int) (y11 : Int) (J : KF R) (σ : St) :
    runK Try.prog call N f3c65 f3a65 J (f3e29 y0 y1 y2 y3 y4 y5 y6 y7 y8 y9 y10 y11) σ =
J Ex.normal (f3e34 y0 y1 y2 y3 y4 y5 y6 y7 y8 y9 y10 y11 y6 (y6 != (0 : Int))) σ := hide (by kernel_rfl)
theorem f3z63_f3e34 (y0 : Option (Nat × Nat)) (y1 : Option (Nat × Nat)) (y2 : Nat) (y3 : Option Nat) (y4 : Int) (y5 : Nat) (y6 : Int) (y7 : Option (Nat × Nat)) (y8 : Nat) (y9 : Option Nat) (y10 : Int) (y11 : Int) (y12 : Int) (y13 : Bool) : Ann.clr f3a63 (f3e34 y0 y1 y2 y3 y4 y5 y6 y7 y8 y9 y10 y11 y12 y13) = f3e35 y0 y1 y2 y3 y4 y5 y7 y8 y9 y10 y11 y13 := hide (by kernel_rfl)
theorem f3x66_f3e35 {R : Type} (call : CallF R) (N : Nat) (y0 : Option (Nat × Nat)) (y1 : Option (Nat × Nat)) (y2 : Nat) (y3 : Option Nat) (y4 : Int) (y5 : Nat) (y6 : Option (Nat × Nat)) (y7 : Nat) (y8 : Option Nat) (y9 : Int) (y10 : Int) (y11 : Bool) (J : KF R) (σ : St) : runK Try.prog call N f3c66 f3a66 J (f3e35 y0 y1 y2 y3 y4 y5 y6 y7 y8 y9 y10 y11) σ = if y11 = true then runK Try.prog call N f3c67 f3a67 (condC f3a66 J) (f3e35 y0 y1 y2 y3 y4 y5 y6 y7 y8 y9 y10 y11) σ else runK Try.prog call N f3c68 f3a68 (condC f3a66 J) (f3e35 y0 y1 y2 y3 y4 y5 y6 y7 y8 y9 y10 y11) σ := runK_cond' (o := Operand.tmp (78 : Nat)) (by kernel_rfl) (by kernel_rfl) (by kernel_rfl) (by kernel_rfl)
theorem f3y67_f3e35 {R : Type} (call : CallF R) (N : Nat) (y0 : Option (Nat × Nat)) (y1 : Option (Nat × Nat)) (y2 : Nat) (y3 : Option Nat) (y4 : Int) (y5 : Nat) (y6 : Option (Nat × Nat)) (y7 : Nat) (y8 : Option Nat) (y9 : Int) (y10 : Int) (y11 : Bool) (J : KF R) (σ : St) : runK Try.prog call N f3c67 f3a67 J (f3e35 y0 y1 y2 y3 y4 y5 y6 y7 y8 y9 y10 y11) σ = J (.exit 3) (f3e23 y0 y1 y2 y3 y6 y7 y8 y9 y10) σ := runK_exit' (by kernel_rfl) (by kernel_rfl)
theorem f3n68 {R : Type} (call : CallF R) (N : Nat) (J : KF R) (e : Env) (σ : St) : runK Try.prog call N f3c68 f3a68 J e σ = J .normal e σ := runK_skip' (by kernel_rfl)
theorem f3z66_f3e35 (y0 : Option (Nat × Nat)) (y1 : Option (Nat × Nat)) (y2 : Nat) (y3 : Option Nat) (y4 : Int) (y5 : Nat) (y6 : Option (Nat × Nat)) (y7 : Nat) (y8 : Option Nat) (y9 : Int) (y10 : Int) (y11 : Bool) : Ann.clr f3a66 (f3e35 y0 y1 y2 y3 y4 y5 y6 y7 y8 y9 y10 y11) = f3e36 y0 y1 y2 y3 y4 y5 y6 y7 y8 y9 y10 := hide (by kernel_rfl)
theorem f3z56_f3e36 (y0 : Option (Nat × Nat)) (y1 : Option (Nat × Nat)) (y2 : Nat) (y3 : Option Nat) (y4 : Int) (y5 : Nat) (y6 : Option (Nat × Nat)) (y7 : Nat) (y8 : Option Nat) (y9 : Int) (y10 : Int) : Ann.clr f3a56 (f3e36 y0 y1 y2 y3 y4 y5 y6 y7 y8 y9 y10) = f3e36 y0 y1 y2 y3 y4 y5 y6 y7 y8 y9 y10 := hide (by kernel_rfl)
theorem f3n64 {R : Type} (call : CallF R) (N : Nat) (J : KF R) (e : Env) (σ : St) : runK Try.prog call N f3c64 f3a64 J e σ = runK Try.prog call N f3c69 f3a69 (seqC (fun K e σ => runK Try.prog call N f3c70 f3a70 K e σ) f3a64 J) e σ := runK_seq' (by kernel_rfl) (by kernel_rfl) (by kernel_rfl)
theorem f3n69 {R : Type} (call : CallF R) (N : Nat) (J : KF R) (e : Env) (σ : St) : runK Try.prog call N f3c69 f3a69 J e σ = runK Try.prog call N f3c71 f3a71 (seqC (fun K e σ => runK Try.prog call N f3c72 f3a72 K e σ) f3a69 J) e σ := runK_seq' (by kernel_rfl) (by kernel_rfl) (by kernel_rfl)
theorem f3r71_f3e36 {R : Type} (call : CallF R) (N : Nat) (y0 : Option (Nat × Nat)) (y1 : Option (Nat × Nat)) (y2 : Nat) (y3 : Option Nat) (y4 : Int) (y5 : Nat) (y6 : Option (Nat × Nat)) (y7 : Nat) (y8 : Option Nat) (y9 : Int) (y10 : Int) (J : KF R) (σ : St) :
    runK Try.prog call N f3c71 f3a71 J (f3e36 y0 y1 y2 y3 y4 y5 y6 y7 y8 y9 y10) σ =
Option.bind (St.ld σ y5 (3 : Nat)) fun v0 =>
  Option.bind (AV.toStr v0) fun v1 =>
    if (0 : Int) ≤ y4 ∧ y4 < (↑y2 : Int) then
      Option.bind y1 fun v2 =>
        Option.bind (St.ld σ (Prod.fst v2) (Prod.snd v2 + Int.toNat y4 * (1 : Nat))) fun v3 =>
          Option.bind (AV.toStr v3) fun v4 =>
            J Ex.normal
              (f3e37 y0 y1 y2 y3 y4 y5 y6 y7 y8 y9 y10 y5 v1 y1 y2 y3 y4 (some (Prod.fst v2, Prod.snd v2 + Int.toNat y4 * (1 : Nat))) v4
                !decide (v1 = v4))
              σ
    else none := hide (by kernel_rfl)
theorem f3z69_f3e37 (y0 : Option (Nat × Nat)) (y1 : Option (Nat × Nat)) (y2 : Nat) (y3 : Option Nat) (y4 : Int) (y5 : Nat) (y6 : Option (Nat × Nat)) (y7 : Nat) (y8 : Option Nat) (y9 : Int) (y10 : Int) (y11 : Nat) (y12 : ByteArray) (y13 : Option (Nat × Nat)) (y14 : Nat) (y15 : Option Nat) (y16 : Int) (y17 : Option (Nat × Nat)) (y18 : ByteArray) (y19 : Bool) : Ann.clr f3a69 (f3e37 y0 y1 y2 y3 y4 y5 y6 y7 y8 y9 y10 y11 y12 y13 y14 y15 y16 y17 y18 y19) = f3e38 y0 y1 y2 y3 y4 y6 y7 y8 y9 y10 y19 := hide (by kernel_rfl)
theorem f3x72_f3e38 {R : Type} (call : CallF R) (N : Nat) (y0 : Option (Nat × Nat)) (y1 : Option (Nat × Nat)) (y2 : Nat) (y3 : Option Nat) (y4 : Int) (y5 : Option (Nat × Nat)) (y6 : Nat) (y7 : Option Nat) (y8 : Int) (y9 : Int) (y10 : Bool) (J : KF R) (σ : St) : runK Try.prog call N f3c72 f3a72 J (f3e38 y0 y1 y2 y3 y4 y5 y6 y7 y8 y9 y10) σ = if y10 = true then runK Try.prog call N f3c73 f3a73 (condC f3a72 J) (f3e38 y0 y1 y2 y3 y4 y5 y6 y7 y8 y9 y10) σ else runK Try.prog call N f3c74 f3a74 (condC f3a72 J) (f3e38 y0 y1 y2 y3 y4 y5 y6 y7 y8 y9 y10) σ := runK_cond' (o := Operand.tmp (85 : Nat)) (by kernel_rfl) (by kernel_rfl) (by kernel_rfl) (by kernel_rfl)
theorem f3n73 {R : Type} (call : CallF R) (N : Nat) (J : KF R) (e : Env) (σ : St) : runK Try.prog call N f3c73 f3a73 J e σ = runK Try.prog call N f3c75 f3a75 (seqC (fun K e σ => runK Try.prog call N f3c76 f3a76 K e σ) f3a73 J) e σ := runK_seq' (by kernel_rfl) (by kernel_rfl) (by kernel_rfl)
theorem f3r75_f3e38 {R : Type} (call : CallF R) (N : Nat) (y0 : Option (Nat × Nat)) (y1 : Option (Nat × Nat)) (y2 : Nat) (y3 : Option Nat) (y4 : Int) (y5 : Option (Nat × Nat)) (y6 : Nat) (y7 : Option Nat) (y8 : Int) (y9 : Int) (y10 : Bool) (J : KF R) (σ : St) :
    runK Try.prog call N f3c75 f3a75 J (f3e38 y0 y1 y2 y3 y4 y5 y6 y7 y8 y9 y10) σ =
J Ex.normal (f3e39 false y0 y1 y2 y3 y4 y5 y6 y7 y8 y9 y10) σ := hide (by kernel_rfl)
theorem f3z73_f3e39 (y0 : Bool) (y1 : Option (Nat × Nat)) (y2 : Option (Nat × Nat)) (y3 : Nat) (y4 : Option Nat) (y5 : Int) (y6 : Option (Nat × Nat)) (y7 : Nat) (y8 : Option Nat) (y9 : Int) (y10 : Int) (y11 : Bool) : Ann.clr f3a73 (f3e39 y0 y1 y2 y3 y4 y5 y6 y7 y8 y9 y10 y11) = f3e10 y0 := hide (by kernel_rfl)
theorem f3y76_f3e10 {R : Type} (call : CallF R) (N : Nat) (y0 : Bool) (J : KF R) (σ : St) : runK Try.prog call N f3c76 f3a76 J (f3e10 y0) σ = J .ret (f3e10 y0) σ := runK_ret' (by kernel_rfl) (by kernel_rfl)
theorem f3n74 {R : Type} (call : CallF R) (N : Nat) (J : KF R) (e : Env) (σ : St) : runK Try.prog call N f3c74 f3a74 J e σ = J .normal e σ := runK_skip' (by kernel_rfl)
theorem f3z72_f3e38 (y0 : Option (Nat × Nat)) (y1 : Option (Nat × Nat)) (y2 : Nat) (y3 : Option Nat) (y4 : Int) (y5 : Option (Nat × Nat)) (y6 : Nat) (y7 : Option Nat) (y8 : Int) (y9 : Int) (y10 : Bool) : Ann.clr f3a72 (f3e38 y0 y1 y2 y3 y4 y5 y6 y7 y8 y9 y10) = f3e27 y0 y1 y2 y3 y4 y5 y6 y7 y8 y9 := hide (by kernel_rfl)
theorem f3z64_f3e27 (y0 : Option (Nat × Nat)) (y1 : Option (Nat × Nat)) (y2 : Nat) (y3 : Option Nat) (y4 : Int) (y5 : Option (Nat × Nat)) (y6 : Nat) (y7 : Option Nat) (y8 : Int) (y9 : Int) : Ann.clr f3a64 (f3e27 y0 y1 y2 y3 y4 y5 y6 y7 y8 y9) = f3e27 y0 y1 y2 y3 y4 y5 y6 y7 y8 y9 := hide (by kernel_rfl)
theorem f3n70 {R : Type} (call : CallF R) (N : Nat) (J : KF R) (e : Env) (σ : St) : runK Try.prog call N f3c70 f3a70 J e σ = runK Try.prog call N f3c77 f3a77 (seqC (fun K e σ => runK Try.prog call N f3c78 f3a78 K e σ) f3a70 J) e σ := runK_seq' (by kernel_rfl) (by kernel_rfl) (by kernel_rfl)
theorem f3r77_f3e27 {R : Type} (call : CallF R) (N : Nat) (y0 : Option (Nat × Nat)) (y1 : Option (Nat × Nat)) (y2 : Nat) (y3 : Option Nat) (y4 : Int) (y5 : Option (Nat × Nat)) (y6 : Nat) (y7 : Option Nat) (y8 : Int) (y9 : Int) (J : KF R) (σ : St) :
    runK Try.prog call N f3c77 f3a77 J (f3e27 y0 y1 y2 y3 y4 y5 y6 y7 y8 y9) σ =
J Ex.normal (f3e40 y0 y1 y2 y3 y4 none (0 : Nat) (some (0 : Nat)) y5 y6 y7 y8 y9) σ := hide (by kernel_rfl)
theorem f3z70_f3e40 (y0 : Option (Nat × Nat)) (y1 : Option (Nat × Nat)) (y2 : Nat) (y3 : Option Nat) (y4 : Int) (y5 : Option (Nat × Nat)) (y6 : Nat) (y7 : Option Nat) (y8 : Option (Nat × Nat)) (y9 : Nat) (y10 : Option Nat) (y11 : Int) (y12 : Int) : Ann.clr f3a70 (f3e40 y0 y1 y2 y3 y4 y5 y6 y7 y8 y9 y10 y11 y12) = f3e40 y0 y1 y2 y3 y4 y5 y6 y7 y8 y9 y10 y11 y12 := hide (by kernel_rfl)
theorem f3n78 {R : Type} (call : CallF R) (N : Nat) (J : KF R) (e : Env) (σ : St) : runK Try.prog call N f3c78 f3a78 J e σ = runK Try.prog call N f3c79 f3a79 (seqC (fun K e σ => runK Try.prog call N f3c80 f3a80 K e σ) f3a78 J) e σ := runK_seq' (by kernel_rfl) (by kernel_rfl) (by kernel_rfl)
theorem f3n79 {R : Type} (call : CallF R) (N : Nat) (J : KF R) (e : Env) (σ : St) : runK Try.prog call N f3c79 f3a79 J e σ = runK Try.prog call N f3c81 f3a81 (seqC (fun K e σ => runK Try.prog call N f3c82 f3a82 K e σ) f3a79 J) e σ := runK_seq' (by kernel_rfl) (by kernel_rfl) (by kernel_rfl)
theorem f3r81_f3e40 {R : Type} (call : CallF R) (N : Nat) (y0 : Option (Nat × Nat)) (y1 : Option (Nat × Nat)) (y2 : Nat) (y3 : Option Nat) (y4 : Int) (y5 : Option (Nat × Nat)) (y6 : Nat) (y7 : Option Nat) (y8 : Option (Nat × Nat)) (y9 : Nat) (y10 : Option Nat) (y11 : Int) (y12 : Int) (J : KF R) (σ : St) :
    runK Try.prog call N f3c81 f3a81 J (f3e40 y0 y1 y2 y3 y4 y5 y6 y7 y8 y9 y10 y11 y12) σ =
J Ex.normal (f3e41 y0 y1 y2 y3 y4 y5 y6 y7 y8 y9 y10 y11 y12 y1 y2 y3 (↑y2 : Int) (0 : Int)) σ := hide (by kernel_rfl)
theorem f3z79_f3e41 (y0 : Option (Nat × Nat)) (y1 : Option (Nat × Nat)) (y2 : Nat) (y3 : Option Nat) (y4 : Int) (y5 : Option (Nat × Nat)) (y6 : Nat) (y7 : Option Nat) (y8 : Option (Nat × Nat)) (y9 : Nat) (y10 : Option Nat) (y11 : Int) (y12 : Int) (y13 : Option (Nat × Nat)) (y14 : Nat) (y15 : Option Nat) (y16 : Int) (y17 : Int) : Ann.clr f3a79 (f3e41 y0 y1 y2 y3 y4 y5 y6 y7 y8 y9 y10 y11 y12 y13 y14 y15 y16 y17) = f3e42 y0 y4 y5 y6 y7 y8 y9 y10 y11 y12 y13 y14 y15 y16 y17 := hide (by kernel_rfl)
theorem f3n82 {R : Type} (call : CallF R) (N : Nat) (J : KF R) (e : Env) (σ : St) : runK Try.prog call N f3c82 f3a82 J e σ = runK Try.prog call N f3c83 f3a83 (blockC 4 f3a82 J) e σ := runK_block' (by kernel_rfl) (by kernel_rfl)
theorem f3L83_eq {R : Type} (call : CallF R) (N : Nat) (J : KF R) (e : Env) (σ : St) : f3L83 call N J e σ = runK Try.prog call N f3c84 f3a84 J e σ := hide rfl
theorem f3z83_f3e42 (y0 : Option (Nat × Nat)) (y1 : Int) (y2 : Option (Nat × Nat)) (y3 : Nat) (y4 : Option Nat) (y5 : Option (Nat × Nat)) (y6 : Nat) (y7 : Option Nat) (y8 : Int) (y9 : Int) (y10 : Option (Nat × Nat)) (y11 : Nat) (y12 : Option Nat) (y13 : Int) (y14 : Int) : Ann.clr f3a83 (f3e42 y0 y1 y2 y3 y4 y5 y6 y7 y8 y9 y10 y11 y12 y13 y14) = f3e42 y0 y1 y2 y3 y4 y5 y6 y7 y8 y9 y10 y11 y12 y13 y14 := hide (by kernel_rfl)
theorem f3l83_f3e42 {R : Type} (call : CallF R) (N : Nat) (y0 : Option (Nat × Nat)) (y1 : Int) (y2 : Option (Nat × Nat)) (y3 : Nat) (y4 : Option Nat) (y5 : Option (Nat × Nat)) (y6 : Nat) (y7 : Option Nat) (y8 : Int) (y9 : Int) (y10 : Option (Nat × Nat)) (y11 : Nat) (y12 : Option Nat) (y13 : Int) (y14 : Int) (J : KF R) (σ : St) : runK Try.prog call N f3c83 f3a83 J (f3e42 y0 y1 y2 y3 y4 y5 y6 y7 y8 y9 y10 y11 y12 y13 y14) σ = loopK (f3L83 call N) f3a83 N J (f3e42 y0 y1 y2 y3 y4 y5 y6 y7 y8 y9 y10 y11 y12 y13 y14) σ := runK_loop' (by kernel_rfl) (by kernel_rfl) (by kernel_rfl)
theorem f3n84 {R : Type} (call : CallF R) (N : Nat) (J : KF R) (e : Env) (σ : St) : runK Try.prog call N f3c84 f3a84 J e σ = runK Try.prog call N f3c85 f3a85 (seqC (fun K e σ => runK Try.prog call N f3c86 f3a86 K e σ) f3a84 J) e σ := runK_seq' (by kernel_rfl) (by kernel_rfl) (by kernel_rfl)
theorem f3r85_f3e42 {R : Type} (call : CallF R) (N : Nat) (y0 : Option (Nat × Nat)) (y1 : Int) (y2 : Option (Nat × Nat)) (y3 : Nat) (y4 : Option Nat) (y5 : Option (Nat × Nat)) (y6 : Nat) (y7 : Option Nat) (y8 : Int) (y9 : Int) (y10 : Option (Nat × Nat)) (y11 : Nat) (y12 : Option Nat) (y13 : Int) (y14 : Int) (J : KF R) (σ : St) :
    runK Try.prog call N f3c85 f3a85 J (f3e42 y0 y1 y2 y3 y4 y5 y6 y7 y8 y9 y10 y11 y12 y13 y14) σ =
J Ex.normal (f3e43 y0 y1 y2 y3 y4 y5 y6 y7 y8 y9 y10 y11 y12 y13 y14 (decide (y14 < y13))) σ := hide (by kernel_rfl)
theorem f3z84_f3e43 (y0 : Option (Nat × Nat)) (y1 : Int) (y2 : Option (Nat × Nat)) (y3 : Nat) (y4 : Option Nat) (y5 : Option (Nat × Nat)) (y6 : Nat) (y7 : Option Nat) (y8 : Int) (y9 : Int) (y10 : Option (Nat × Nat)) (y11 : Nat) (y12 : Option Nat) (y13 : Int) (y14 : Int) (y15 : Bool) : Ann.clr f3a84 (f3e43 y0 y1 y2 y3 y4 y5 y6 y7 y8 y9 y10 y11 y12 y13 y14 y15) = f3e43 y0 y1 y2 y3 y4 y5 y6 y7 y8 y9 y10 y11 y12 y13 y14 y15 := hide (by kernel_rfl)
theorem f3n86 {R : Type} (call : CallF R) (N : Nat) (J : KF R) (e : Env) (σ : St) : runK Try.prog call N f3c86 f3a86 J e σ = runK Try.prog call N f3c87 f3a87 (seqC (fun K e σ => runK Try.prog call N f3c88 f3a88 K e σ) f3a86 J) e σ := runK_seq' (by kernel_rfl) (by kernel_rfl) (by kernel_rfl)
theorem f3x87_f3e43 {R : Type} (call : CallF R) (N : Nat) (y0 : Option (Nat × Nat)) (y1 : Int) (y2 : Option (Nat × Nat)) (y3 : Nat) (y4 : Option Nat) (y5 : Option (Nat × Nat)) (y6 : Nat) (y7 : Option Nat) (y8 : Int) (y9 : Int) (y10 : Option (Nat × Nat)) (y11 : Nat) (y12 : Option Nat) (y13 : Int) (y14 : Int) (y15 : Bool) (J : KF R) (σ : St) : runK Try.prog call N f3c87 f3a87 J (f3e43 y0 y1 y2 y3 y4 y5 y6 y7 y8 y9 y10 y11 y12 y13 y14 y15) σ = if y15 = true then runK Try.prog call N f3c89 f3a89 (condC f3a87 J) (f3e43 y0 y1 y2 y3 y4 y5 y6 y7 y8 y9 y10 y11 y12 y13 y14 y15) σ else runK Try.prog call N f3c90 f3a90 (condC f3a87 J) (f3e43 y0 y1 y2 y3 y4 y5 y6 y7 y8 y9 y10 y11 y12 y13 y14 y15) σ := runK_cond' (o := Operand.tmp (89 : Nat)) (by kernel_rfl) (by kernel_rfl) (by kernel_rfl) (by kernel_rfl)
theorem f3n89 {R : Type} (call : CallF R) (N : Nat) (J : KF R) (e : Env) (σ : St) : runK Try.prog call N f3c89 f3a89 J e σ = J .normal e σ := runK_skip' (by kernel_rfl)
theorem f3z87_f3e43 (y0 : Option (Nat × Nat)) (y1 : Int) (y2 : Option (Nat × Nat)) (y3 : Nat) (y4 : Option Nat) (y5 : Option (Nat × Nat)) (y6 : Nat) (y7 : Option Nat) (y8 : Int) (y9 : Int) (y10 : Option (Nat × Nat)) (y11 : Nat) (y12 : Option Nat) (y13 : Int) (y14 : Int) (y15 : Bool) : Ann.clr f3a87 (f3e43 y0 y1 y2 y3 y4 y5 y6 y7 y8 y9 y10 y11 y12 y13 y14 y15) = f3e42 y0 y1 y2 y3 y4 y5 y6 y7 y8 y9 y10 y11 y12 y13 y14 := hide (by kernel_rfl)
theorem f3y90_f3e43 {R : Type} (call : CallF R) (N : Nat) (y0 : Option (Nat × Nat)) (y1 : Int) (y2 : Option (Nat × Nat)) (y3 : Nat) (y4 : Option Nat) (y5 : Option (Nat × Nat)) (y6 : Nat) (y7 : Option Nat) (y8 : Int) (y9 : Int) (y10 : Option (Nat × Nat)) (y11 : Nat) (y12 : Option Nat) (y13 : Int) (y14 : Int) (y15 : Bool) (J : KF R) (σ : St) : runK Try.prog call N f3c90 f3a90 J (f3e43 y0 y1 y2 y3 y4 y5 y6 y7 y8 y9 y10 y11 y12 y13 y14 y15) σ = J (.exit 4) (f3e44 y0 y2 y3 y4 y5 y6 y7 y8 y9) σ := runK_exit' (by kernel_rfl) (by kernel_rfl)
theorem f3z86_f3e42 (y0 : Option (Nat × Nat)) (y1 : Int) (y2 : Option (Nat × Nat)) (y3 : Nat) (y4 : Option Nat) (y5 : Option (Nat × Nat)) (y6 : Nat) (y7 : Option Nat) (y8 : Int) (y9 : Int) (y10 : Option (Nat × Nat)) (y11 : Nat) (y12 : Option Nat) (y13 : Int) (y14 : Int) : Ann.clr f3a86 (f3e42 y0 y1 y2 y3 y4 y5 y6 y7 y8 y9 y10 y11 y12 y13 y14) = f3e42 y0 y1 y2 y3 y4 y5 y6 y7 y8 y9 y10 y11 y12 y13 y14 := hide (by kernel_rfl)
theorem f3n88 {R : Type} (call : CallF R) (N : Nat) (J : KF R) (e : Env) (σ : St) : runK Try.prog call N f3c88 f3a88 J e σ = runK Try.prog call N f3c91 f3a91 (seqC (fun K e σ => runK Try.prog call N f3c92 f3a92 K e σ) f3a88 J) e σ := runK_seq' (by kernel_rfl) (by kernel_rfl) (by kernel_rfl)
theorem f3n91 {R : Type} (call : CallF R) (N : Nat) (J : KF R) (e : Env) (σ : St) : runK Try.prog call N f3c91 f3a91 J e σ = runK Try.prog call N f3c93 f3a93 (blockC 5 f3a91 J) e σ := runK_block' (by kernel_rfl) (by kernel_rfl)
theorem f3n93 {R : Type} (call : CallF R) (N : Nat) (J : KF R) (e : Env) (σ : St) : runK Try.prog call N f3c93 f3a93 J e σ = runK Try.prog call N f3c94 f3a94 (seqC (fun K e σ => runK Try.prog call N f3c95 f3a95 K e σ) f3a93 J) e σ := runK_seq' (by kernel_rfl) (by kernel_rfl) (by kernel_rfl)
theorem f3r94_f3e42 {R : Type} (call : CallF R) (N : Nat) (y0 : Option (Nat × Nat)) (y1 : Int) (y2 : Option (Nat × Nat)) (y3 : Nat) (y4 : Option Nat) (y5 : Option (Nat × Nat)) (y6 : Nat) (y7 : Option Nat) (y8 : Int) (y9 : Int) (y10 : Option (Nat × Nat)) (y11 : Nat) (y12 : Option Nat) (y13 : Int) (y14 : Int) (J : KF R) (σ : St) :
    runK Try.prog call N f3c94 f3a94 J (f3e42 y0 y1 y2 y3 y4 y5 y6 y7 y8 y9 y10 y11 y12 y13 y14) σ =
if (0 : Int) ≤ y14 ∧ y14 < (↑y11 : Int) then
  Option.bind y10 fun v0 =>
    Option.bind (St.ld σ (Prod.fst v0) (Prod.snd v0 + Int.toNat y14 * (1 : Nat))) fun v1 =>
      Option.bind (AV.toStr v1) fun v2 =>
        J Ex.normal
          (f3e45 y0 y1 y2 y3 y4 y14 v2 y5 y6 y7 y8 y9 y10 y11 y12 y13 y14 y14 (some (Prod.fst v0, Prod.snd v0 + Int.toNat y14 * (1 : Nat))) v2) σ
else none := hide (by kernel_rfl)
theorem f3z93_f3e45 (y0 : Option (Nat × Nat)) (y1 : Int) (y2 : Option (Nat × Nat)) (y3 : Nat) (y4 : Option Nat) (y5 : Int) (y6 : ByteArray) (y7 : Option (Nat × Nat)) (y8 : Nat) (y9 : Option Nat) (y10 : Int) (y11 : Int) (y12 : Option (Nat × Nat)) (y13 : Nat) (y14 : Option Nat) (y15 : Int) (y16 : Int) (y17 : Int) (y18 : Option (Nat × Nat)) (y19 : ByteArray) : Ann.clr f3a93 (f3e45 y0 y1 y2 y3 y4 y5 y6 y7 y8 y9 y10 y11 y12 y13 y14 y15 y16 y17 y18 y19) = f3e46 y0 y1 y2 y3 y4 y5 y6 y7 y8 y9 y10 y11 y12 y13 y14 y15 y16 := hide (by kernel_rfl)
theorem f3n95 {R : Type} (call : CallF R) (N : Nat) (J : KF R) (e : Env) (σ : St) : runK Try.prog call N f3c95 f3a95 J e σ = runK Try.prog call N f3c96 f3a96 (seqC (fun K e σ => runK Try.prog call N f3c97 f3a97 K e σ) f3a95 J) e σ := runK_seq' (by kernel_rfl) (by kernel_rfl) (by kernel_rfl)
theorem f3r96_f3e46 {R : Type} (call : CallF R) (N : Nat) (y0 : Option (Nat × Nat)) (y1 : Int) (y2 : Option (Nat × Nat)) (y3 : Nat) (y4 : Option Nat) (y5 : Int) (y6 : ByteArray) (y7 : Option (Nat × Nat)) (y8 : Nat) (y9 : Option Nat) (y10 : Int) (y11 : Int) (y12 : Option (Nat × Nat)) (y13 : Nat) (y14 : Option Nat) (y15 : Int) (y16 : Int) (J : KF R) (σ : St) :
    runK Try.prog call N f3c96 f3a96 J (f3e46 y0 y1 y2 y3 y4 y5 y6 y7 y8 y9 y10 y11 y12 y13 y14 y15 y16) σ =
J Ex.normal (f3e47 y0 y1 y2 y3 y4 y5 y6 y7 y8 y9 y10 y11 y12 y13 y14 y15 y16 y5 y1 (y5 != y1)) σ := hide (by kernel_rfl)
theorem f3z95_f3e47 (y0 : Option (Nat × Nat)) (y1 : Int) (y2 : Option (Nat × Nat)) (y3 : Nat) (y4 : Option Nat) (y5 : Int) (y6 : ByteArray) (y7 : Option (Nat × Nat)) (y8 : Nat) (y9 : Option Nat) (y10 : Int) (y11 : Int) (y12 : Option (Nat × Nat)) (y13 : Nat) (y14 : Option Nat) (y15 : Int) (y16 : Int) (y17 : Int) (y18 : Int) (y19 : Bool) : Ann.clr f3a95 (f3e47 y0 y1 y2 y3 y4 y5 y6 y7 y8 y9 y10 y11 y12 y13 y14 y15 y16 y17 y18 y19) = f3e48 y0 y1 y2 y3 y4 y6 y7 y8 y9 y10 y11 y12 y13 y14 y15 y16 y19 := hide (by kernel_rfl)
theorem f3x97_f3e48 {R : Type} (call : CallF R) (N : Nat) (y0 : Option (Nat × Nat)) (y1 : Int) (y2 : Option (Nat × Nat)) (y3 : Nat) (y4 : Option Nat) (y5 : ByteArray) (y6 : Option (Nat × Nat)) (y7 : Nat) (y8 : Option Nat) (y9 : Int) (y10 : Int) (y11 : Option (Nat × Nat)) (y12 : Nat) (y13 : Option Nat) (y14 : Int) (y15 : Int) (y16 : Bool) (J : KF R) (σ : St) : runK Try.prog call N f3c97 f3a97 J (f3e48 y0 y1 y2 y3 y4 y5 y6 y7 y8 y9 y10 y11 y12 y13 y14 y15 y16) σ = if y16 = true then runK Try.prog call N f3c98 f3a98 (condC f3a97 J) (f3e48 y0 y1 y2 y3 y4 y5 y6 y7 y8 y9 y10 y11 y12 y13 y14 y15 y16) σ else runK Try.prog call N f3c99 f3a99 (condC f3a97 J) (f3e48 y0 y1 y2 y3 y4 y5 y6 y7 y8 y9 y10 y11 y12 y13 y14 y15 y16) σ := runK_cond' (o := Operand.tmp (95 : Nat)) (by kernel_rfl) (by kernel_rfl) (by kernel_rfl) (by kernel_rfl)
theorem f3r98_f3e48 {R : Type} (call : CallF R) (N : Nat) (y0 : Option (Nat × Nat)) (y1 : Int) (y2 : Option (Nat × Nat)) (y3 : Nat) (y4 : Option Nat) (y5 : ByteArray) (y6 : Option (Nat × Nat)) (y7 : Nat) (y8 : Option Nat) (y9 : Int) (y10 : Int) (y11 : Option (Nat × Nat)) (y12 : Nat) (y13 : Option Nat) (y14 : Int) (y15 : Int) (y16 : Bool) (J : KF R) (σ : St) :
    runK Try.prog call N f3c98 f3a98 J (f3e48 y0 y1 y2 y3 y4 y5 y6 y7 y8 y9 y10 y11 y12 y13 y14 y15 y16) σ =
Option.bind (St.elems (St.new σ (Blk.cells [AV.str y5] true)) (1 : Nat) (Sl.mk (some (St.next σ, (0 : Nat))) (1 : Nat) (some (1 : Nat))) (1 : Nat))
  fun v0 =>
  Option.bind (St.app (St.new σ (Blk.cells [AV.str y5] true)) (1 : Nat) (16 : Nat) (Sl.mk y2 y3 y4) (1 : Nat) v0) fun v1 =>
    J Ex.normal
      (f3e49 y0 y1 (Sl.o (Prod.fst v1)) (Sl.len (Prod.fst v1)) (Sl.cap (Prod.fst v1)) y5 y6 y7 y8 y9 y10 y11 y12 y13 y14 y15 y16 y2 y3 y4 y5
        (some (St.next σ, (0 : Nat))) (1 : Nat) (some (1 : Nat)) (Sl.o (Prod.fst v1)) (Sl.len (Prod.fst v1)) (Sl.cap (Prod.fst v1)))
      (Prod.snd v1) := hide (by kernel_rfl)
theorem f3z97_f3e49 (y0 : Option (Nat × Nat)) (y1 : Int) (y2 : Option (Nat × Nat)) (y3 : Nat) (y4 : Option Nat) (y5 : ByteArray) (y6 : Option (Nat × Nat)) (y7 : Nat) (y8 : Option Nat) (y9 : Int) (y10 : Int) (y11 : Option (Nat × Nat)) (y12 : Nat) (y13 : Option Nat) (y14 : Int) (y15 : Int) (y16 : Bool) (y17 : Option (Nat × Nat)) (y18 : Nat) (y19 : Option Nat) (y20 : ByteArray) (y21 : Option (Nat × Nat)) (y22 : Nat) (y23 : Option Nat) (y24 : Option (Nat × Nat)) (y25 : Nat) (y26 : Option Nat) : Ann.clr f3a97 (f3e49 y0 y1 y2 y3 y4 y5 y6 y7 y8 y9 y10 y11 y12 y13 y14 y15 y16 y17 y18 y19 y20 y21 y22 y23 y24 y25 y26) = f3e42 y0 y1 y2 y3 y4 y6 y7 y8 y9 y10 y11 y12 y13 y14 y15 := hide (by kernel_rfl)
theorem f3n99 {R : Type} (call : CallF R) (N : Nat) (J : KF R) (e : Env) (σ : St) : runK Try.prog call N f3c99 f3a99 J e σ = J .normal e σ := runK_skip' (by kernel_rfl)
theorem f3z97_f3e48 (y0 : Option (Nat × Nat)) (y1 : Int) (y2 : Option (Nat × Nat)) (y3 : Nat) (y4 : Option Nat) (y5 : ByteArray) (y6 : Option (Nat × Nat)) (y7 : Nat) (y8 : Option Nat) (y9 : Int) (y10 : Int) (y11 : Option (Nat × Nat)) (y12 : Nat) (y13 : Option Nat) (y14 : Int) (y15 : Int) (y16 : Bool) : Ann.clr f3a97 (f3e48 y0 y1 y2 y3 y4 y5 y6 y7 y8 y9 y10 y11 y12 y13 y14 y15 y16) = f3e42 y0 y1 y2 y3 y4 y6 y7 y8 y9 y10 y11 y12 y13 y14 y15 := hide (by kernel_rfl)
theorem f3z91_f3e42 (y0 : Option (Nat × Nat)) (y1 : Int) (y2 : Option (Nat × Nat)) (y3 : Nat) (y4 : Option Nat) (y5 : Option (Nat × Nat)) (y6 : Nat) (y7 : Option Nat) (y8 : Int) (y9 : Int) (y10 : Option (Nat × Nat)) (y11 : Nat) (y12 : Option Nat) (y13 : Int) (y14 : Int) : Ann.clr f3a91 (f3e42 y0 y1 y2 y3 y4 y5 y6 y7 y8 y9 y10 y11 y12 y13 y14) = f3e42 y0 y1 y2 y3 y4 y5 y6 y7 y8 y9 y10 y11 y12 y13 y14 := hide (by kernel_rfl)
theorem f3z88_f3e42 (y0 : Option (Nat × Nat)) (y1 : Int) (y2 : Option (Nat × Nat)) (y3 : Nat) (y4 : Option Nat) (y5 : Option (Nat × Nat)) (y6 : Nat) (y7 : Option Nat) (y8 : Int) (y9 : Int) (y10 : Option (Nat × Nat)) (y11 : Nat) (y12 : Option Nat) (y13 : Int) (y14 : Int) : Ann.clr f3a88 (f3e42 y0 y1 y2 y3 y4 y5 y6 y7 y8 y9 y10 y11 y12 y13 y14) = f3e42 y0 y1 y2 y3 y4 y5 y6 y7 y8 y9 y10 y11 y12 y13 y14 := hide (by kernel_rfl)
theorem f3r92_f3e42 {R : Type} (call : CallF R) (N : Nat) (y0 : Option (Nat × Nat)) (y1 : Int) (y2 : Option (Nat × Nat)) (y3 : Nat) (y4 : Option Nat) (y5 : Option (Nat × Nat)) (y6 : Nat) (y7 : Option Nat) (y8 : Int) (y9 : Int) (y10 : Option (Nat × Nat)) (y11 : Nat) (y12 : Option Nat) (y13 : Int) (y14 : Int) (J : KF R) (σ : St) :
    runK Try.prog call N f3c92 f3a92 J (f3e42 y0 y1 y2 y3 y4 y5 y6 y7 y8 y9 y10 y11 y12 y13 y14) σ =
J Ex.normal
  (f3e50 y0 y1 y2 y3 y4 y5 y6 y7 y8 y9 y10 y11 y12 y13 (IntKind.wrap IntKind.i64 (y14 + (1 : Int))) (IntKind.wrap IntKind.i64 (y14 + (1 : Int)))) σ := hide (by kernel_rfl)
theorem f3z83_f3e50 (y0 : Option (Nat × Nat)) (y1 : Int) (y2 : Option (Nat × Nat)) (y3 : Nat) (y4 : Option Nat) (y5 : Option (Nat × Nat)) (y6 : Nat) (y7 : Option Nat) (y8 : Int) (y9 : Int) (y10 : Option (Nat × Nat)) (y11 : Nat) (y12 : Option Nat) (y13 : Int) (y14 : Int) (y15 : Int) : Ann.clr f3a83 (f3e50 y0 y1 y2 y3 y4 y5 y6 y7 y8 y9 y10 y11 y12 y13 y14 y15) = f3e42 y0 y1 y2 y3 y4 y5 y6 y7 y8 y9 y10 y11 y12 y13 y14 := hide (by kernel_rfl)
theorem f3z82_f3e44 (y0 : Option (Nat × Nat)) (y1 : Option (Nat × Nat)) (y2 : Nat) (y3 : Option Nat) (y4 : Option (Nat × Nat)) (y5 : Nat) (y6 : Option Nat) (y7 : Int) (y8 : Int) : Ann.clr f3a82 (f3e44 y0 y1 y2 y3 y4 y5 y6 y7 y8) = f3e44 y0 y1 y2 y3 y4 y5 y6 y7 y8 := hide (by kernel_rfl)
theorem f3z78_f3e44 (y0 : Option (Nat × Nat)) (y1 : Option (Nat × Nat)) (y2 : Nat) (y3 : Option Nat) (y4 : Option (Nat × Nat)) (y5 : Nat) (y6 : Option Nat) (y7 : Int) (y8 : Int) : Ann.clr f3a78 (f3e44 y0 y1 y2 y3 y4 y5 y6 y7 y8) = f3e44 y0 y1 y2 y3 y4 y5 y6 y7 y8 := hide (by kernel_rfl)
theorem f3r80_f3e44 {R : Type} (call : CallF R) (N : Nat) (y0 : Option (Nat × Nat)) (y1 : Option (Nat × Nat)) (y2 : Nat) (y3 : Option Nat) (y4 : Option (Nat × Nat)) (y5 : Nat) (y6 : Option Nat) (y7 : Int) (y8 : Int) (J : KF R) (σ : St) :
    runK Try.prog call N f3c80 f3a80 J (f3e44 y0 y1 y2 y3 y4 y5 y6 y7 y8) σ =
J Ex.normal (f3e51 y0 y1 y2 y3 y1 y2 y3 y4 y5 y6 y7 y8 y1 y2 y3) σ := hide (by kernel_rfl)
theorem f3z48_f3e23 (y0 : Option (Nat × Nat)) (y1 : Option (Nat × Nat)) (y2 : Nat) (y3 : Option Nat) (y4 : Option (Nat × Nat)) (y5 : Nat) (y6 : Option Nat) (y7 : Int) (y8 : Int) : Ann.clr f3a48 (f3e23 y0 y1 y2 y3 y4 y5 y6 y7 y8) = f3e23 y0 y1 y2 y3 y4 y5 y6 y7 y8 := hide (by kernel_rfl)
theorem f3z48_f3e51 (y0 : Option (Nat × Nat)) (y1 : Option (Nat × Nat)) (y2 : Nat) (y3 : Option Nat) (y4 : Option (Nat × Nat)) (y5 : Nat) (y6 : Option Nat) (y7 : Option (Nat × Nat)) (y8 : Nat) (y9 : Option Nat) (y10 : Int) (y11 : Int) (y12 : Option (Nat × Nat)) (y13 : Nat) (y14 : Option Nat) : Ann.clr f3a48 (f3e51 y0 y1 y2 y3 y4 y5 y6 y7 y8 y9 y10 y11 y12 y13 y14) = f3e23 y0 y1 y2 y3 y7 y8 y9 y10 y11 := hide (by kernel_rfl)
theorem f3z45_f3e23 (y0 : Option (Nat × Nat)) (y1 : Option (Nat × Nat)) (y2 : Nat) (y3 : Option Nat) (y4 : Option (Nat × Nat)) (y5 : Nat) (y6 : Option Nat) (y7 : Int) (y8 : Int) : Ann.clr f3a45 (f3e23 y0 y1 y2 y3 y4 y5 y6 y7 y8) = f3e23 y0 y1 y2 y3 y4 y5 y6 y7 y8 := hide (by kernel_rfl)
theorem f3r49_f3e23 {R : Type} (call : CallF R) (N : Nat) (y0 : Option (Nat × Nat)) (y1 : Option (Nat × Nat)) (y2 : Nat) (y3 : Option Nat) (y4 : Option (Nat × Nat)) (y5 : Nat) (y6 : Option Nat) (y7 : Int) (y8 : Int) (J : KF R) (σ : St) :
    runK Try.prog call N f3c49 f3a49 J (f3e23 y0 y1 y2 y3 y4 y5 y6 y7 y8) σ =
J Ex.normal (f3e52 y0 y1 y2 y3 y4 y5 y6 y7 (IntKind.wrap IntKind.i64 (y8 + (1 : Int))) (IntKind.wrap IntKind.i64 (y8 + (1 : Int)))) σ := hide (by kernel_rfl)
theorem f3z40_f3e52 (y0 : Option (Nat × Nat)) (y1 : Option (Nat × Nat)) (y2 : Nat) (y3 : Option Nat) (y4 : Option (Nat × Nat)) (y5 : Nat) (y6 : Option Nat) (y7 : Int) (y8 : Int) (y9 : Int) : Ann.clr f3a40 (f3e52 y0 y1 y2 y3 y4 y5 y6 y7 y8 y9) = f3e23 y0 y1 y2 y3 y4 y5 y6 y7 y8 := hide (by kernel_rfl)
theorem f3z39_f3e25 (y0 : Option (Nat × Nat)) (y1 : Option (Nat × Nat)) (y2 : Nat) (y3 : Option Nat) : Ann.clr f3a39 (f3e25 y0 y1 y2 y3) = f3e25 y0 y1 y2 y3 := hide (by kernel_rfl)
theorem f3z16_f3e25 (y0 : Option (Nat × Nat)) (y1 : Option (Nat × Nat)) (y2 : Nat) (y3 : Option Nat) : Ann.clr f3a16 (f3e25 y0 y1 y2 y3) = f3e25 y0 y1 y2 y3 := hide (by kernel_rfl)
theorem f3n37 {R : Type} (call : CallF R) (N : Nat) (J : KF R) (e : Env) (σ : St) : runK Try.prog call N f3c37 f3a37 J e σ = runK Try.prog call N f3c100 f3a100 (seqC (fun K e σ => runK Try.prog call N f3c101 f3a101 K e σ) f3a37 J) e σ := runK_seq' (by kernel_rfl) (by kernel_rfl) (by kernel_rfl)
theorem f3n100 {R : Type} (call : CallF R) (N : Nat) (J : KF R) (e : Env) (σ : St) : runK Try.prog call N f3c100 f3a100 J e σ = runK Try.prog call N f3c102 f3a102 (seqC (fun K e σ => runK Try.prog call N f3c103 f3a103 K e σ) f3a100 J) e σ := runK_seq' (by kernel_rfl) (by kernel_rfl) (by kernel_rfl)
theorem f3r102_f3e25 {R : Type} (call : CallF R) (N : Nat) (y0 : Option (Nat × Nat)) (y1 : Option (Nat × Nat)) (y2 : Nat) (y3 : Option Nat) (J : KF R) (σ : St) :
    runK Try.prog call N f3c102 f3a102 J (f3e25 y0 y1 y2 y3) σ =
J Ex.normal (f3e53 y0 y1 y2 y3 y1 y2 y3 (↑y2 : Int) (0 : Int)) σ := hide (by kernel_rfl)
theorem f3z100_f3e53 (y0 : Option (Nat × Nat)) (y1 : Option (Nat × Nat)) (y2 : Nat) (y3 : Option Nat) (y4 : Option (Nat × Nat)) (y5 : Nat) (y6 : Option Nat) (y7 : Int) (y8 : Int) : Ann.clr f3a100 (f3e53 y0 y1 y2 y3 y4 y5 y6 y7 y8) = f3e53 y0 y1 y2 y3 y4 y5 y6 y7 y8 := hide (by kernel_rfl)
theorem f3n103 {R : Type} (call : CallF R) (N : Nat) (J : KF R) (e : Env) (σ : St) : runK Try.prog call N f3c103 f3a103 J e σ = runK Try.prog call N f3c104 f3a104 (blockC 6 f3a103 J) e σ := runK_block' (by kernel_rfl) (by kernel_rfl)
theorem f3L104_eq {R : Type} (call : CallF R) (N : Nat) (J : KF R) (e : Env) (σ : St) : f3L104 call N J e σ = runK Try.prog call N f3c105 f3a105 J e σ := hide rfl
theorem f3z104_f3e53 (y0 : Option (Nat × Nat)) (y1 : Option (Nat × Nat)) (y2 : Nat) (y3 : Option Nat) (y4 : Option (Nat × Nat)) (y5 : Nat) (y6 : Option Nat) (y7 : Int) (y8 : Int) : Ann.clr f3a104 (f3e53 y0 y1 y2 y3 y4 y5 y6 y7 y8) = f3e53 y0 y1 y2 y3 y4 y5 y6 y7 y8 := hide (by kernel_rfl)
theorem f3l104_f3e53 {R : Type} (call : CallF R) (N : Nat) (y0 : Option (Nat × Nat)) (y1 : Option (Nat × Nat)) (y2 : Nat) (y3 : Option Nat) (y4 : Option (Nat × Nat)) (y5 : Nat) (y6 : Option Nat) (y7 : Int) (y8 : Int) (J : KF R) (σ : St) : runK Try.prog call N f3c104 f3a104 J (f3e53 y0 y1 y2 y3 y4 y5 y6 y7 y8) σ = loopK (f3L104 call N) f3a104 N J (f3e53 y0 y1 y2 y3 y4 y5 y6 y7 y8) σ := runK_loop' (by kernel_rfl) (by kernel_rfl) (by kernel_rfl)
theorem f3n105 {R : Type} (call : CallF R) (N : Nat) (J : KF R) (e : Env) (σ : St) : runK Try.prog call N f3c105 f3a105 J e σ = runK Try.prog call N f3c106 f3a106 (seqC (fun K e σ => runK Try.prog call N f3c107 f3a107 K e σ) f3a105 J) e σ := runK_seq' (by kernel_rfl) (by kernel_rfl) (by kernel_rfl)
theorem f3r106_f3e53 {R : Type} (call : CallF R) (N : Nat) (y0 : Option (Nat × Nat)) (y1 : Option (Nat × Nat)) (y2 : Nat) (y3 : Option Nat) (y4 : Option (Nat × Nat)) (y5 : Nat) (y6 : Option Nat) (y7 : Int) (y8 : Int) (J : KF R) (σ : St) :
    runK Try.prog call N f3c106 f3a106 J (f3e53 y0 y1 y2 y3 y4 y5 y6 y7 y8) σ =
J Ex.normal (f3e54 y0 y1 y2 y3 y4 y5 y6 y7 y8 (decide (y8 < y7))) σ := hide (by kernel_rfl)
theorem f3z105_f3e54 (y0 : Option (Nat × Nat)) (y1 : Option (Nat × Nat)) (y2 : Nat) (y3 : Option Nat) (y4 : Option (Nat × Nat)) (y5 : Nat) (y6 : Option Nat) (y7 : Int) (y8 : Int) (y9 : Bool) : Ann.clr f3a105 (f3e54 y0 y1 y2 y3 y4 y5 y6 y7 y8 y9) = f3e54 y0 y1 y2 y3 y4 y5 y6 y7 y8 y9 := hide (by kernel_rfl)
theorem f3n107 {R : Type} (call : CallF R) (N : Nat) (J : KF R) (e : Env) (σ : St) : runK Try.prog call N f3c107 f3a107 J e σ = runK Try.prog call N f3c108 f3a108 (seqC (fun K e σ => runK Try.prog call N f3c109 f3a109 K e σ) f3a107 J) e σ := runK_seq' (by kernel_rfl) (by kernel_rfl) (by kernel_rfl)
theorem f3x108_f3e54 {R : Type} (call : CallF R) (N : Nat) (y0 : Option (Nat × Nat)) (y1 : Option (Nat × Nat)) (y2 : Nat) (y3 : Option Nat) (y4 : Option (Nat × Nat)) (y5 : Nat) (y6 : Option Nat) (y7 : Int) (y8 : Int) (y9 : Bool) (J : KF R) (σ : St) : runK Try.prog call N f3c108 f3a108 J (f3e54 y0 y1 y2 y3 y4 y5 y6 y7 y8 y9) σ = if y9 = true then runK Try.prog call N f3c110 f3a110 (condC f3a108 J) (f3e54 y0 y1 y2 y3 y4 y5 y6 y7 y8 y9) σ else runK Try.prog call N f3c111 f3a111 (condC f3a108 J) (f3e54 y0 y1 y2 y3 y4 y5 y6 y7 y8 y9) σ := runK_cond' (o := Operand.tmp (106 : Nat)) (by kernel_rfl) (by kernel_rfl) (by kernel_rfl) (by kernel_rfl)
theorem f3n110 {R : Type} (call : CallF R) (N : Nat) (J : KF R) (e : Env) (σ : St) : runK Try.prog call N f3c110 f3a110 J e σ = J .normal e σ := runK_skip' (by kernel_rfl)
theorem f3z108_f3e54 (y0 : Option (Nat × Nat)) (y1 : Option (Nat × Nat)) (y2 : Nat) (y3 : Option Nat) (y4 : Option (Nat × Nat)) (y5 : Nat) (y6 : Option Nat) (y7 : Int) (y8 : Int) (y9 : Bool) : Ann.clr f3a108 (f3e54 y0 y1 y2 y3 y4 y5 y6 y7 y8 y9) = f3e53 y0 y1 y2 y3 y4 y5 y6 y7 y8 := hide (by kernel_rfl)
theorem f3y111_f3e54 {R : Type} (call : CallF R) (N : Nat) (y0 : Option (Nat × Nat)) (y1 : Option (Nat × Nat)) (y2 : Nat) (y3 : Option Nat) (y4 : Option (Nat × Nat)) (y5 : Nat) (y6 : Option Nat) (y7 : Int) (y8 : Int) (y9 : Bool) (J : KF R) (σ : St) : runK Try.prog call N f3c111 f3a111 J (f3e54 y0 y1 y2 y3 y4 y5 y6 y7 y8 y9) σ = J (.exit 6) (f3e25 y0 y1 y2 y3) σ := runK_exit' (by kernel_rfl) (by kernel_rfl)
theorem f3z107_f3e53 (y0 : Option (Nat × Nat)) (y1 : Option (Nat × Nat)) (y2 : Nat) (y3 : Option Nat) (y4 : Option (Nat × Nat)) (y5 : Nat) (y6 : Option Nat) (y7 : Int) (y8 : Int) : Ann.clr f3a107 (f3e53 y0 y1 y2 y3 y4 y5 y6 y7 y8) = f3e53 y0 y1 y2 y3 y4 y5 y6 y7 y8 := hide (by kernel_rfl)
theorem f3n109 {R : Type} (call : CallF R) (N : Nat) (J : KF R) (e : Env) (σ : St) : runK Try.prog call N f3c109 f3a109 J e σ = runK Try.prog call N f3c112 f3a112 (seqC (fun K e σ => runK Try.prog call N f3c113 f3a113 K e σ) f3a109 J) e σ := runK_seq' (by kernel_rfl) (by kernel_rfl) (by kernel_rfl)
theorem f3n112 {R : Type} (call : CallF R) (N : Nat) (J : KF R) (e : Env) (σ : St) : runK Try.prog call N f3c112 f3a112 J e σ = runK Try.prog call N f3c114 f3a114 (blockC 7 f3a112 J) e σ := runK_block' (by kernel_rfl) (by kernel_rfl)
theorem f3n114 {R : Type} (call : CallF R) (N : Nat) (J : KF R) (e : Env) (σ : St) : runK Try.prog call N f3c114 f3a114 J e σ = runK Try.prog call N f3c115 f3a115 (seqC (fun K e σ => runK Try.prog call N f3c116 f3a116 K e σ) f3a114 J) e σ := runK_seq' (by kernel_rfl) (by kernel_rfl) (by kernel_rfl)
theorem f3r115_f3e53 {R : Type} (call : CallF R) (N : Nat) (y0 : Option (Nat × Nat)) (y1 : Option (Nat × Nat)) (y2 : Nat) (y3 : Option Nat) (y4 : Option (Nat × Nat)) (y5 : Nat) (y6 : Option Nat) (y7 : Int) (y8 : Int) (J : KF R) (σ : St) :
    runK Try.prog call N f3c115 f3a115 J (f3e53 y0 y1 y2 y3 y4 y5 y6 y7 y8) σ =
if (0 : Int) ≤ y8 ∧ y8 < (↑y5 : Int) then
  Option.bind y4 fun v0 =>
    Option.bind (St.ld σ (Prod.fst v0) (Prod.snd v0 + Int.toNat y8 * (1 : Nat))) fun v1 =>
      Option.bind (AV.toStr v1) fun v2 =>
        J Ex.normal (f3e55 y0 y1 y2 y3 y8 v2 y4 y5 y6 y7 y8 y8 (some (Prod.fst v0, Prod.snd v0 + Int.toNat y8 * (1 : Nat))) v2) σ
else none := hide (by kernel_rfl)
theorem f3z114_f3e55 (y0 : Option (Nat × Nat)) (y1 : Option (Nat × Nat)) (y2 : Nat) (y3 : Option Nat) (y4 : Int) (y5 : ByteArray) (y6 : Option (Nat × Nat)) (y7 : Nat) (y8 : Option Nat) (y9 : Int) (y10 : Int) (y11 : Int) (y12 : Option (Nat × Nat)) (y13 : ByteArray) : Ann.clr f3a114 (f3e55 y0 y1 y2 y3 y4 y5 y6 y7 y8 y9 y10 y11 y12 y13) = f3e56 y0 y1 y2 y3 y4 y5 y6 y7 y8 y9 y10 := hide (by kernel_rfl)
theorem f3n116 {R : Type} (call : CallF R) (N : Nat) (J : KF R) (e : Env) (σ : St) : runK Try.prog call N f3c116 f3a116 J e σ = runK Try.prog call N f3c117 f3a117 (seqC (fun K e σ => runK Try.prog call N f3c118 f3a118 K e σ) f3a116 J) e σ := runK_seq' (by kernel_rfl) (by kernel_rfl) (by kernel_rfl)
theorem f3r117_f3e56 {R : Type} (call : CallF R) (N : Nat) (y0 : Option (Nat × Nat)) (y1 : Option (Nat × Nat)) (y2 : Nat) (y3 : Option Nat) (y4 : Int) (y5 : ByteArray) (y6 : Option (Nat × Nat)) (y7 : Nat) (y8 : Option Nat) (y9 : Int) (y10 : Int) (J : KF R) (σ : St) :
    runK Try.prog call N f3c117 f3a117 J (f3e56 y0 y1 y2 y3 y4 y5 y6 y7 y8 y9 y10) σ =
call (12 : Nat) [AV.ptr y0, AV.int IntKind.i64 y4] σ fun v0 v1 =>
  Option.bind (AV.toTuple v0) fun v2 =>
    if List.length v2 = (2 : Nat) then
      Option.bind (List.head? v2) fun v3 =>
        Option.bind (AV.toAgg v3) fun v4 =>
          if List.length v4 = (4 : Nat) then
            Option.bind (List.head? v4) fun v5 =>
              Option.bind (AV.toInt IntKind.i64 v5) fun v6 =>
                Option.bind (List.head? (List.tail v4)) fun v7 =>
                  Option.bind (AV.toInt IntKind.i64 v7) fun v8 =>
                    Option.bind (List.head? (List.tail (List.tail v4))) fun v9 =>
                      Option.bind (AV.toInt IntKind.i64 v9) fun v10 =>
                        Option.bind (List.head? (List.tail (List.tail (List.tail v4)))) fun v11 =>
                          Option.bind (AV.toStr v11) fun v12 =>
                            Option.bind (List.head? (List.tail v2)) fun v13 =>
                              Option.bind (AV.toInt IntKind.i64 v13) fun v14 =>
                                Option.bind
                                  (St.st
                                    (St.new v1
                                      (Blk.cells
                                        [AV.int IntKind.i64 (0 : Int), AV.int IntKind.i64 (0 : Int), AV.int IntKind.i64 (0 : Int),
                                          AV.str (ByteArray.mk #[])]
                                        true))
                                    (St.next v1) (0 : Nat) [AV.int IntKind.i64 v6, AV.int IntKind.i64 v8, AV.int IntKind.i64 v10, AV.str v12])
                                  fun v15 =>
                                  J Ex.normal
                                    (f3e57 y0 y1 y2 y3 y4 y5 (St.next v1) v14 y6 y7 y8 y9 y10 v6 v8 v10 v12 v14 y0 y4 v6 v8 v10 v12 v14 v6 v8 v10 v12
                                      v14)
                                    v15
          else none
    else none := hide (by kernel_rfl)
theorem f3z116_f3e57 (y0 : Option (Nat × Nat)) (y1 : Option (Nat × Nat)) (y2 : Nat) (y3 : Option Nat) (y4 : Int) (y5 : ByteArray) (y6 : Nat) (y7 : Int) (y8 : Option (Nat × Nat)) (y9 : Nat) (y10 : Option Nat) (y11 : Int) (y12 : Int) (y13 : Int) (y14 : Int) (y15 : Int) (y16 : ByteArray) (y17 : Int) (y18 : Option (Nat × Nat)) (y19 : Int) (y20 : Int) (y21 : Int) (y22 : Int) (y23 : ByteArray) (y24 : Int) (y25 : Int) (y26 : Int) (y27 : Int) (y28 : ByteArray) (y29 : Int) : Ann.clr f3a116 (f3e57 y0 y1 y2 y3 y4 y5 y6 y7 y8 y9 y10 y11 y12 y13 y14 y15 y16 y17 y18 y19 y20 y21 y22 y23 y24 y25 y26 y27 y28 y29) = f3e58 y0 y1 y2 y3 y5 y6 y7 y8 y9 y10 y11 y12 := hide (by kernel_rfl)
theorem f3n118 {R : Type} (call : CallF R) (N : Nat) (J : KF R) (e : Env) (σ : St) : runK Try.prog call N f3c118 f3a118 J e σ = runK Try.prog call N f3c119 f3a119 (seqC (fun K e σ => runK Try.prog call N f3c120 f3a120 K e σ) f3a118 J) e σ := runK_seq' (by kernel_rfl) (by kernel_rfl) (by kernel_rfl)
theorem f3r119_f3e58 {R : Type} (call : CallF R) (N : Nat) (y0 : Option (Nat × Nat)) (y1 : Option (Nat × Nat)) (y2 : Nat) (y3 : Option Nat) (y4 : ByteArray) (y5 : Nat) (y6 : Int) (y7 : Option (Nat × Nat)) (y8 : Nat) (y9 : Option Nat) (y10 : Int) (y11 : Int) (J : KF R) (σ : St) :
    runK Try.prog call N f3c119 f3a119 J (f3e58 y0 y1 y2 y3 y4 y5 y6 y7 y8 y9 y10 y11) σ =
if (y6 != (0 : Int)) = true then J Ex.normal (f3e59 y0 y1 y2 y3 y4 y5 y6 y7 y8 y9 y10 y11 y6 (y6 != (0 : Int)) true true) σ
else
  Option.bind (St.ld σ y5 (3 : Nat)) fun v0 =>
    Option.bind (AV.toStr v0) fun v1 =>
      J Ex.normal (f3e60 y0 y1 y2 y3 y4 y5 y6 y7 y8 y9 y10 y11 y6 (y6 != (0 : Int)) false y5 v1 y4 (!decide (v1 = y4)) !decide (v1 = y4)) σ := hide (by kernel_rfl)
theorem f3z118_f3e59 (y0 : Option (Nat × Nat)) (y1 : Option (Nat × Nat)) (y2 : Nat) (y3 : Option Nat) (y4 : ByteArray) (y5 : Nat) (y6 : Int) (y7 : Option (Nat × Nat)) (y8 : Nat) (y9 : Option Nat) (y10 : Int) (y11 : Int) (y12 : Int) (y13 : Bool) (y14 : Bool) (y15 : Bool) : Ann.clr f3a118 (f3e59 y0 y1 y2 y3 y4 y5 y6 y7 y8 y9 y10 y11 y12 y13 y14 y15) = f3e61 y0 y1 y2 y3 y7 y8 y9 y10 y11 y15 := hide (by kernel_rfl)
theorem f3x120_f3e61 {R : Type} (call : CallF R) (N : Nat) (y0 : Option (Nat × Nat)) (y1 : Option (Nat × Nat)) (y2 : Nat) (y3 : Option Nat) (y4 : Option (Nat × Nat)) (y5 : Nat) (y6 : Option Nat) (y7 : Int) (y8 : Int) (y9 : Bool) (J : KF R) (σ : St) : runK Try.prog call N f3c120 f3a120 J (f3e61 y0 y1 y2 y3 y4 y5 y6 y7 y8 y9) σ = if y9 = true then runK Try.prog call N f3c121 f3a121 (condC f3a120 J) (f3e61 y0 y1 y2 y3 y4 y5 y6 y7 y8 y9) σ else runK Try.prog call N f3c122 f3a122 (condC f3a120 J) (f3e61 y0 y1 y2 y3 y4 y5 y6 y7 y8 y9) σ := runK_cond' (o := Operand.tmp (123 : Nat)) (by kernel_rfl) (by kernel_rfl) (by kernel_rfl) (by kernel_rfl)
theorem f3n121 {R : Type} (call : CallF R) (N : Nat) (J : KF R) (e : Env) (σ : St) : runK Try.prog call N f3c121 f3a121 J e σ = runK Try.prog call N f3c123 f3a123 (seqC (fun K e σ => runK Try.prog call N f3c124 f3a124 K e σ) f3a121 J) e σ := runK_seq' (by kernel_rfl) (by kernel_rfl) (by kernel_rfl)
theorem f3r123_f3e61 {R : Type} (call : CallF R) (N : Nat) (y0 : Option (Nat × Nat)) (y1 : Option (Nat × Nat)) (y2 : Nat) (y3 : Option Nat) (y4 : Option (Nat × Nat)) (y5 : Nat) (y6 : Option Nat) (y7 : Int) (y8 : Int) (y9 : Bool) (J : KF R) (σ : St) :
    runK Try.prog call N f3c123 f3a123 J (f3e61 y0 y1 y2 y3 y4 y5 y6 y7 y8 y9) σ =
J Ex.normal (f3e62 false y0 y1 y2 y3 y4 y5 y6 y7 y8 y9) σ := hide (by kernel_rfl)
theorem f3z121_f3e62 (y0 : Bool) (y1 : Option (Nat × Nat)) (y2 : Option (Nat × Nat)) (y3 : Nat) (y4 : Option Nat) (y5 : Option (Nat × Nat)) (y6 : Nat) (y7 : Option Nat) (y8 : Int) (y9 : Int) (y10 : Bool) : Ann.clr f3a121 (f3e62 y0 y1 y2 y3 y4 y5 y6 y7 y8 y9 y10) = f3e10 y0 := hide (by kernel_rfl)
theorem f3y124_f3e10 {R : Type} (call : CallF R) (N : Nat) (y0 : Bool) (J : KF R) (σ : St) : runK Try.prog call N f3c124 f3a124 J (f3e10 y0) σ = J .ret (f3e10 y0) σ := runK_ret' (by kernel_rfl) (by kernel_rfl)
theorem f3n122 {R : Type} (call : CallF R) (N : Nat) (J : KF R) (e : Env) (σ : St) : runK Try.prog call N f3c122 f3a122 J e σ = J .normal e σ := runK_skip' (by kernel_rfl)
theorem f3z120_f3e61 (y0 : Option (Nat × Nat)) (y1 : Option (Nat × Nat)) (y2 : Nat) (y3 : Option Nat) (y4 : Option (Nat × Nat)) (y5 : Nat) (y6 : Option Nat) (y7 : Int) (y8 : Int) (y9 : Bool) : Ann.clr f3a120 (f3e61 y0 y1 y2 y3 y4 y5 y6 y7 y8 y9) = f3e53 y0 y1 y2 y3 y4 y5 y6 y7 y8 := hide (by kernel_rfl)
theorem f3z118_f3e60 (y0 : Option (Nat × Nat)) (y1 : Option (Nat × Nat)) (y2 : Nat) (y3 : Option Nat) (y4 : ByteArray) (y5 : Nat) (y6 : Int) (y7 : Option (Nat × Nat)) (y8 : Nat) (y9 : Option Nat) (y10 : Int) (y11 : Int) (y12 : Int) (y13 : Bool) (y14 : Bool) (y15 : Nat) (y16 : ByteArray) (y17 : ByteArray) (y18 : Bool) (y19 : Bool) : Ann.clr f3a118 (f3e60 y0 y1 y2 y3 y4 y5 y6 y7 y8 y9 y10 y11 y12 y13 y14 y15 y16 y17 y18 y19) = f3e61 y0 y1 y2 y3 y7 y8 y9 y10 y11 y19 := hide (by kernel_rfl)
theorem f3z112_f3e53 (y0 : Option (Nat × Nat)) (y1 : Option (Nat × Nat)) (y2 : Nat) (y3 : Option Nat) (y4 : Option (Nat × Nat)) (y5 : Nat) (y6 : Option Nat) (y7 : Int) (y8 : Int) : Ann.clr f3a112 (f3e53 y0 y1 y2 y3 y4 y5 y6 y7 y8) = f3e53 y0 y1 y2 y3 y4 y5 y6 y7 y8 := hide (by kernel_rfl)
theorem f3z109_f3e53 (y0 : Option (Nat × Nat)) (y1 : Option (Nat × Nat)) (y2 : Nat) (y3 : Option Nat) (y4 : Option (Nat × Nat)) (y5 : Nat) (y6 : Option Nat) (y7 : Int) (y8 : Int) : Ann.clr f3a109 (f3e53 y0 y1 y2 y3 y4 y5 y6 y7 y8) = f3e53 y0 y1 y2 y3 y4 y5 y6 y7 y8 := hide (by kernel_rfl)
theorem f3r113_f3e53 {R : Type} (call : CallF R) (N : Nat) (y0 : Option (Nat × Nat)) (y1 : Option (Nat × Nat)) (y2 : Nat) (y3 : Option Nat) (y4 : Option (Nat × Nat)) (y5 : Nat) (y6 : Option Nat) (y7 : Int) (y8 : Int) (J : KF R) (σ : St) :
    runK Try.prog call N f3c113 f3a113 J (f3e53 y0 y1 y2 y3 y4 y5 y6 y7 y8) σ =
J Ex.normal (f3e63 y0 y1 y2 y3 y4 y5 y6 y7 (IntKind.wrap IntKind.i64 (y8 + (1 : Int))) (IntKind.wrap IntKind.i64 (y8 + (1 : Int)))) σ := hide (by kernel_rfl)
theorem f3z104_f3e63 (y0 : Option (Nat × Nat)) (y1 : Option (Nat × Nat)) (y2 : Nat) (y3 : Option Nat) (y4 : Option (Nat × Nat)) (y5 : Nat) (y6 : Option Nat) (y7 : Int) (y8 : Int) (y9 : Int) : Ann.clr f3a104 (f3e63 y0 y1 y2 y3 y4 y5 y6 y7 y8 y9) = f3e53 y0 y1 y2 y3 y4 y5 y6 y7 y8 := hide (by kernel_rfl)
theorem f3z103_f3e25 (y0 : Option (Nat × Nat)) (y1 : Option (Nat × Nat)) (y2 : Nat) (y3 : Option Nat) : Ann.clr f3a103 (f3e25 y0 y1 y2 y3) = f3e25 y0 y1 y2 y3 := hide (by kernel_rfl)
theorem f3z37_f3e25 (y0 : Option (Nat × Nat)) (y1 : Option (Nat × Nat)) (y2 : Nat) (y3 : Option Nat) : Ann.clr f3a37 (f3e25 y0 y1 y2 y3) = f3e25 y0 y1 y2 y3 := hide (by kernel_rfl)
theorem f3n101 {R : Type} (call : CallF R) (N : Nat) (J : KF R) (e : Env) (σ : St) : runK Try.prog call N f3c101 f3a101 J e σ = runK Try.prog call N f3c125 f3a125 (seqC (fun K e σ => runK Try.prog call N f3c126 f3a126 K e σ) f3a101 J) e σ := runK_seq' (by kernel_rfl) (by kernel_rfl) (by kernel_rfl)
theorem f3r125_f3e25 {R : Type} (call : CallF R) (N : Nat) (y0 : Option (Nat × Nat)) (y1 : Option (Nat × Nat)) (y2 : Nat) (y3 : Option Nat) (J : KF R) (σ : St) :
    runK Try.prog call N f3c125 f3a125 J (f3e25 y0 y1 y2 y3) σ =
call (13 : Nat) [AV.ptr y0] σ fun v0 v1 =>
  Option.bind (AV.toInt IntKind.i64 v0) fun v2 =>
    if (v2 == (↑y2 : Int)) = true then
      call (9 : Nat) [] v1 fun v3 v4 =>
        Option.bind (AV.toBool v3) fun v5 => J Ex.normal (f3e64 v5 y0 y1 y2 y3 y0 v2 y1 y2 y3 (↑y2 : Int) (v2 == (↑y2 : Int)) true v5 v5) v4
    else J Ex.normal (f3e65 false y0 y1 y2 y3 y0 v2 y1 y2 y3 (↑y2 : Int) (v2 == (↑y2 : Int)) false false) v1 := hide (by kernel_rfl)
theorem f3z101_f3e64 (y0 : Bool) (y1 : Option (Nat × Nat)) (y2 : Option (Nat × Nat)) (y3 : Nat) (y4 : Option Nat) (y5 : Option (Nat × Nat)) (y6 : Int) (y7 : Option (Nat × Nat)) (y8 : Nat) (y9 : Option Nat) (y10 : Int) (y11 : Bool) (y12 : Bool) (y13 : Bool) (y14 : Bool) : Ann.clr f3a101 (f3e64 y0 y1 y2 y3 y4 y5 y6 y7 y8 y9 y10 y11 y12 y13 y14) = f3e10 y0 := hide (by kernel_rfl)
theorem f3y126_f3e10 {R : Type} (call : CallF R) (N : Nat) (y0 : Bool) (J : KF R) (σ : St) : runK Try.prog call N f3c126 f3a126 J (f3e10 y0) σ = J .ret (f3e10 y0) σ := runK_ret' (by kernel_rfl) (by kernel_rfl)
theorem f3z101_f3e65 (y0 : Bool) (y1 : Option (Nat × Nat)) (y2 : Option (Nat × Nat)) (y3 : Nat) (y4 : Option Nat) (y5 : Option (Nat × Nat)) (y6 : Int) (y7 : Option (Nat × Nat)) (y8 : Nat) (y9 : Option Nat) (y10 : Int) (y11 : Bool) (y12 : Bool) (y13 : Bool) : Ann.clr f3a101 (f3e65 y0 y1 y2 y3 y4 y5 y6 y7 y8 y9 y10 y11 y12 y13) = f3e10 y0 := hide (by kernel_rfl)
theorem f3b_f3e10_r {R : Type} (y0 : Bool) (σ : St) (K : AV → St → Option R) : bodyC Try.prog f3rs K (Ex.ret) (f3e10 y0) σ =
K (AV.bool y0) σ := hide (by kernel_rfl)
attribute [go_sem] f3_eq f3n0 f3r1_f3e0 f3z0_f3e1 f3n2 f3r3_f3e0 f3z2_f3e2 f3n4 f3n5 f3r7_f3e3 f3z5_f3e4 f3x8_f3e7 f3n9 f3r11_f3e7 f3z9_f3e8 f3y12_f3e10 f3z9_f3e9 f3n10 f3z8_f3e7 f3z5_f3e5 f3z5_f3e6 f3z4_f3e3 f3n6 f3r13_f3e3 f3z6_f3e11 f3n14 f3n15 f3r17_f3e11 f3z15_f3e12 f3n18 f3L19_eq f3z19_f3e13 f3l19_f3e13 f3n20 f3r21_f3e13 f3z20_f3e14 f3n22 f3x23_f3e14 f3n25 f3z23_f3e14 f3y26_f3e14 f3z22_f3e13 f3n24 f3n27 f3n29 f3r30_f3e13 f3z29_f3e16 f3n31 f3r32_f3e17 f3z31_f3e18 f3x33_f3e19 f3r34_f3e19 f3z33_f3e20 f3n35 f3z33_f3e19 f3z27_f3e13 f3z24_f3e13 f3r28_f3e13 f3z19_f3e21 f3z18_f3e15 f3z14_f3e15 f3n16 f3n36 f3r38_f3e15 f3z36_f3e22 f3n39 f3L40_eq f3z40_f3e23 f3l40_f3e23 f3n41 f3r42_f3e23 f3z41_f3e24 f3n43 f3x44_f3e24 f3n46 f3z44_f3e24 f3y47_f3e24 f3z43_f3e23 f3n45 f3n48 f3n50 f3r51_f3e23 f3z50_f3e26 f3n52 f3r53_f3e27 f3z52_f3e28 f3n54 f3n55 f3r57_f3e29 f3z55_f3e30 f3x58_f3e32 f3n59 f3r61_f3e32 f3z59_f3e33 f3y62_f3e10 f3n60 f3z58_f3e32 f3z55_f3e31 f3z54_f3e29 f3n56 f3n63 f3r65_f3e29 f3z63_f3e34 f3x66_f3e35 f3y67_f3e35 f3n68 f3z66_f3e35 f3z56_f3e36 f3n64 f3n69 f3r71_f3e36 f3z69_f3e37 f3x72_f3e38 f3n73 f3r75_f3e38 f3z73_f3e39 f3y76_f3e10 f3n74 f3z72_f3e38 f3z64_f3e27 f3n70 f3r77_f3e27 f3z70_f3e40 f3n78 f3n79 f3r81_f3e40 f3z79_f3e41 f3n82 f3L83_eq f3z83_f3e42 f3l83_f3e42 f3n84 f3r85_f3e42 f3z84_f3e43 f3n86 f3x87_f3e43 f3n89 f3z87_f3e43 f3y90_f3e43 f3z86_f3e42 f3n88 f3n91 f3n93 f3r94_f3e42 f3z93_f3e45 f3n95 f3r96_f3e46 f3z95_f3e47 f3x97_f3e48 f3r98_f3e48 f3z97_f3e49 f3n99 f3z97_f3e48 f3z91_f3e42 f3z88_f3e42 f3r92_f3e42 f3z83_f3e50 f3z82_f3e44 f3z78_f3e44 f3r80_f3e44 f3z48_f3e23 f3z48_f3e51 f3z45_f3e23 f3r49_f3e23 f3z40_f3e52 f3z39_f3e25 f3z16_f3e25 f3n37 f3n100 f3r102_f3e25 f3z100_f3e53 f3n103 f3L104_eq f3z104_f3e53 f3l104_f3e53 f3n105 f3r106_f3e53 f3z105_f3e54 f3n107 f3x108_f3e54 f3n110 f3z108_f3e54 f3y111_f3e54 f3z107_f3e53 f3n109 f3n112 f3n114 f3r115_f3e53 f3z114_f3e55 f3n116 f3r117_f3e56 f3z116_f3e57 f3n118 f3r119_f3e58 f3z118_f3e59 f3x120_f3e61 f3n121 f3r123_f3e61 f3z121_f3e62 f3y124_f3e10 f3n122 f3z120_f3e61 f3z118_f3e60 f3z112_f3e53 f3z109_f3e53 f3r113_f3e53 f3z104_f3e63 f3z103_f3e25 f3z37_f3e25 f3n101 f3r125_f3e25 f3z101_f3e64 f3y126_f3e10 f3z101_f3e65 f3b_f3e10_r

end Go.Proofs.Ytdebkakkeaanaaa
