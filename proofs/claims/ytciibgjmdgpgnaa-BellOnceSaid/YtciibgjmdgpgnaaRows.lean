/-
  No cell of these rows narrows 'for every input' (looked for: loops, veiled, ifaces, maps, wideKeys, modest, calm, conditions, laid).
  DERIVED. THE GIVEN ROWS OF THIS SEAT. 4 by the template 'for every input the law returns true; each argument reads behind the call as it read before'; 0 by the template 'total and deterministic' (their statements: YtciibgjmdgpgnaaTotals.lean).
  GIVEN WITH THE SEED: the statements are not yours to turn. If you find one false, say at which input.
  Laid BY PROGRAM, IN A SANDBOX (cutbox-rows.mjs): the forced cells as the released guide's own fill.sh prints them over the translation 82febfb31869b70c… (all of the seat's roots in one cut). By AI agents, Wed Nov 11 2026. No macro, syntax, notation, axiom, sorry.
-/
import Derived.Test.YtciibgjmdgpgnaaChecked
import GoSem.Claim
import GoSem.ClaimJoined
import GoSem.ClaimMapViews
import Derived.JoinedTies
import Derived.KernelRfl
namespace Go.Proofs.Ytciibgjmdgpgnaa
/- THE CELL 'sum', in the pinned program and in every row, IS THE sha256 OF THE DUMP (.gsa) THAT YtciibgjmdgpgnaaProg.lean LOADS. Nothing in Lean hashes anything: it is a label: what it is worth is what the hold of that sum in a sandbox is worth. -/
noncomputable def Try.pinned : Pinned := { name := "ytciibgjmdgpgnaa", sum := "82febfb31869b70cca86592b00f9275cd78f3341ca7bfdebed0ead3b3a20e1c6", checked := Try.checked }
namespace Rows
def none {H : Type} : Left H := { results := [], args := [] }

/-- 'wapentakelaw06.BellDoubles': WHATEVER THE INPUT: true; the input reads as it did. -/
def bellDoublesSpec : ChangeSpec := { name := "bellDoubles", fn := fun _ => fun
  | [d1, d2] => { results := [.lit (.bool true)], args := [d1, d2] }
  | _ => none }
def bellDoublesRow : OpenClaim := { program := "ytciibgjmdgpgnaa", sum := "82febfb31869b70cca86592b00f9275cd78f3341ca7bfdebed0ead3b3a20e1c6", func := "wapentake/wapentakelaw06.BellDoubles", spec := "bellDoubles", unfollowed := true, recurses := true, apart := false }
def BellDoublesSaid : Prop := bellDoublesRow.holds Try.pinned (OpenSpec.ofChange bellDoublesSpec)

/-- ITS FALSE NEIGHBOUR: 'it returns false'. Refute it at one input. -/
def bellDoublesWrong : ChangeSpec := { name := "bellDoubles", fn := fun _ => fun
  | [d1, d2] => { results := [.lit (.bool false)], args := [d1, d2] }
  | _ => none }
def BellDoublesWrongFalsely : Prop := bellDoublesRow.holds Try.pinned (OpenSpec.ofChange bellDoublesWrong)

/-- 'wapentakelaw06.BellOnce': WHATEVER THE INPUT: true; the input reads as it did. -/
def bellOnceSpec : ChangeSpec := { name := "bellOnce", fn := fun _ => fun
  | [d] => { results := [.lit (.bool true)], args := [d] }
  | _ => none }
def bellOnceRow : OpenClaim := { program := "ytciibgjmdgpgnaa", sum := "82febfb31869b70cca86592b00f9275cd78f3341ca7bfdebed0ead3b3a20e1c6", func := "wapentake/wapentakelaw06.BellOnce", spec := "bellOnce", unfollowed := true, recurses := true, apart := false }
def BellOnceSaid : Prop := bellOnceRow.holds Try.pinned (OpenSpec.ofChange bellOnceSpec)

/-- ITS FALSE NEIGHBOUR: 'it returns false'. Refute it at one input. -/
def bellOnceWrong : ChangeSpec := { name := "bellOnce", fn := fun _ => fun
  | [d] => { results := [.lit (.bool false)], args := [d] }
  | _ => none }
def BellOnceWrongFalsely : Prop := bellOnceRow.holds Try.pinned (OpenSpec.ofChange bellOnceWrong)

/-- 'wapentakelaw06.BellSteps': WHATEVER THE INPUT: true; the input reads as it did. -/
def bellStepsSpec : ChangeSpec := { name := "bellSteps", fn := fun _ => fun
  | [d] => { results := [.lit (.bool true)], args := [d] }
  | _ => none }
def bellStepsRow : OpenClaim := { program := "ytciibgjmdgpgnaa", sum := "82febfb31869b70cca86592b00f9275cd78f3341ca7bfdebed0ead3b3a20e1c6", func := "wapentake/wapentakelaw06.BellSteps", spec := "bellSteps", unfollowed := true, recurses := true, apart := false }
def BellStepsSaid : Prop := bellStepsRow.holds Try.pinned (OpenSpec.ofChange bellStepsSpec)

/-- ITS FALSE NEIGHBOUR: 'it returns false'. Refute it at one input. -/
def bellStepsWrong : ChangeSpec := { name := "bellSteps", fn := fun _ => fun
  | [d] => { results := [.lit (.bool false)], args := [d] }
  | _ => none }
def BellStepsWrongFalsely : Prop := bellStepsRow.holds Try.pinned (OpenSpec.ofChange bellStepsWrong)

/-- 'wapentakelaw06.BellNil': WHATEVER THE INPUT: true; the input reads as it did. -/
def bellNilSpec : ChangeSpec := { name := "bellNil", fn := fun _ => fun
  | [d1, d2] => { results := [.lit (.bool true)], args := [d1, d2] }
  | _ => none }
def bellNilRow : OpenClaim := { program := "ytciibgjmdgpgnaa", sum := "82febfb31869b70cca86592b00f9275cd78f3341ca7bfdebed0ead3b3a20e1c6", func := "wapentake/wapentakelaw06.BellNil", spec := "bellNil", unfollowed := true, recurses := true, apart := false }
def BellNilSaid : Prop := bellNilRow.holds Try.pinned (OpenSpec.ofChange bellNilSpec)

/-- ITS FALSE NEIGHBOUR: 'it returns false'. Refute it at one input. -/
def bellNilWrong : ChangeSpec := { name := "bellNil", fn := fun _ => fun
  | [d1, d2] => { results := [.lit (.bool false)], args := [d1, d2] }
  | _ => none }
def BellNilWrongFalsely : Prop := bellNilRow.holds Try.pinned (OpenSpec.ofChange bellNilWrong)

/- THE SECOND FORM. 'bulk': how many values and letters a reading holds, each counted each time it is reached (what is shared counts as often as it is met; a slice's spare places count too). A statement '..UptoSaid' is the law's where the arguments, and the package variables that the reading takes, are together of bulk at most 1048576: NARROWER than '..Said'. Prove '..Said' where nothing that the law and all that it calls make is longer than what came in: it says more and counts as full. Else prove '..UptoSaid'. A law counts once. -/
mutual
def uptoBulk {H : Type} : DataW H → Nat
  | .lit (.string bytes) => bytes.length + 1
  | .lit _ => 1
  | .nil => 1
  | .ptr d => uptoBulk d + 1
  | .slice elems spare => uptoBulkAll elems + uptoBulkAll spare + 1
  | .agg parts => uptoBulkAll parts + 1
  | .iface _ d => uptoBulk d + 1
  | .map entries => uptoBulkEntries entries + 1
  | .held _ => 1
def uptoBulkAll {H : Type} : List (DataW H) → Nat
  | [] => 0
  | d :: r => uptoBulk d + uptoBulkAll r
def uptoBulkEntries {H : Type} : List (Lit × DataW H) → Nat
  | [] => 0
  | x :: r => uptoBulkEntry x + uptoBulkEntries r
def uptoBulkEntry {H : Type} : Lit × DataW H → Nat
  | (.string bytes, d) => bytes.length + uptoBulk d + 1
  | (_, d) => uptoBulk d + 1
 end
def uptoSmall : (H : Type) → List (DataW H) → Bool := fun _ ds => decide (uptoBulkAll ds ≤ 1048576)
def OpenSpec.upto (s : _root_.Go.ChangeSpec) : _root_.Go.OpenSpec := { _root_.Go.OpenSpec.ofChange s with cond := some uptoSmall }

/-- 'wapentakelaw06.BellDoubles', WHERE WHAT IT READS IS OF BULK AT MOST 1048576: true; the input reads as it did. -/
def bellDoublesUptoRow : OpenClaim := { program := "ytciibgjmdgpgnaa", sum := "82febfb31869b70cca86592b00f9275cd78f3341ca7bfdebed0ead3b3a20e1c6", func := "wapentake/wapentakelaw06.BellDoubles", spec := "bellDoubles", unfollowed := true, recurses := true, apart := false, narrowed := true }
def BellDoublesUptoSaid : Prop := bellDoublesUptoRow.holds Try.pinned (OpenSpec.upto bellDoublesSpec)

/-- 'wapentakelaw06.BellOnce', WHERE WHAT IT READS IS OF BULK AT MOST 1048576: true; the input reads as it did. -/
def bellOnceUptoRow : OpenClaim := { program := "ytciibgjmdgpgnaa", sum := "82febfb31869b70cca86592b00f9275cd78f3341ca7bfdebed0ead3b3a20e1c6", func := "wapentake/wapentakelaw06.BellOnce", spec := "bellOnce", unfollowed := true, recurses := true, apart := false, narrowed := true }
def BellOnceUptoSaid : Prop := bellOnceUptoRow.holds Try.pinned (OpenSpec.upto bellOnceSpec)

/-- 'wapentakelaw06.BellSteps', WHERE WHAT IT READS IS OF BULK AT MOST 1048576: true; the input reads as it did. -/
def bellStepsUptoRow : OpenClaim := { program := "ytciibgjmdgpgnaa", sum := "82febfb31869b70cca86592b00f9275cd78f3341ca7bfdebed0ead3b3a20e1c6", func := "wapentake/wapentakelaw06.BellSteps", spec := "bellSteps", unfollowed := true, recurses := true, apart := false, narrowed := true }
def BellStepsUptoSaid : Prop := bellStepsUptoRow.holds Try.pinned (OpenSpec.upto bellStepsSpec)

/-- 'wapentakelaw06.BellNil', WHERE WHAT IT READS IS OF BULK AT MOST 1048576: true; the input reads as it did. -/
def bellNilUptoRow : OpenClaim := { program := "ytciibgjmdgpgnaa", sum := "82febfb31869b70cca86592b00f9275cd78f3341ca7bfdebed0ead3b3a20e1c6", func := "wapentake/wapentakelaw06.BellNil", spec := "bellNil", unfollowed := true, recurses := true, apart := false, narrowed := true }
def BellNilUptoSaid : Prop := bellNilUptoRow.holds Try.pinned (OpenSpec.upto bellNilSpec)

end Rows
end Go.Proofs.Ytciibgjmdgpgnaa
