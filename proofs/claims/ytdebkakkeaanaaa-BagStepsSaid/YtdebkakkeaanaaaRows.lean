/-
  No cell of these rows narrows 'for every input' (looked for: loops, veiled, ifaces, maps, wideKeys, modest, calm, conditions, laid).
  DERIVED. THE GIVEN ROWS OF THIS SEAT. 5 by the template 'for every input the law returns true; each argument reads behind the call as it read before'; 0 by the template 'total and deterministic' (their statements: YtdebkakkeaanaaaTotals.lean).
  GIVEN WITH THE SEED: the statements are not yours to turn. If you find one false, say at which input.
  Laid BY PROGRAM, IN A SANDBOX (cutbox-rows.mjs): the forced cells as the released guide's own fill.sh prints them over the translation 3f58f3a60d991634… (all of the seat's roots in one cut). By AI agents, Wed Nov 11 2026. No macro, syntax, notation, axiom, sorry.
-/
import Derived.Test.YtdebkakkeaanaaaChecked
import GoSem.Claim
import GoSem.ClaimJoined
import GoSem.ClaimMapViews
import Derived.JoinedTies
import Derived.KernelRfl
namespace Go.Proofs.Ytdebkakkeaanaaa
/- THE CELL 'sum', in the pinned program and in every row, IS THE sha256 OF THE DUMP (.gsa) THAT YtdebkakkeaanaaaProg.lean LOADS. Nothing in Lean hashes anything: it is a label: what it is worth is what the hold of that sum in a sandbox is worth. -/
noncomputable def Try.pinned : Pinned := { name := "ytdebkakkeaanaaa", sum := "3f58f3a60d9916346f38711bf11e2e452217cb99ffc23166eda99969f802d18b", checked := Try.checked }
namespace Rows
def none {H : Type} : Left H := { results := [], args := [] }

/-- 'wapentakelaw05.BagKeeps': WHATEVER THE INPUT: true; the input reads as it did. -/
def bagKeepsSpec : ChangeSpec := { name := "bagKeeps", fn := fun _ => fun
  | [d1, d2] => { results := [.lit (.bool true)], args := [d1, d2] }
  | _ => none }
def bagKeepsRow : OpenClaim := { program := "ytdebkakkeaanaaa", sum := "3f58f3a60d9916346f38711bf11e2e452217cb99ffc23166eda99969f802d18b", func := "wapentake/wapentakelaw05.BagKeeps", spec := "bagKeeps", apart := false }
def BagKeepsSaid : Prop := bagKeepsRow.holds Try.pinned (OpenSpec.ofChange bagKeepsSpec)

/-- ITS FALSE NEIGHBOUR: 'it returns false'. Refute it at one input. -/
def bagKeepsWrong : ChangeSpec := { name := "bagKeeps", fn := fun _ => fun
  | [d1, d2] => { results := [.lit (.bool false)], args := [d1, d2] }
  | _ => none }
def BagKeepsWrongFalsely : Prop := bagKeepsRow.holds Try.pinned (OpenSpec.ofChange bagKeepsWrong)

/-- 'wapentakelaw05.BagFull': WHATEVER THE INPUT: true; the input reads as it did. -/
def bagFullSpec : ChangeSpec := { name := "bagFull", fn := fun _ => fun
  | [d] => { results := [.lit (.bool true)], args := [d] }
  | _ => none }
def bagFullRow : OpenClaim := { program := "ytdebkakkeaanaaa", sum := "3f58f3a60d9916346f38711bf11e2e452217cb99ffc23166eda99969f802d18b", func := "wapentake/wapentakelaw05.BagFull", spec := "bagFull", apart := false }
def BagFullSaid : Prop := bagFullRow.holds Try.pinned (OpenSpec.ofChange bagFullSpec)

/-- ITS FALSE NEIGHBOUR: 'it returns false'. Refute it at one input. -/
def bagFullWrong : ChangeSpec := { name := "bagFull", fn := fun _ => fun
  | [d] => { results := [.lit (.bool false)], args := [d] }
  | _ => none }
def BagFullWrongFalsely : Prop := bagFullRow.holds Try.pinned (OpenSpec.ofChange bagFullWrong)

/-- 'wapentakelaw05.BagBetween': WHATEVER THE INPUT: true; the input reads as it did. -/
def bagBetweenSpec : ChangeSpec := { name := "bagBetween", fn := fun _ => fun
  | [d1, d2, d3] => { results := [.lit (.bool true)], args := [d1, d2, d3] }
  | _ => none }
def bagBetweenRow : OpenClaim := { program := "ytdebkakkeaanaaa", sum := "3f58f3a60d9916346f38711bf11e2e452217cb99ffc23166eda99969f802d18b", func := "wapentake/wapentakelaw05.BagBetween", spec := "bagBetween", apart := false }
def BagBetweenSaid : Prop := bagBetweenRow.holds Try.pinned (OpenSpec.ofChange bagBetweenSpec)

/-- ITS FALSE NEIGHBOUR: 'it returns false'. Refute it at one input. -/
def bagBetweenWrong : ChangeSpec := { name := "bagBetween", fn := fun _ => fun
  | [d1, d2, d3] => { results := [.lit (.bool false)], args := [d1, d2, d3] }
  | _ => none }
def BagBetweenWrongFalsely : Prop := bagBetweenRow.holds Try.pinned (OpenSpec.ofChange bagBetweenWrong)

/-- 'wapentakelaw05.BagSteps': WHATEVER THE INPUT: true; the input reads as it did. -/
def bagStepsSpec : ChangeSpec := { name := "bagSteps", fn := fun _ => fun
  | [d1, d2] => { results := [.lit (.bool true)], args := [d1, d2] }
  | _ => none }
def bagStepsRow : OpenClaim := { program := "ytdebkakkeaanaaa", sum := "3f58f3a60d9916346f38711bf11e2e452217cb99ffc23166eda99969f802d18b", func := "wapentake/wapentakelaw05.BagSteps", spec := "bagSteps", apart := false }
def BagStepsSaid : Prop := bagStepsRow.holds Try.pinned (OpenSpec.ofChange bagStepsSpec)

/-- ITS FALSE NEIGHBOUR: 'it returns false'. Refute it at one input. -/
def bagStepsWrong : ChangeSpec := { name := "bagSteps", fn := fun _ => fun
  | [d1, d2] => { results := [.lit (.bool false)], args := [d1, d2] }
  | _ => none }
def BagStepsWrongFalsely : Prop := bagStepsRow.holds Try.pinned (OpenSpec.ofChange bagStepsWrong)

/-- 'wapentakelaw05.BagNil': WHATEVER THE INPUT: true; the input reads as it did. -/
def bagNilSpec : ChangeSpec := { name := "bagNil", fn := fun _ => fun
  | [d] => { results := [.lit (.bool true)], args := [d] }
  | _ => none }
def bagNilRow : OpenClaim := { program := "ytdebkakkeaanaaa", sum := "3f58f3a60d9916346f38711bf11e2e452217cb99ffc23166eda99969f802d18b", func := "wapentake/wapentakelaw05.BagNil", spec := "bagNil", apart := false }
def BagNilSaid : Prop := bagNilRow.holds Try.pinned (OpenSpec.ofChange bagNilSpec)

/-- ITS FALSE NEIGHBOUR: 'it returns false'. Refute it at one input. -/
def bagNilWrong : ChangeSpec := { name := "bagNil", fn := fun _ => fun
  | [d] => { results := [.lit (.bool false)], args := [d] }
  | _ => none }
def BagNilWrongFalsely : Prop := bagNilRow.holds Try.pinned (OpenSpec.ofChange bagNilWrong)

/- THE SECOND FORM. 'bulk': how many values and letters a reading holds, each counted each time it is reached (what is shared counts as often as it is met; a slice's spare places count too). A statement '..UptoSaid' is the law's where the arguments, and the package variables that the reading takes, are together of bulk at most 1048576: NARROWER than '..Said'. Prove '..Said' where nothing that the law and all that it calls make is longer than what came in: it says more and counts as full. Else prove '..UptoSaid'. A law counts once. -/
mutual
def uptoBulk {H : Type} : DataW H → Nat
  | .lit (.string bytes) => bytes.length + 1
  | .lit _ => 1
  | .nil => 1
  | .ptr d => uptoBulk d + 1
  | .slice elems spare => uptoBulkAll elems + uptoBulkAll spare + 1
  | .agg parts => uptoBulkAll parts + 1
  | .iface _ d => uptoBulk d + 1
  | .map entries => uptoBulkEntries entries + 1
  | .held _ => 1
def uptoBulkAll {H : Type} : List (DataW H) → Nat
  | [] => 0
  | d :: r => uptoBulk d + uptoBulkAll r
def uptoBulkEntries {H : Type} : List (Lit × DataW H) → Nat
  | [] => 0
  | x :: r => uptoBulkEntry x + uptoBulkEntries r
def uptoBulkEntry {H : Type} : Lit × DataW H → Nat
  | (.string bytes, d) => bytes.length + uptoBulk d + 1
  | (_, d) => uptoBulk d + 1
 end
def uptoSmall : (H : Type) → List (DataW H) → Bool := fun _ ds => decide (uptoBulkAll ds ≤ 1048576)
def OpenSpec.upto (s : _root_.Go.ChangeSpec) : _root_.Go.OpenSpec := { _root_.Go.OpenSpec.ofChange s with cond := some uptoSmall }

/-- 'wapentakelaw05.BagKeeps', WHERE WHAT IT READS IS OF BULK AT MOST 1048576: true; the input reads as it did. -/
def bagKeepsUptoRow : OpenClaim := { program := "ytdebkakkeaanaaa", sum := "3f58f3a60d9916346f38711bf11e2e452217cb99ffc23166eda99969f802d18b", func := "wapentake/wapentakelaw05.BagKeeps", spec := "bagKeeps", apart := false, narrowed := true }
def BagKeepsUptoSaid : Prop := bagKeepsUptoRow.holds Try.pinned (OpenSpec.upto bagKeepsSpec)

/-- 'wapentakelaw05.BagFull', WHERE WHAT IT READS IS OF BULK AT MOST 1048576: true; the input reads as it did. -/
def bagFullUptoRow : OpenClaim := { program := "ytdebkakkeaanaaa", sum := "3f58f3a60d9916346f38711bf11e2e452217cb99ffc23166eda99969f802d18b", func := "wapentake/wapentakelaw05.BagFull", spec := "bagFull", apart := false, narrowed := true }
def BagFullUptoSaid : Prop := bagFullUptoRow.holds Try.pinned (OpenSpec.upto bagFullSpec)

/-- 'wapentakelaw05.BagBetween', WHERE WHAT IT READS IS OF BULK AT MOST 1048576: true; the input reads as it did. -/
def bagBetweenUptoRow : OpenClaim := { program := "ytdebkakkeaanaaa", sum := "3f58f3a60d9916346f38711bf11e2e452217cb99ffc23166eda99969f802d18b", func := "wapentake/wapentakelaw05.BagBetween", spec := "bagBetween", apart := false, narrowed := true }
def BagBetweenUptoSaid : Prop := bagBetweenUptoRow.holds Try.pinned (OpenSpec.upto bagBetweenSpec)

/-- 'wapentakelaw05.BagSteps', WHERE WHAT IT READS IS OF BULK AT MOST 1048576: true; the input reads as it did. -/
def bagStepsUptoRow : OpenClaim := { program := "ytdebkakkeaanaaa", sum := "3f58f3a60d9916346f38711bf11e2e452217cb99ffc23166eda99969f802d18b", func := "wapentake/wapentakelaw05.BagSteps", spec := "bagSteps", apart := false, narrowed := true }
def BagStepsUptoSaid : Prop := bagStepsUptoRow.holds Try.pinned (OpenSpec.upto bagStepsSpec)

/-- 'wapentakelaw05.BagNil', WHERE WHAT IT READS IS OF BULK AT MOST 1048576: true; the input reads as it did. -/
def bagNilUptoRow : OpenClaim := { program := "ytdebkakkeaanaaa", sum := "3f58f3a60d9916346f38711bf11e2e452217cb99ffc23166eda99969f802d18b", func := "wapentake/wapentakelaw05.BagNil", spec := "bagNil", apart := false, narrowed := true }
def BagNilUptoSaid : Prop := bagNilUptoRow.holds Try.pinned (OpenSpec.upto bagNilSpec)

end Rows
end Go.Proofs.Ytdebkakkeaanaaa
