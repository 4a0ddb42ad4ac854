/-
  No cell of these rows narrows 'for every input' (looked for: loops, veiled, ifaces, maps, wideKeys, modest, calm, conditions, laid).
  DERIVED. THE GIVEN ROWS OF THIS SEAT. 10 by the template 'for every input the law returns true; each argument reads behind the call as it read before'; 0 by the template 'total and deterministic' (their statements: YtmgacgonoodkfaaTotals.lean).
  GIVEN WITH THE SEED: the statements are not yours to turn. If you find one false, say at which input.
  Laid BY PROGRAM, IN A SANDBOX (cutbox-rows.mjs): the forced cells as the released guide's own fill.sh prints them over the translation aa7fcd1c6f714ea1… (all of the seat's roots in one cut). By AI agents, Wed Nov 11 2026. No macro, syntax, notation, axiom, sorry.
-/
import Derived.Test.YtmgacgonoodkfaaChecked
import GoSem.Claim
import GoSem.ClaimJoined
import GoSem.ClaimMapViews
import Derived.JoinedTies
import Derived.KernelRfl
namespace Go.Proofs.Ytmgacgonoodkfaa
/- THE CELL 'sum', in the pinned program and in every row, IS THE sha256 OF THE DUMP (.gsa) THAT YtmgacgonoodkfaaProg.lean LOADS. Nothing in Lean hashes anything: it is a label: what it is worth is what the hold of that sum in a sandbox is worth. -/
noncomputable def Try.pinned : Pinned := { name := "ytmgacgonoodkfaa", sum := "aa7fcd1c6f714ea13387aa1b5d73b8699b20517009dec0b5661ef35d89846121", checked := Try.checked }
namespace Rows
def none {H : Type} : Left H := { results := [], args := [] }

/-- 'wapentakelaw10.WindowBounds': WHATEVER THE INPUT: true; the input reads as it did. -/
def windowBoundsSpec : ChangeSpec := { name := "windowBounds", fn := fun _ => fun
  | [d1, d2] => { results := [.lit (.bool true)], args := [d1, d2] }
  | _ => none }
def windowBoundsRow : OpenClaim := { program := "ytmgacgonoodkfaa", sum := "aa7fcd1c6f714ea13387aa1b5d73b8699b20517009dec0b5661ef35d89846121", func := "wapentake/wapentakelaw10.WindowBounds", spec := "windowBounds", unfollowed := true, recurses := true, plainKeys := false, apart := false }
def WindowBoundsSaid : Prop := windowBoundsRow.holds Try.pinned (OpenSpec.ofChange windowBoundsSpec)

/-- ITS FALSE NEIGHBOUR: 'it returns false'. Refute it at one input. -/
def windowBoundsWrong : ChangeSpec := { name := "windowBounds", fn := fun _ => fun
  | [d1, d2] => { results := [.lit (.bool false)], args := [d1, d2] }
  | _ => none }
def WindowBoundsWrongFalsely : Prop := windowBoundsRow.holds Try.pinned (OpenSpec.ofChange windowBoundsWrong)

/-- 'wapentakelaw09.SlotOne': WHATEVER THE INPUT: true; the input reads as it did. -/
def slotOneSpec : ChangeSpec := { name := "slotOne", fn := fun _ => fun
  | [d1, d2, d3] => { results := [.lit (.bool true)], args := [d1, d2, d3] }
  | _ => none }
def slotOneRow : OpenClaim := { program := "ytmgacgonoodkfaa", sum := "aa7fcd1c6f714ea13387aa1b5d73b8699b20517009dec0b5661ef35d89846121", func := "wapentake/wapentakelaw09.SlotOne", spec := "slotOne", plainKeys := false, apart := false }
def SlotOneSaid : Prop := slotOneRow.holds Try.pinned (OpenSpec.ofChange slotOneSpec)

/-- ITS FALSE NEIGHBOUR: 'it returns false'. Refute it at one input. -/
def slotOneWrong : ChangeSpec := { name := "slotOne", fn := fun _ => fun
  | [d1, d2, d3] => { results := [.lit (.bool false)], args := [d1, d2, d3] }
  | _ => none }
def SlotOneWrongFalsely : Prop := slotOneRow.holds Try.pinned (OpenSpec.ofChange slotOneWrong)

/-- 'wapentakelaw09.SlotSteps': WHATEVER THE INPUT: true; the input reads as it did. -/
def slotStepsSpec : ChangeSpec := { name := "slotSteps", fn := fun _ => fun
  | [d1, d2] => { results := [.lit (.bool true)], args := [d1, d2] }
  | _ => none }
def slotStepsRow : OpenClaim := { program := "ytmgacgonoodkfaa", sum := "aa7fcd1c6f714ea13387aa1b5d73b8699b20517009dec0b5661ef35d89846121", func := "wapentake/wapentakelaw09.SlotSteps", spec := "slotSteps", plainKeys := false, apart := false }
def SlotStepsSaid : Prop := slotStepsRow.holds Try.pinned (OpenSpec.ofChange slotStepsSpec)

/-- ITS FALSE NEIGHBOUR: 'it returns false'. Refute it at one input. -/
def slotStepsWrong : ChangeSpec := { name := "slotSteps", fn := fun _ => fun
  | [d1, d2] => { results := [.lit (.bool false)], args := [d1, d2] }
  | _ => none }
def SlotStepsWrongFalsely : Prop := slotStepsRow.holds Try.pinned (OpenSpec.ofChange slotStepsWrong)

/-- 'wapentakelaw09.SlotFirst': WHATEVER THE INPUT: true; the input reads as it did. -/
def slotFirstSpec : ChangeSpec := { name := "slotFirst", fn := fun _ => fun
  | [d1, d2, d3] => { results := [.lit (.bool true)], args := [d1, d2, d3] }
  | _ => none }
def slotFirstRow : OpenClaim := { program := "ytmgacgonoodkfaa", sum := "aa7fcd1c6f714ea13387aa1b5d73b8699b20517009dec0b5661ef35d89846121", func := "wapentake/wapentakelaw09.SlotFirst", spec := "slotFirst", plainKeys := false, apart := false }
def SlotFirstSaid : Prop := slotFirstRow.holds Try.pinned (OpenSpec.ofChange slotFirstSpec)

/-- ITS FALSE NEIGHBOUR: 'it returns false'. Refute it at one input. -/
def slotFirstWrong : ChangeSpec := { name := "slotFirst", fn := fun _ => fun
  | [d1, d2, d3] => { results := [.lit (.bool false)], args := [d1, d2, d3] }
  | _ => none }
def SlotFirstWrongFalsely : Prop := slotFirstRow.holds Try.pinned (OpenSpec.ofChange slotFirstWrong)

/-- 'wapentakelaw09.SlotNil': WHATEVER THE INPUT: true; the input reads as it did. -/
def slotNilSpec : ChangeSpec := { name := "slotNil", fn := fun _ => fun
  | [d] => { results := [.lit (.bool true)], args := [d] }
  | _ => none }
def slotNilRow : OpenClaim := { program := "ytmgacgonoodkfaa", sum := "aa7fcd1c6f714ea13387aa1b5d73b8699b20517009dec0b5661ef35d89846121", func := "wapentake/wapentakelaw09.SlotNil", spec := "slotNil", plainKeys := false, apart := false }
def SlotNilSaid : Prop := slotNilRow.holds Try.pinned (OpenSpec.ofChange slotNilSpec)

/-- ITS FALSE NEIGHBOUR: 'it returns false'. Refute it at one input. -/
def slotNilWrong : ChangeSpec := { name := "slotNil", fn := fun _ => fun
  | [d] => { results := [.lit (.bool false)], args := [d] }
  | _ => none }
def SlotNilWrongFalsely : Prop := slotNilRow.holds Try.pinned (OpenSpec.ofChange slotNilWrong)

/-- 'wapentakelaw09.SlotEnough': WHATEVER THE INPUT: true; the input reads as it did. -/
def slotEnoughSpec : ChangeSpec := { name := "slotEnough", fn := fun _ => fun
  | [d1, d2] => { results := [.lit (.bool true)], args := [d1, d2] }
  | _ => none }
def slotEnoughRow : OpenClaim := { program := "ytmgacgonoodkfaa", sum := "aa7fcd1c6f714ea13387aa1b5d73b8699b20517009dec0b5661ef35d89846121", func := "wapentake/wapentakelaw09.SlotEnough", spec := "slotEnough", plainKeys := false, apart := false }
def SlotEnoughSaid : Prop := slotEnoughRow.holds Try.pinned (OpenSpec.ofChange slotEnoughSpec)

/-- ITS FALSE NEIGHBOUR: 'it returns false'. Refute it at one input. -/
def slotEnoughWrong : ChangeSpec := { name := "slotEnough", fn := fun _ => fun
  | [d1, d2] => { results := [.lit (.bool false)], args := [d1, d2] }
  | _ => none }
def SlotEnoughWrongFalsely : Prop := slotEnoughRow.holds Try.pinned (OpenSpec.ofChange slotEnoughWrong)

/-- 'wapentakelaw10.WindowBest': WHATEVER THE INPUT: true; the input reads as it did. -/
def windowBestSpec : ChangeSpec := { name := "windowBest", fn := fun _ => fun
  | [d] => { results := [.lit (.bool true)], args := [d] }
  | _ => none }
def windowBestRow : OpenClaim := { program := "ytmgacgonoodkfaa", sum := "aa7fcd1c6f714ea13387aa1b5d73b8699b20517009dec0b5661ef35d89846121", func := "wapentake/wapentakelaw10.WindowBest", spec := "windowBest", unfollowed := true, recurses := true, plainKeys := false, apart := false }
def WindowBestSaid : Prop := windowBestRow.holds Try.pinned (OpenSpec.ofChange windowBestSpec)

/-- ITS FALSE NEIGHBOUR: 'it returns false'. Refute it at one input. -/
def windowBestWrong : ChangeSpec := { name := "windowBest", fn := fun _ => fun
  | [d] => { results := [.lit (.bool false)], args := [d] }
  | _ => none }
def WindowBestWrongFalsely : Prop := windowBestRow.holds Try.pinned (OpenSpec.ofChange windowBestWrong)

/-- 'wapentakelaw10.WindowSteps': WHATEVER THE INPUT: true; the input reads as it did. -/
def windowStepsSpec : ChangeSpec := { name := "windowSteps", fn := fun _ => fun
  | [d1, d2, d3] => { results := [.lit (.bool true)], args := [d1, d2, d3] }
  | _ => none }
def windowStepsRow : OpenClaim := { program := "ytmgacgonoodkfaa", sum := "aa7fcd1c6f714ea13387aa1b5d73b8699b20517009dec0b5661ef35d89846121", func := "wapentake/wapentakelaw10.WindowSteps", spec := "windowSteps", unfollowed := true, recurses := true, plainKeys := false, apart := false }
def WindowStepsSaid : Prop := windowStepsRow.holds Try.pinned (OpenSpec.ofChange windowStepsSpec)

/-- ITS FALSE NEIGHBOUR: 'it returns false'. Refute it at one input. -/
def windowStepsWrong : ChangeSpec := { name := "windowSteps", fn := fun _ => fun
  | [d1, d2, d3] => { results := [.lit (.bool false)], args := [d1, d2, d3] }
  | _ => none }
def WindowStepsWrongFalsely : Prop := windowStepsRow.holds Try.pinned (OpenSpec.ofChange windowStepsWrong)

/-- 'wapentakelaw10.WindowNil': WHATEVER THE INPUT: true; the input reads as it did. -/
def windowNilSpec : ChangeSpec := { name := "windowNil", fn := fun _ => fun
  | [d1, d2] => { results := [.lit (.bool true)], args := [d1, d2] }
  | _ => none }
def windowNilRow : OpenClaim := { program := "ytmgacgonoodkfaa", sum := "aa7fcd1c6f714ea13387aa1b5d73b8699b20517009dec0b5661ef35d89846121", func := "wapentake/wapentakelaw10.WindowNil", spec := "windowNil", unfollowed := true, recurses := true, plainKeys := false, apart := false }
def WindowNilSaid : Prop := windowNilRow.holds Try.pinned (OpenSpec.ofChange windowNilSpec)

/-- ITS FALSE NEIGHBOUR: 'it returns false'. Refute it at one input. -/
def windowNilWrong : ChangeSpec := { name := "windowNil", fn := fun _ => fun
  | [d1, d2] => { results := [.lit (.bool false)], args := [d1, d2] }
  | _ => none }
def WindowNilWrongFalsely : Prop := windowNilRow.holds Try.pinned (OpenSpec.ofChange windowNilWrong)

/-- 'wapentakelaw10.WindowKeeps': WHATEVER THE INPUT: true; the input reads as it did. -/
def windowKeepsSpec : ChangeSpec := { name := "windowKeeps", fn := fun _ => fun
  | [d1, d2, d3] => { results := [.lit (.bool true)], args := [d1, d2, d3] }
  | _ => none }
def windowKeepsRow : OpenClaim := { program := "ytmgacgonoodkfaa", sum := "aa7fcd1c6f714ea13387aa1b5d73b8699b20517009dec0b5661ef35d89846121", func := "wapentake/wapentakelaw10.WindowKeeps", spec := "windowKeeps", unfollowed := true, recurses := true, plainKeys := false, apart := false }
def WindowKeepsSaid : Prop := windowKeepsRow.holds Try.pinned (OpenSpec.ofChange windowKeepsSpec)

/-- ITS FALSE NEIGHBOUR: 'it returns false'. Refute it at one input. -/
def windowKeepsWrong : ChangeSpec := { name := "windowKeeps", fn := fun _ => fun
  | [d1, d2, d3] => { results := [.lit (.bool false)], args := [d1, d2, d3] }
  | _ => none }
def WindowKeepsWrongFalsely : Prop := windowKeepsRow.holds Try.pinned (OpenSpec.ofChange windowKeepsWrong)

/- THE SECOND FORM. 'bulk': how many values and letters a reading holds, each counted each time it is reached (what is shared counts as often as it is met; a slice's spare places count too). A statement '..UptoSaid' is the law's where the arguments, and the package variables that the reading takes, are together of bulk at most 1048576: NARROWER than '..Said'. Prove '..Said' where nothing that the law and all that it calls make is longer than what came in: it says more and counts as full. Else prove '..UptoSaid'. A law counts once. -/
mutual
def uptoBulk {H : Type} : DataW H → Nat
  | .lit (.string bytes) => bytes.length + 1
  | .lit _ => 1
  | .nil => 1
  | .ptr d => uptoBulk d + 1
  | .slice elems spare => uptoBulkAll elems + uptoBulkAll spare + 1
  | .agg parts => uptoBulkAll parts + 1
  | .iface _ d => uptoBulk d + 1
  | .map entries => uptoBulkEntries entries + 1
  | .held _ => 1
def uptoBulkAll {H : Type} : List (DataW H) → Nat
  | [] => 0
  | d :: r => uptoBulk d + uptoBulkAll r
def uptoBulkEntries {H : Type} : List (Lit × DataW H) → Nat
  | [] => 0
  | x :: r => uptoBulkEntry x + uptoBulkEntries r
def uptoBulkEntry {H : Type} : Lit × DataW H → Nat
  | (.string bytes, d) => bytes.length + uptoBulk d + 1
  | (_, d) => uptoBulk d + 1
 end
def uptoSmall : (H : Type) → List (DataW H) → Bool := fun _ ds => decide (uptoBulkAll ds ≤ 1048576)
def OpenSpec.upto (s : _root_.Go.ChangeSpec) : _root_.Go.OpenSpec := { _root_.Go.OpenSpec.ofChange s with cond := some uptoSmall }

/-- 'wapentakelaw10.WindowBounds', WHERE WHAT IT READS IS OF BULK AT MOST 1048576: true; the input reads as it did. -/
def windowBoundsUptoRow : OpenClaim := { program := "ytmgacgonoodkfaa", sum := "aa7fcd1c6f714ea13387aa1b5d73b8699b20517009dec0b5661ef35d89846121", func := "wapentake/wapentakelaw10.WindowBounds", spec := "windowBounds", unfollowed := true, recurses := true, plainKeys := false, apart := false, narrowed := true }
def WindowBoundsUptoSaid : Prop := windowBoundsUptoRow.holds Try.pinned (OpenSpec.upto windowBoundsSpec)

/-- 'wapentakelaw09.SlotOne', WHERE WHAT IT READS IS OF BULK AT MOST 1048576: true; the input reads as it did. -/
def slotOneUptoRow : OpenClaim := { program := "ytmgacgonoodkfaa", sum := "aa7fcd1c6f714ea13387aa1b5d73b8699b20517009dec0b5661ef35d89846121", func := "wapentake/wapentakelaw09.SlotOne", spec := "slotOne", plainKeys := false, apart := false, narrowed := true }
def SlotOneUptoSaid : Prop := slotOneUptoRow.holds Try.pinned (OpenSpec.upto slotOneSpec)

/-- 'wapentakelaw09.SlotSteps', WHERE WHAT IT READS IS OF BULK AT MOST 1048576: true; the input reads as it did. -/
def slotStepsUptoRow : OpenClaim := { program := "ytmgacgonoodkfaa", sum := "aa7fcd1c6f714ea13387aa1b5d73b8699b20517009dec0b5661ef35d89846121", func := "wapentake/wapentakelaw09.SlotSteps", spec := "slotSteps", plainKeys := false, apart := false, narrowed := true }
def SlotStepsUptoSaid : Prop := slotStepsUptoRow.holds Try.pinned (OpenSpec.upto slotStepsSpec)

/-- 'wapentakelaw09.SlotFirst', WHERE WHAT IT READS IS OF BULK AT MOST 1048576: true; the input reads as it did. -/
def slotFirstUptoRow : OpenClaim := { program := "ytmgacgonoodkfaa", sum := "aa7fcd1c6f714ea13387aa1b5d73b8699b20517009dec0b5661ef35d89846121", func := "wapentake/wapentakelaw09.SlotFirst", spec := "slotFirst", plainKeys := false, apart := false, narrowed := true }
def SlotFirstUptoSaid : Prop := slotFirstUptoRow.holds Try.pinned (OpenSpec.upto slotFirstSpec)

/-- 'wapentakelaw09.SlotNil', WHERE WHAT IT READS IS OF BULK AT MOST 1048576: true; the input reads as it did. -/
def slotNilUptoRow : OpenClaim := { program := "ytmgacgonoodkfaa", sum := "aa7fcd1c6f714ea13387aa1b5d73b8699b20517009dec0b5661ef35d89846121", func := "wapentake/wapentakelaw09.SlotNil", spec := "slotNil", plainKeys := false, apart := false, narrowed := true }
def SlotNilUptoSaid : Prop := slotNilUptoRow.holds Try.pinned (OpenSpec.upto slotNilSpec)

/-- 'wapentakelaw09.SlotEnough', WHERE WHAT IT READS IS OF BULK AT MOST 1048576: true; the input reads as it did. -/
def slotEnoughUptoRow : OpenClaim := { program := "ytmgacgonoodkfaa", sum := "aa7fcd1c6f714ea13387aa1b5d73b8699b20517009dec0b5661ef35d89846121", func := "wapentake/wapentakelaw09.SlotEnough", spec := "slotEnough", plainKeys := false, apart := false, narrowed := true }
def SlotEnoughUptoSaid : Prop := slotEnoughUptoRow.holds Try.pinned (OpenSpec.upto slotEnoughSpec)

/-- 'wapentakelaw10.WindowBest', WHERE WHAT IT READS IS OF BULK AT MOST 1048576: true; the input reads as it did. -/
def windowBestUptoRow : OpenClaim := { program := "ytmgacgonoodkfaa", sum := "aa7fcd1c6f714ea13387aa1b5d73b8699b20517009dec0b5661ef35d89846121", func := "wapentake/wapentakelaw10.WindowBest", spec := "windowBest", unfollowed := true, recurses := true, plainKeys := false, apart := false, narrowed := true }
def WindowBestUptoSaid : Prop := windowBestUptoRow.holds Try.pinned (OpenSpec.upto windowBestSpec)

/-- 'wapentakelaw10.WindowSteps', WHERE WHAT IT READS IS OF BULK AT MOST 1048576: true; the input reads as it did. -/
def windowStepsUptoRow : OpenClaim := { program := "ytmgacgonoodkfaa", sum := "aa7fcd1c6f714ea13387aa1b5d73b8699b20517009dec0b5661ef35d89846121", func := "wapentake/wapentakelaw10.WindowSteps", spec := "windowSteps", unfollowed := true, recurses := true, plainKeys := false, apart := false, narrowed := true }
def WindowStepsUptoSaid : Prop := windowStepsUptoRow.holds Try.pinned (OpenSpec.upto windowStepsSpec)

/-- 'wapentakelaw10.WindowNil', WHERE WHAT IT READS IS OF BULK AT MOST 1048576: true; the input reads as it did. -/
def windowNilUptoRow : OpenClaim := { program := "ytmgacgonoodkfaa", sum := "aa7fcd1c6f714ea13387aa1b5d73b8699b20517009dec0b5661ef35d89846121", func := "wapentake/wapentakelaw10.WindowNil", spec := "windowNil", unfollowed := true, recurses := true, plainKeys := false, apart := false, narrowed := true }
def WindowNilUptoSaid : Prop := windowNilUptoRow.holds Try.pinned (OpenSpec.upto windowNilSpec)

/-- 'wapentakelaw10.WindowKeeps', WHERE WHAT IT READS IS OF BULK AT MOST 1048576: true; the input reads as it did. -/
def windowKeepsUptoRow : OpenClaim := { program := "ytmgacgonoodkfaa", sum := "aa7fcd1c6f714ea13387aa1b5d73b8699b20517009dec0b5661ef35d89846121", func := "wapentake/wapentakelaw10.WindowKeeps", spec := "windowKeeps", unfollowed := true, recurses := true, plainKeys := false, apart := false, narrowed := true }
def WindowKeepsUptoSaid : Prop := windowKeepsUptoRow.holds Try.pinned (OpenSpec.upto windowKeepsSpec)

end Rows
end Go.Proofs.Ytmgacgonoodkfaa
