/- No function of the program starts a goroutine. -/
import Derived.Test.YtnjhcfcnpapaiaaGreatDoorCards
import Derived.KernelRfl
import Derived.Test.YtnjhcfcnpapaiaaGreatDoorTBRow
import Derived.Test.YtnjhcfcnpapaiaaGreatDoorTBmain
namespace Go.Proofs.YtnjhcfcnpapaiaaGreatDoor
open Go
set_option maxRecDepth 100000
theorem none_goes : Tryz.pinned.checked.prog.funcs.any Func.goes = false := by kernel_rfl
theorem goes_none {P : Program} (h : P.funcs.any Func.goes = false) (f : FuncId) : P.goes f = false := by
  unfold Program.goes
  rw [h, Bool.and_false, Bool.or_false]
  rw [List.any_eq_false]
  intro g _
  cases hg : P.funcs[g]? with
  | none => simp
  | some fn =>
    have := Array.any_eq_false.1 h
    obtain ⟨hlt, he⟩ := Array.getElem?_eq_some_iff.1 hg
    have := this g hlt
    rw [he] at this
    simpa using this
theorem goesBy_none {P : Program} (h : P.funcs.any Func.goes = false) (c : OpenClaim) : c.goesBy P = false := by
  unfold OpenClaim.goesBy Program.goesAt Program.goesFrom
  have h1 : (P.funcNamed c.func).any P.goes = false := by
    cases P.funcNamed c.func with
    | none => rfl
    | some f => exact goes_none h f
  have h2 : P.inits.toList.any P.goes = false := by
    rw [List.any_eq_false]
    intro f _
    rw [goes_none h f]; simp
  rw [h1, h2]
  cases c.start <;> rfl
theorem taleChoices_goes : false = Rows.taleChoicesRow.goesBy Tryz.pinned.checked.prog := (goesBy_none none_goes _).symm
theorem taleBack_goes : false = Rows.taleBackRow.goesBy Tryz.pinned.checked.prog := (goesBy_none none_goes _).symm
end Go.Proofs.YtnjhcfcnpapaiaaGreatDoor

namespace Go.Proofs.YtnjhcfcnpapaiaaGreatDoor
open Go
set_option maxRecDepth 100000
/-- The tied card. -/
theorem taleBack_holds : Rows.TaleBackCardSaid :=
  Claim7.holds_tied_plain_at .later [] [.data, .data, .data, .sentinel, .sentinel, .data, .data] true Rows.taleBackCard.stood.harness true TaleBack.said (fun _ h => by cases h) taleBack_wf (fun _ h => by cases h) taleBack_row_tie rfl ⟨rfl, rfl⟩ taleBack_main rfl TaleBack.plain taleBack_goes
#print axioms taleBack_holds
end Go.Proofs.YtnjhcfcnpapaiaaGreatDoor
