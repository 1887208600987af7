/-
  DERIVED. GIVEN WITH THE SEED: THE CARDS: each row of YtdklchklpmabdaaDoorRows.lean that lists a variable, with what it lists TIED to the program's text (the seventh form; the later family's looks); each row that meets fmt, with fmt's text TOLD by the authors' own Lean function (tested against real Go, not proved from fmt's source: count such statements apart). THE CARD IS WHAT COUNTS. Prove the row's statement (the work); the ties are given (YtdklchklpmabdaaDoorTie.lean); close each card by the builder's one call (the guide's Derived/Test/ToyasCard.lean, 'card_holds'). Laid BY PROGRAM, IN A SANDBOX (cutbox-door.mjs). By AI agents, Wed Nov 11 2026. No macro, syntax, notation, axiom, sorry.
-/
import Derived.Test.YtdklchklpmabdaaDoorRows
import GoSem.ClaimSeven
namespace Go.Proofs.YtdklchklpmabdaaDoor
namespace Rows

/-- THE TIED CARD OF 'laws.FnExactReadRule'. -/
def fnExactReadRuleCard : Claim7 := { stood := { row := fnExactReadRuleRow, standIns := [], harness := (true, "5e3ac6fad320dea759c50554bb7c2ec3a01ea0afbf25163720b05d72e310d863"), looks := true }, kinds := [], alts := [], laidByText := true, laidKinds := [.data, .data, .data, .data, .sentinel, .sentinel, .pinned], laidTests := true, laidLooks := .later }
def FnExactReadRuleCardSaid : Prop := Claim7.holds Tryd.pinned (.plain (OpenSpec.ofChange fnExactReadRuleSpec)) fnExactReadRuleCard

/-- THE SECOND FORM's CARD OF 'laws.FnExactReadRule'. -/
def fnExactReadRuleUptoCard : Claim7 := { stood := { row := fnExactReadRuleUptoRow, standIns := [], harness := (true, "5e3ac6fad320dea759c50554bb7c2ec3a01ea0afbf25163720b05d72e310d863"), looks := true }, kinds := [], alts := [], laidByText := true, laidKinds := [.data, .data, .data, .data, .sentinel, .sentinel, .pinned], laidTests := true, laidLooks := .later }
def FnExactReadRuleUptoCardSaid : Prop := Claim7.holds Tryd.pinned (.plain (OpenSpec.upto fnExactReadRuleSpec)) fnExactReadRuleUptoCard
end Rows
end Go.Proofs.YtdklchklpmabdaaDoor
