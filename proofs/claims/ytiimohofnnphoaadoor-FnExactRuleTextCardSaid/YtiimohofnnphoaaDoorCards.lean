/-
  DERIVED. GIVEN WITH THE SEED: THE CARDS: each row of YtiimohofnnphoaaDoorRows.lean that lists a variable, with what it lists TIED to the program's text (the seventh form; the later family's looks); each row that meets fmt, with fmt's text TOLD by the authors' own Lean function (tested against real Go, not proved from fmt's source: count such statements apart). THE CARD IS WHAT COUNTS. Prove the row's statement (the work); the ties are given (YtiimohofnnphoaaDoorTie.lean); close each card by the builder's one call (the guide's Derived/Test/ToyasCard.lean, 'card_holds'). Laid BY PROGRAM, IN A SANDBOX (cutbox-door.mjs). By AI agents, Wed Nov 11 2026. No macro, syntax, notation, axiom, sorry.
-/
import Derived.Test.YtiimohofnnphoaaDoorRows
import GoSem.ClaimSeven
namespace Go.Proofs.YtiimohofnnphoaaDoor
namespace Rows

/-- THE TIED CARD OF 'laws.FnExactLinkText'. -/
def fnExactLinkTextCard : Claim7 := { stood := { row := fnExactLinkTextRow, standIns := [], harness := (true, "8ace43e6d40354d7d185d73234f01994bb423de7b22c6fc6270a97a4ed290627"), looks := false }, kinds := [], alts := [], laidByText := true, laidKinds := [.data, .data, .data], laidTests := true, laidLooks := .later }
def FnExactLinkTextCardSaid : Prop := Claim7.holds Tryd.pinned (.plain (OpenSpec.ofChange fnExactLinkTextSpec)) fnExactLinkTextCard

/-- THE TIED CARD OF 'laws.FnExactAlertText'. -/
def fnExactAlertTextCard : Claim7 := { stood := { row := fnExactAlertTextRow, standIns := [], harness := (true, "8ace43e6d40354d7d185d73234f01994bb423de7b22c6fc6270a97a4ed290627"), looks := false }, kinds := [], alts := [], laidByText := true, laidKinds := [.data, .data, .data], laidTests := true, laidLooks := .later }
def FnExactAlertTextCardSaid : Prop := Claim7.holds Tryd.pinned (.plain (OpenSpec.ofChange fnExactAlertTextSpec)) fnExactAlertTextCard

/-- THE TIED CARD OF 'laws.FnExactRuleText'. -/
def fnExactRuleTextCard : Claim7 := { stood := { row := fnExactRuleTextRow, standIns := [], harness := (true, "8ace43e6d40354d7d185d73234f01994bb423de7b22c6fc6270a97a4ed290627"), looks := false }, kinds := [], alts := [], laidByText := true, laidKinds := [.data, .data, .data], laidTests := true, laidLooks := .later }
def FnExactRuleTextCardSaid : Prop := Claim7.holds Tryd.pinned (.plain (OpenSpec.ofChange fnExactRuleTextSpec)) fnExactRuleTextCard

/-- THE SECOND FORM's CARD OF 'laws.FnExactLinkText'. -/
def fnExactLinkTextUptoCard : Claim7 := { stood := { row := fnExactLinkTextUptoRow, standIns := [], harness := (true, "8ace43e6d40354d7d185d73234f01994bb423de7b22c6fc6270a97a4ed290627"), looks := false }, kinds := [], alts := [], laidByText := true, laidKinds := [.data, .data, .data], laidTests := true, laidLooks := .later }
def FnExactLinkTextUptoCardSaid : Prop := Claim7.holds Tryd.pinned (.plain (OpenSpec.upto fnExactLinkTextSpec)) fnExactLinkTextUptoCard

/-- THE SECOND FORM's CARD OF 'laws.FnExactAlertText'. -/
def fnExactAlertTextUptoCard : Claim7 := { stood := { row := fnExactAlertTextUptoRow, standIns := [], harness := (true, "8ace43e6d40354d7d185d73234f01994bb423de7b22c6fc6270a97a4ed290627"), looks := false }, kinds := [], alts := [], laidByText := true, laidKinds := [.data, .data, .data], laidTests := true, laidLooks := .later }
def FnExactAlertTextUptoCardSaid : Prop := Claim7.holds Tryd.pinned (.plain (OpenSpec.upto fnExactAlertTextSpec)) fnExactAlertTextUptoCard

/-- THE SECOND FORM's CARD OF 'laws.FnExactRuleText'. -/
def fnExactRuleTextUptoCard : Claim7 := { stood := { row := fnExactRuleTextUptoRow, standIns := [], harness := (true, "8ace43e6d40354d7d185d73234f01994bb423de7b22c6fc6270a97a4ed290627"), looks := false }, kinds := [], alts := [], laidByText := true, laidKinds := [.data, .data, .data], laidTests := true, laidLooks := .later }
def FnExactRuleTextUptoCardSaid : Prop := Claim7.holds Tryd.pinned (.plain (OpenSpec.upto fnExactRuleTextSpec)) fnExactRuleTextUptoCard
end Rows
end Go.Proofs.YtiimohofnnphoaaDoor
