/-
  No cell of these rows narrows 'for every input' (looked for: loops, veiled, ifaces, maps, wideKeys, modest, calm, conditions, laid).
  DERIVED. THE GIVEN ROWS OF THIS SEAT. 10 by the template 'for every input the law returns true; each argument reads behind the call as it read before'; 0 by the template 'total and deterministic' (their statements: YtnkablomkcimaaaTotals.lean).
  GIVEN WITH THE SEED: the statements are not yours to turn. If you find one false, say at which input.
  Laid BY PROGRAM, IN A SANDBOX (cutbox-rows.mjs): the forced cells as the released guide's own fill.sh prints them over the translation 81f1037944816696… (all of the seat's roots in one cut). By AI agents, Wed Nov 11 2026. No macro, syntax, notation, axiom, sorry.
-/
import Derived.Test.YtnkablomkcimaaaChecked
import GoSem.Claim
import GoSem.ClaimJoined
import GoSem.ClaimMapViews
import Derived.JoinedTies
import Derived.KernelRfl
namespace Go.Proofs.Ytnkablomkcimaaa
/- THE CELL 'sum', in the pinned program and in every row, IS THE sha256 OF THE DUMP (.gsa) THAT YtnkablomkcimaaaProg.lean LOADS. Nothing in Lean hashes anything: it is a label: what it is worth is what the hold of that sum in a sandbox is worth. -/
noncomputable def Try.pinned : Pinned := { name := "ytnkablomkcimaaa", sum := "81f1037944816696ea3ee0274f3dc2ff37b5107f26fa77e4eb9615e1c6f8dda7", checked := Try.checked }
namespace Rows
def none {H : Type} : Left H := { results := [], args := [] }

/-- 'laws.FnPrices': WHATEVER THE INPUT: true; the input reads as it did. -/
def fnPricesSpec : ChangeSpec := { name := "fnPrices", fn := fun _ => fun
  | [d] => { results := [.lit (.bool true)], args := [d] }
  | _ => none }
def fnPricesRow : OpenClaim := { program := "ytnkablomkcimaaa", sum := "81f1037944816696ea3ee0274f3dc2ff37b5107f26fa77e4eb9615e1c6f8dda7", func := "loop.example/g01026/laws.FnPrices", spec := "fnPrices", unfollowed := true, recurses := true, apart := false }
def FnPricesSaid : Prop := fnPricesRow.holds Try.pinned (OpenSpec.ofChange fnPricesSpec)

/-- ITS FALSE NEIGHBOUR: 'it returns false'. Refute it at one input. -/
def fnPricesWrong : ChangeSpec := { name := "fnPrices", fn := fun _ => fun
  | [d] => { results := [.lit (.bool false)], args := [d] }
  | _ => none }
def FnPricesWrongFalsely : Prop := fnPricesRow.holds Try.pinned (OpenSpec.ofChange fnPricesWrong)

/-- 'laws.FnShifts': WHATEVER THE INPUT: true; the input reads as it did. -/
def fnShiftsSpec : ChangeSpec := { name := "fnShifts", fn := fun _ => fun
  | [d1, d2] => { results := [.lit (.bool true)], args := [d1, d2] }
  | _ => none }
def fnShiftsRow : OpenClaim := { program := "ytnkablomkcimaaa", sum := "81f1037944816696ea3ee0274f3dc2ff37b5107f26fa77e4eb9615e1c6f8dda7", func := "loop.example/g01026/laws.FnShifts", spec := "fnShifts", apart := false }
def FnShiftsSaid : Prop := fnShiftsRow.holds Try.pinned (OpenSpec.ofChange fnShiftsSpec)

/-- ITS FALSE NEIGHBOUR: 'it returns false'. Refute it at one input. -/
def fnShiftsWrong : ChangeSpec := { name := "fnShifts", fn := fun _ => fun
  | [d1, d2] => { results := [.lit (.bool false)], args := [d1, d2] }
  | _ => none }
def FnShiftsWrongFalsely : Prop := fnShiftsRow.holds Try.pinned (OpenSpec.ofChange fnShiftsWrong)

/-- 'laws.FnVisible': WHATEVER THE INPUT: true; the input reads as it did. -/
def fnVisibleSpec : ChangeSpec := { name := "fnVisible", fn := fun _ => fun
  | [d1, d2] => { results := [.lit (.bool true)], args := [d1, d2] }
  | _ => none }
def fnVisibleRow : OpenClaim := { program := "ytnkablomkcimaaa", sum := "81f1037944816696ea3ee0274f3dc2ff37b5107f26fa77e4eb9615e1c6f8dda7", func := "loop.example/g01026/laws.FnVisible", spec := "fnVisible", apart := false }
def FnVisibleSaid : Prop := fnVisibleRow.holds Try.pinned (OpenSpec.ofChange fnVisibleSpec)

/-- ITS FALSE NEIGHBOUR: 'it returns false'. Refute it at one input. -/
def fnVisibleWrong : ChangeSpec := { name := "fnVisible", fn := fun _ => fun
  | [d1, d2] => { results := [.lit (.bool false)], args := [d1, d2] }
  | _ => none }
def FnVisibleWrongFalsely : Prop := fnVisibleRow.holds Try.pinned (OpenSpec.ofChange fnVisibleWrong)

/-- 'laws.FnResiduals': WHATEVER THE INPUT: true; the input reads as it did. -/
def fnResidualsSpec : ChangeSpec := { name := "fnResiduals", fn := fun _ => fun
  | [d1, d2] => { results := [.lit (.bool true)], args := [d1, d2] }
  | _ => none }
def fnResidualsRow : OpenClaim := { program := "ytnkablomkcimaaa", sum := "81f1037944816696ea3ee0274f3dc2ff37b5107f26fa77e4eb9615e1c6f8dda7", func := "loop.example/g01026/laws.FnResiduals", spec := "fnResiduals", unfollowed := true, recurses := true, apart := false }
def FnResidualsSaid : Prop := fnResidualsRow.holds Try.pinned (OpenSpec.ofChange fnResidualsSpec)

/-- ITS FALSE NEIGHBOUR: 'it returns false'. Refute it at one input. -/
def fnResidualsWrong : ChangeSpec := { name := "fnResiduals", fn := fun _ => fun
  | [d1, d2] => { results := [.lit (.bool false)], args := [d1, d2] }
  | _ => none }
def FnResidualsWrongFalsely : Prop := fnResidualsRow.holds Try.pinned (OpenSpec.ofChange fnResidualsWrong)

/-- 'laws.FnShown': WHATEVER THE INPUT: true; the input reads as it did. -/
def fnShownSpec : ChangeSpec := { name := "fnShown", fn := fun _ => fun
  | [d1, d2] => { results := [.lit (.bool true)], args := [d1, d2] }
  | _ => none }
def fnShownRow : OpenClaim := { program := "ytnkablomkcimaaa", sum := "81f1037944816696ea3ee0274f3dc2ff37b5107f26fa77e4eb9615e1c6f8dda7", func := "loop.example/g01026/laws.FnShown", spec := "fnShown", unfollowed := true, recurses := true, apart := false }
def FnShownSaid : Prop := fnShownRow.holds Try.pinned (OpenSpec.ofChange fnShownSpec)

/-- ITS FALSE NEIGHBOUR: 'it returns false'. Refute it at one input. -/
def fnShownWrong : ChangeSpec := { name := "fnShown", fn := fun _ => fun
  | [d1, d2] => { results := [.lit (.bool false)], args := [d1, d2] }
  | _ => none }
def FnShownWrongFalsely : Prop := fnShownRow.holds Try.pinned (OpenSpec.ofChange fnShownWrong)

/-- 'laws.FnExactBestWindow': WHATEVER THE INPUT: true; the input reads as it did. -/
def fnExactBestWindowSpec : ChangeSpec := { name := "fnExactBestWindow", fn := fun _ => fun
  | [d1, d2] => { results := [.lit (.bool true)], args := [d1, d2] }
  | _ => none }
def fnExactBestWindowRow : OpenClaim := { program := "ytnkablomkcimaaa", sum := "81f1037944816696ea3ee0274f3dc2ff37b5107f26fa77e4eb9615e1c6f8dda7", func := "loop.example/g01026/laws.FnExactBestWindow", spec := "fnExactBestWindow", apart := false }
def FnExactBestWindowSaid : Prop := fnExactBestWindowRow.holds Try.pinned (OpenSpec.ofChange fnExactBestWindowSpec)

/-- ITS FALSE NEIGHBOUR: 'it returns false'. Refute it at one input. -/
def fnExactBestWindowWrong : ChangeSpec := { name := "fnExactBestWindow", fn := fun _ => fun
  | [d1, d2] => { results := [.lit (.bool false)], args := [d1, d2] }
  | _ => none }
def FnExactBestWindowWrongFalsely : Prop := fnExactBestWindowRow.holds Try.pinned (OpenSpec.ofChange fnExactBestWindowWrong)

/-- 'laws.FnExactValidRequests': WHATEVER THE INPUT: true; the input reads as it did. -/
def fnExactValidRequestsSpec : ChangeSpec := { name := "fnExactValidRequests", fn := fun _ => fun
  | [d] => { results := [.lit (.bool true)], args := [d] }
  | _ => none }
def fnExactValidRequestsRow : OpenClaim := { program := "ytnkablomkcimaaa", sum := "81f1037944816696ea3ee0274f3dc2ff37b5107f26fa77e4eb9615e1c6f8dda7", func := "loop.example/g01026/laws.FnExactValidRequests", spec := "fnExactValidRequests", unfollowed := true, recurses := true, apart := false }
def FnExactValidRequestsSaid : Prop := fnExactValidRequestsRow.holds Try.pinned (OpenSpec.ofChange fnExactValidRequestsSpec)

/-- ITS FALSE NEIGHBOUR: 'it returns false'. Refute it at one input. -/
def fnExactValidRequestsWrong : ChangeSpec := { name := "fnExactValidRequests", fn := fun _ => fun
  | [d] => { results := [.lit (.bool false)], args := [d] }
  | _ => none }
def FnExactValidRequestsWrongFalsely : Prop := fnExactValidRequestsRow.holds Try.pinned (OpenSpec.ofChange fnExactValidRequestsWrong)

/-- 'laws.FnExactNextRequest': WHATEVER THE INPUT: true; the input reads as it did. -/
def fnExactNextRequestSpec : ChangeSpec := { name := "fnExactNextRequest", fn := fun _ => fun
  | [d1, d2] => { results := [.lit (.bool true)], args := [d1, d2] }
  | _ => none }
def fnExactNextRequestRow : OpenClaim := { program := "ytnkablomkcimaaa", sum := "81f1037944816696ea3ee0274f3dc2ff37b5107f26fa77e4eb9615e1c6f8dda7", func := "loop.example/g01026/laws.FnExactNextRequest", spec := "fnExactNextRequest", unfollowed := true, recurses := true, apart := false }
def FnExactNextRequestSaid : Prop := fnExactNextRequestRow.holds Try.pinned (OpenSpec.ofChange fnExactNextRequestSpec)

/-- ITS FALSE NEIGHBOUR: 'it returns false'. Refute it at one input. -/
def fnExactNextRequestWrong : ChangeSpec := { name := "fnExactNextRequest", fn := fun _ => fun
  | [d1, d2] => { results := [.lit (.bool false)], args := [d1, d2] }
  | _ => none }
def FnExactNextRequestWrongFalsely : Prop := fnExactNextRequestRow.holds Try.pinned (OpenSpec.ofChange fnExactNextRequestWrong)

/-- 'laws.FnExactServedShare': WHATEVER THE INPUT: true; the input reads as it did. -/
def fnExactServedShareSpec : ChangeSpec := { name := "fnExactServedShare", fn := fun _ => fun
  | [d] => { results := [.lit (.bool true)], args := [d] }
  | _ => none }
def fnExactServedShareRow : OpenClaim := { program := "ytnkablomkcimaaa", sum := "81f1037944816696ea3ee0274f3dc2ff37b5107f26fa77e4eb9615e1c6f8dda7", func := "loop.example/g01026/laws.FnExactServedShare", spec := "fnExactServedShare", unfollowed := true, recurses := true, apart := false }
def FnExactServedShareSaid : Prop := fnExactServedShareRow.holds Try.pinned (OpenSpec.ofChange fnExactServedShareSpec)

/-- ITS FALSE NEIGHBOUR: 'it returns false'. Refute it at one input. -/
def fnExactServedShareWrong : ChangeSpec := { name := "fnExactServedShare", fn := fun _ => fun
  | [d] => { results := [.lit (.bool false)], args := [d] }
  | _ => none }
def FnExactServedShareWrongFalsely : Prop := fnExactServedShareRow.holds Try.pinned (OpenSpec.ofChange fnExactServedShareWrong)

/-- 'laws.FnExactAddRequest': WHATEVER THE INPUT: true; the input reads as it did. -/
def fnExactAddRequestSpec : ChangeSpec := { name := "fnExactAddRequest", fn := fun _ => fun
  | [d1, d2] => { results := [.lit (.bool true)], args := [d1, d2] }
  | _ => none }
def fnExactAddRequestRow : OpenClaim := { program := "ytnkablomkcimaaa", sum := "81f1037944816696ea3ee0274f3dc2ff37b5107f26fa77e4eb9615e1c6f8dda7", func := "loop.example/g01026/laws.FnExactAddRequest", spec := "fnExactAddRequest", unfollowed := true, recurses := true, apart := false }
def FnExactAddRequestSaid : Prop := fnExactAddRequestRow.holds Try.pinned (OpenSpec.ofChange fnExactAddRequestSpec)

/-- ITS FALSE NEIGHBOUR: 'it returns false'. Refute it at one input. -/
def fnExactAddRequestWrong : ChangeSpec := { name := "fnExactAddRequest", fn := fun _ => fun
  | [d1, d2] => { results := [.lit (.bool false)], args := [d1, d2] }
  | _ => none }
def FnExactAddRequestWrongFalsely : Prop := fnExactAddRequestRow.holds Try.pinned (OpenSpec.ofChange fnExactAddRequestWrong)

/- THE SECOND FORM. 'bulk': how many values and letters a reading holds, each counted each time it is reached (what is shared counts as often as it is met; a slice's spare places count too). A statement '..UptoSaid' is the law's where the arguments, and the package variables that the reading takes, are together of bulk at most 1048576: NARROWER than '..Said'. Prove '..Said' where nothing that the law and all that it calls make is longer than what came in: it says more and counts as full. Else prove '..UptoSaid'. A law counts once. -/
mutual
def uptoBulk {H : Type} : DataW H → Nat
  | .lit (.string bytes) => bytes.length + 1
  | .lit _ => 1
  | .nil => 1
  | .ptr d => uptoBulk d + 1
  | .slice elems spare => uptoBulkAll elems + uptoBulkAll spare + 1
  | .agg parts => uptoBulkAll parts + 1
  | .iface _ d => uptoBulk d + 1
  | .map entries => uptoBulkEntries entries + 1
  | .held _ => 1
def uptoBulkAll {H : Type} : List (DataW H) → Nat
  | [] => 0
  | d :: r => uptoBulk d + uptoBulkAll r
def uptoBulkEntries {H : Type} : List (Lit × DataW H) → Nat
  | [] => 0
  | x :: r => uptoBulkEntry x + uptoBulkEntries r
def uptoBulkEntry {H : Type} : Lit × DataW H → Nat
  | (.string bytes, d) => bytes.length + uptoBulk d + 1
  | (_, d) => uptoBulk d + 1
 end
def uptoSmall : (H : Type) → List (DataW H) → Bool := fun _ ds => decide (uptoBulkAll ds ≤ 1048576)
def OpenSpec.upto (s : _root_.Go.ChangeSpec) : _root_.Go.OpenSpec := { _root_.Go.OpenSpec.ofChange s with cond := some uptoSmall }

/-- 'laws.FnPrices', WHERE WHAT IT READS IS OF BULK AT MOST 1048576: true; the input reads as it did. -/
def fnPricesUptoRow : OpenClaim := { program := "ytnkablomkcimaaa", sum := "81f1037944816696ea3ee0274f3dc2ff37b5107f26fa77e4eb9615e1c6f8dda7", func := "loop.example/g01026/laws.FnPrices", spec := "fnPrices", unfollowed := true, recurses := true, apart := false, narrowed := true }
def FnPricesUptoSaid : Prop := fnPricesUptoRow.holds Try.pinned (OpenSpec.upto fnPricesSpec)

/-- 'laws.FnShifts', WHERE WHAT IT READS IS OF BULK AT MOST 1048576: true; the input reads as it did. -/
def fnShiftsUptoRow : OpenClaim := { program := "ytnkablomkcimaaa", sum := "81f1037944816696ea3ee0274f3dc2ff37b5107f26fa77e4eb9615e1c6f8dda7", func := "loop.example/g01026/laws.FnShifts", spec := "fnShifts", apart := false, narrowed := true }
def FnShiftsUptoSaid : Prop := fnShiftsUptoRow.holds Try.pinned (OpenSpec.upto fnShiftsSpec)

/-- 'laws.FnVisible', WHERE WHAT IT READS IS OF BULK AT MOST 1048576: true; the input reads as it did. -/
def fnVisibleUptoRow : OpenClaim := { program := "ytnkablomkcimaaa", sum := "81f1037944816696ea3ee0274f3dc2ff37b5107f26fa77e4eb9615e1c6f8dda7", func := "loop.example/g01026/laws.FnVisible", spec := "fnVisible", apart := false, narrowed := true }
def FnVisibleUptoSaid : Prop := fnVisibleUptoRow.holds Try.pinned (OpenSpec.upto fnVisibleSpec)

/-- 'laws.FnResiduals', WHERE WHAT IT READS IS OF BULK AT MOST 1048576: true; the input reads as it did. -/
def fnResidualsUptoRow : OpenClaim := { program := "ytnkablomkcimaaa", sum := "81f1037944816696ea3ee0274f3dc2ff37b5107f26fa77e4eb9615e1c6f8dda7", func := "loop.example/g01026/laws.FnResiduals", spec := "fnResiduals", unfollowed := true, recurses := true, apart := false, narrowed := true }
def FnResidualsUptoSaid : Prop := fnResidualsUptoRow.holds Try.pinned (OpenSpec.upto fnResidualsSpec)

/-- 'laws.FnShown', WHERE WHAT IT READS IS OF BULK AT MOST 1048576: true; the input reads as it did. -/
def fnShownUptoRow : OpenClaim := { program := "ytnkablomkcimaaa", sum := "81f1037944816696ea3ee0274f3dc2ff37b5107f26fa77e4eb9615e1c6f8dda7", func := "loop.example/g01026/laws.FnShown", spec := "fnShown", unfollowed := true, recurses := true, apart := false, narrowed := true }
def FnShownUptoSaid : Prop := fnShownUptoRow.holds Try.pinned (OpenSpec.upto fnShownSpec)

/-- 'laws.FnExactBestWindow', WHERE WHAT IT READS IS OF BULK AT MOST 1048576: true; the input reads as it did. -/
def fnExactBestWindowUptoRow : OpenClaim := { program := "ytnkablomkcimaaa", sum := "81f1037944816696ea3ee0274f3dc2ff37b5107f26fa77e4eb9615e1c6f8dda7", func := "loop.example/g01026/laws.FnExactBestWindow", spec := "fnExactBestWindow", apart := false, narrowed := true }
def FnExactBestWindowUptoSaid : Prop := fnExactBestWindowUptoRow.holds Try.pinned (OpenSpec.upto fnExactBestWindowSpec)

/-- 'laws.FnExactValidRequests', WHERE WHAT IT READS IS OF BULK AT MOST 1048576: true; the input reads as it did. -/
def fnExactValidRequestsUptoRow : OpenClaim := { program := "ytnkablomkcimaaa", sum := "81f1037944816696ea3ee0274f3dc2ff37b5107f26fa77e4eb9615e1c6f8dda7", func := "loop.example/g01026/laws.FnExactValidRequests", spec := "fnExactValidRequests", unfollowed := true, recurses := true, apart := false, narrowed := true }
def FnExactValidRequestsUptoSaid : Prop := fnExactValidRequestsUptoRow.holds Try.pinned (OpenSpec.upto fnExactValidRequestsSpec)

/-- 'laws.FnExactNextRequest', WHERE WHAT IT READS IS OF BULK AT MOST 1048576: true; the input reads as it did. -/
def fnExactNextRequestUptoRow : OpenClaim := { program := "ytnkablomkcimaaa", sum := "81f1037944816696ea3ee0274f3dc2ff37b5107f26fa77e4eb9615e1c6f8dda7", func := "loop.example/g01026/laws.FnExactNextRequest", spec := "fnExactNextRequest", unfollowed := true, recurses := true, apart := false, narrowed := true }
def FnExactNextRequestUptoSaid : Prop := fnExactNextRequestUptoRow.holds Try.pinned (OpenSpec.upto fnExactNextRequestSpec)

/-- 'laws.FnExactServedShare', WHERE WHAT IT READS IS OF BULK AT MOST 1048576: true; the input reads as it did. -/
def fnExactServedShareUptoRow : OpenClaim := { program := "ytnkablomkcimaaa", sum := "81f1037944816696ea3ee0274f3dc2ff37b5107f26fa77e4eb9615e1c6f8dda7", func := "loop.example/g01026/laws.FnExactServedShare", spec := "fnExactServedShare", unfollowed := true, recurses := true, apart := false, narrowed := true }
def FnExactServedShareUptoSaid : Prop := fnExactServedShareUptoRow.holds Try.pinned (OpenSpec.upto fnExactServedShareSpec)

/-- 'laws.FnExactAddRequest', WHERE WHAT IT READS IS OF BULK AT MOST 1048576: true; the input reads as it did. -/
def fnExactAddRequestUptoRow : OpenClaim := { program := "ytnkablomkcimaaa", sum := "81f1037944816696ea3ee0274f3dc2ff37b5107f26fa77e4eb9615e1c6f8dda7", func := "loop.example/g01026/laws.FnExactAddRequest", spec := "fnExactAddRequest", unfollowed := true, recurses := true, apart := false, narrowed := true }
def FnExactAddRequestUptoSaid : Prop := fnExactAddRequestUptoRow.holds Try.pinned (OpenSpec.upto fnExactAddRequestSpec)

end Rows
end Go.Proofs.Ytnkablomkcimaaa
