/-
  No cell of these rows narrows 'for every input' (looked for: loops, veiled, ifaces, maps, wideKeys, modest, calm, conditions, laid).
  DERIVED. THE GIVEN ROWS OF THIS SEAT. 12 by the template 'for every input the law returns true; each argument reads behind the call as it read before'; 0 by the template 'total and deterministic' (their statements: YtkkjljahfpdfhaaTotals.lean).
  GIVEN WITH THE SEED: the statements are not yours to turn. If you find one false, say at which input.
  Laid BY PROGRAM, IN A SANDBOX (cutbox-rows.mjs): the forced cells as the released guide's own fill.sh prints them over the translation baa68ce0dfeee44a… (all of the seat's roots in one cut). By AI agents, Wed Nov 11 2026. No macro, syntax, notation, axiom, sorry.
-/
import Derived.Test.YtkkjljahfpdfhaaChecked
import GoSem.Claim
import GoSem.ClaimJoined
import GoSem.ClaimMapViews
import Derived.JoinedTies
import Derived.KernelRfl
namespace Go.Proofs.Ytkkjljahfpdfhaa
/- THE CELL 'sum', in the pinned program and in every row, IS THE sha256 OF THE DUMP (.gsa) THAT YtkkjljahfpdfhaaProg.lean LOADS. Nothing in Lean hashes anything: it is a label: what it is worth is what the hold of that sum in a sandbox is worth. -/
noncomputable def Try.pinned : Pinned := { name := "ytkkjljahfpdfhaa", sum := "baa68ce0dfeee44aaf39ed2c26592e9a7687da05ab8c8ff95a0b650dc23f0f90", checked := Try.checked }
namespace Rows
def none {H : Type} : Left H := { results := [], args := [] }

/-- 'laws.FnExactValidThreshold': WHATEVER THE INPUT: true; the input reads as it did. -/
def fnExactValidThresholdSpec : ChangeSpec := { name := "fnExactValidThreshold", fn := fun _ => fun
  | [d] => { results := [.lit (.bool true)], args := [d] }
  | _ => none }
def fnExactValidThresholdRow : OpenClaim := { program := "ytkkjljahfpdfhaa", sum := "baa68ce0dfeee44aaf39ed2c26592e9a7687da05ab8c8ff95a0b650dc23f0f90", func := "loop.example/g01026/laws.FnExactValidThreshold", spec := "fnExactValidThreshold", apart := false }
def FnExactValidThresholdSaid : Prop := fnExactValidThresholdRow.holds Try.pinned (OpenSpec.ofChange fnExactValidThresholdSpec)

/-- ITS FALSE NEIGHBOUR: 'it returns false'. Refute it at one input. -/
def fnExactValidThresholdWrong : ChangeSpec := { name := "fnExactValidThreshold", fn := fun _ => fun
  | [d] => { results := [.lit (.bool false)], args := [d] }
  | _ => none }
def FnExactValidThresholdWrongFalsely : Prop := fnExactValidThresholdRow.holds Try.pinned (OpenSpec.ofChange fnExactValidThresholdWrong)

/-- 'laws.FnExactNextTime': WHATEVER THE INPUT: true; the input reads as it did. -/
def fnExactNextTimeSpec : ChangeSpec := { name := "fnExactNextTime", fn := fun _ => fun
  | [d1, d2] => { results := [.lit (.bool true)], args := [d1, d2] }
  | _ => none }
def fnExactNextTimeRow : OpenClaim := { program := "ytkkjljahfpdfhaa", sum := "baa68ce0dfeee44aaf39ed2c26592e9a7687da05ab8c8ff95a0b650dc23f0f90", func := "loop.example/g01026/laws.FnExactNextTime", spec := "fnExactNextTime", apart := false }
def FnExactNextTimeSaid : Prop := fnExactNextTimeRow.holds Try.pinned (OpenSpec.ofChange fnExactNextTimeSpec)

/-- ITS FALSE NEIGHBOUR: 'it returns false'. Refute it at one input. -/
def fnExactNextTimeWrong : ChangeSpec := { name := "fnExactNextTime", fn := fun _ => fun
  | [d1, d2] => { results := [.lit (.bool false)], args := [d1, d2] }
  | _ => none }
def FnExactNextTimeWrongFalsely : Prop := fnExactNextTimeRow.holds Try.pinned (OpenSpec.ofChange fnExactNextTimeWrong)

/-- 'laws.FnExactValidLinks': WHATEVER THE INPUT: true; the input reads as it did. -/
def fnExactValidLinksSpec : ChangeSpec := { name := "fnExactValidLinks", fn := fun _ => fun
  | [d1, d2] => { results := [.lit (.bool true)], args := [d1, d2] }
  | _ => none }
def fnExactValidLinksRow : OpenClaim := { program := "ytkkjljahfpdfhaa", sum := "baa68ce0dfeee44aaf39ed2c26592e9a7687da05ab8c8ff95a0b650dc23f0f90", func := "loop.example/g01026/laws.FnExactValidLinks", spec := "fnExactValidLinks", apart := false }
def FnExactValidLinksSaid : Prop := fnExactValidLinksRow.holds Try.pinned (OpenSpec.ofChange fnExactValidLinksSpec)

/-- ITS FALSE NEIGHBOUR: 'it returns false'. Refute it at one input. -/
def fnExactValidLinksWrong : ChangeSpec := { name := "fnExactValidLinks", fn := fun _ => fun
  | [d1, d2] => { results := [.lit (.bool false)], args := [d1, d2] }
  | _ => none }
def FnExactValidLinksWrongFalsely : Prop := fnExactValidLinksRow.holds Try.pinned (OpenSpec.ofChange fnExactValidLinksWrong)

/-- 'laws.FnPairs': WHATEVER THE INPUT: true; the input reads as it did. -/
def fnPairsSpec : ChangeSpec := { name := "fnPairs", fn := fun _ => fun
  | [d1, d2] => { results := [.lit (.bool true)], args := [d1, d2] }
  | _ => none }
def fnPairsRow : OpenClaim := { program := "ytkkjljahfpdfhaa", sum := "baa68ce0dfeee44aaf39ed2c26592e9a7687da05ab8c8ff95a0b650dc23f0f90", func := "loop.example/g01026/laws.FnPairs", spec := "fnPairs", unfollowed := true, recurses := true, apart := false }
def FnPairsSaid : Prop := fnPairsRow.holds Try.pinned (OpenSpec.ofChange fnPairsSpec)

/-- ITS FALSE NEIGHBOUR: 'it returns false'. Refute it at one input. -/
def fnPairsWrong : ChangeSpec := { name := "fnPairs", fn := fun _ => fun
  | [d1, d2] => { results := [.lit (.bool false)], args := [d1, d2] }
  | _ => none }
def FnPairsWrongFalsely : Prop := fnPairsRow.holds Try.pinned (OpenSpec.ofChange fnPairsWrong)

/-- 'laws.FnExactSameRequests': WHATEVER THE INPUT: true; the input reads as it did. -/
def fnExactSameRequestsSpec : ChangeSpec := { name := "fnExactSameRequests", fn := fun _ => fun
  | [d1, d2] => { results := [.lit (.bool true)], args := [d1, d2] }
  | _ => none }
def fnExactSameRequestsRow : OpenClaim := { program := "ytkkjljahfpdfhaa", sum := "baa68ce0dfeee44aaf39ed2c26592e9a7687da05ab8c8ff95a0b650dc23f0f90", func := "loop.example/g01026/laws.FnExactSameRequests", spec := "fnExactSameRequests", apart := false }
def FnExactSameRequestsSaid : Prop := fnExactSameRequestsRow.holds Try.pinned (OpenSpec.ofChange fnExactSameRequestsSpec)

/-- ITS FALSE NEIGHBOUR: 'it returns false'. Refute it at one input. -/
def fnExactSameRequestsWrong : ChangeSpec := { name := "fnExactSameRequests", fn := fun _ => fun
  | [d1, d2] => { results := [.lit (.bool false)], args := [d1, d2] }
  | _ => none }
def FnExactSameRequestsWrongFalsely : Prop := fnExactSameRequestsRow.holds Try.pinned (OpenSpec.ofChange fnExactSameRequestsWrong)

/-- 'laws.FnExactSignChanges': WHATEVER THE INPUT: true; the input reads as it did. -/
def fnExactSignChangesSpec : ChangeSpec := { name := "fnExactSignChanges", fn := fun _ => fun
  | [d1, d2] => { results := [.lit (.bool true)], args := [d1, d2] }
  | _ => none }
def fnExactSignChangesRow : OpenClaim := { program := "ytkkjljahfpdfhaa", sum := "baa68ce0dfeee44aaf39ed2c26592e9a7687da05ab8c8ff95a0b650dc23f0f90", func := "loop.example/g01026/laws.FnExactSignChanges", spec := "fnExactSignChanges", unfollowed := true, recurses := true, apart := false }
def FnExactSignChangesSaid : Prop := fnExactSignChangesRow.holds Try.pinned (OpenSpec.ofChange fnExactSignChangesSpec)

/-- ITS FALSE NEIGHBOUR: 'it returns false'. Refute it at one input. -/
def fnExactSignChangesWrong : ChangeSpec := { name := "fnExactSignChanges", fn := fun _ => fun
  | [d1, d2] => { results := [.lit (.bool false)], args := [d1, d2] }
  | _ => none }
def FnExactSignChangesWrongFalsely : Prop := fnExactSignChangesRow.holds Try.pinned (OpenSpec.ofChange fnExactSignChangesWrong)

/-- 'laws.FnExactChiSquare': WHATEVER THE INPUT: true; the input reads as it did. -/
def fnExactChiSquareSpec : ChangeSpec := { name := "fnExactChiSquare", fn := fun _ => fun
  | [d1, d2, d3] => { results := [.lit (.bool true)], args := [d1, d2, d3] }
  | _ => none }
def fnExactChiSquareRow : OpenClaim := { program := "ytkkjljahfpdfhaa", sum := "baa68ce0dfeee44aaf39ed2c26592e9a7687da05ab8c8ff95a0b650dc23f0f90", func := "loop.example/g01026/laws.FnExactChiSquare", spec := "fnExactChiSquare", unfollowed := true, recurses := true, apart := false }
def FnExactChiSquareSaid : Prop := fnExactChiSquareRow.holds Try.pinned (OpenSpec.ofChange fnExactChiSquareSpec)

/-- ITS FALSE NEIGHBOUR: 'it returns false'. Refute it at one input. -/
def fnExactChiSquareWrong : ChangeSpec := { name := "fnExactChiSquare", fn := fun _ => fun
  | [d1, d2, d3] => { results := [.lit (.bool false)], args := [d1, d2, d3] }
  | _ => none }
def FnExactChiSquareWrongFalsely : Prop := fnExactChiSquareRow.holds Try.pinned (OpenSpec.ofChange fnExactChiSquareWrong)

/-- 'laws.FnFits': WHATEVER THE INPUT: true; the input reads as it did. -/
def fnFitsSpec : ChangeSpec := { name := "fnFits", fn := fun _ => fun
  | [d1, d2] => { results := [.lit (.bool true)], args := [d1, d2] }
  | _ => none }
def fnFitsRow : OpenClaim := { program := "ytkkjljahfpdfhaa", sum := "baa68ce0dfeee44aaf39ed2c26592e9a7687da05ab8c8ff95a0b650dc23f0f90", func := "loop.example/g01026/laws.FnFits", spec := "fnFits", apart := false }
def FnFitsSaid : Prop := fnFitsRow.holds Try.pinned (OpenSpec.ofChange fnFitsSpec)

/-- ITS FALSE NEIGHBOUR: 'it returns false'. Refute it at one input. -/
def fnFitsWrong : ChangeSpec := { name := "fnFits", fn := fun _ => fun
  | [d1, d2] => { results := [.lit (.bool false)], args := [d1, d2] }
  | _ => none }
def FnFitsWrongFalsely : Prop := fnFitsRow.holds Try.pinned (OpenSpec.ofChange fnFitsWrong)

/-- 'laws.FnBetween': WHATEVER THE INPUT: true; the input reads as it did. -/
def fnBetweenSpec : ChangeSpec := { name := "fnBetween", fn := fun _ => fun
  | [d] => { results := [.lit (.bool true)], args := [d] }
  | _ => none }
def fnBetweenRow : OpenClaim := { program := "ytkkjljahfpdfhaa", sum := "baa68ce0dfeee44aaf39ed2c26592e9a7687da05ab8c8ff95a0b650dc23f0f90", func := "loop.example/g01026/laws.FnBetween", spec := "fnBetween", apart := false }
def FnBetweenSaid : Prop := fnBetweenRow.holds Try.pinned (OpenSpec.ofChange fnBetweenSpec)

/-- ITS FALSE NEIGHBOUR: 'it returns false'. Refute it at one input. -/
def fnBetweenWrong : ChangeSpec := { name := "fnBetween", fn := fun _ => fun
  | [d] => { results := [.lit (.bool false)], args := [d] }
  | _ => none }
def FnBetweenWrongFalsely : Prop := fnBetweenRow.holds Try.pinned (OpenSpec.ofChange fnBetweenWrong)

/-- 'laws.FnSteps': WHATEVER THE INPUT: true; the input reads as it did. -/
def fnStepsSpec : ChangeSpec := { name := "fnSteps", fn := fun _ => fun
  | [d1, d2] => { results := [.lit (.bool true)], args := [d1, d2] }
  | _ => none }
def fnStepsRow : OpenClaim := { program := "ytkkjljahfpdfhaa", sum := "baa68ce0dfeee44aaf39ed2c26592e9a7687da05ab8c8ff95a0b650dc23f0f90", func := "loop.example/g01026/laws.FnSteps", spec := "fnSteps", apart := false }
def FnStepsSaid : Prop := fnStepsRow.holds Try.pinned (OpenSpec.ofChange fnStepsSpec)

/-- ITS FALSE NEIGHBOUR: 'it returns false'. Refute it at one input. -/
def fnStepsWrong : ChangeSpec := { name := "fnSteps", fn := fun _ => fun
  | [d1, d2] => { results := [.lit (.bool false)], args := [d1, d2] }
  | _ => none }
def FnStepsWrongFalsely : Prop := fnStepsRow.holds Try.pinned (OpenSpec.ofChange fnStepsWrong)

/-- 'laws.FnSlopes': WHATEVER THE INPUT: true; the input reads as it did. -/
def fnSlopesSpec : ChangeSpec := { name := "fnSlopes", fn := fun _ => fun
  | [d1, d2] => { results := [.lit (.bool true)], args := [d1, d2] }
  | _ => none }
def fnSlopesRow : OpenClaim := { program := "ytkkjljahfpdfhaa", sum := "baa68ce0dfeee44aaf39ed2c26592e9a7687da05ab8c8ff95a0b650dc23f0f90", func := "loop.example/g01026/laws.FnSlopes", spec := "fnSlopes", apart := false }
def FnSlopesSaid : Prop := fnSlopesRow.holds Try.pinned (OpenSpec.ofChange fnSlopesSpec)

/-- ITS FALSE NEIGHBOUR: 'it returns false'. Refute it at one input. -/
def fnSlopesWrong : ChangeSpec := { name := "fnSlopes", fn := fun _ => fun
  | [d1, d2] => { results := [.lit (.bool false)], args := [d1, d2] }
  | _ => none }
def FnSlopesWrongFalsely : Prop := fnSlopesRow.holds Try.pinned (OpenSpec.ofChange fnSlopesWrong)

/-- 'laws.FnExactDeviationsFrom': WHATEVER THE INPUT: true; the input reads as it did. -/
def fnExactDeviationsFromSpec : ChangeSpec := { name := "fnExactDeviationsFrom", fn := fun _ => fun
  | [d1, d2] => { results := [.lit (.bool true)], args := [d1, d2] }
  | _ => none }
def fnExactDeviationsFromRow : OpenClaim := { program := "ytkkjljahfpdfhaa", sum := "baa68ce0dfeee44aaf39ed2c26592e9a7687da05ab8c8ff95a0b650dc23f0f90", func := "loop.example/g01026/laws.FnExactDeviationsFrom", spec := "fnExactDeviationsFrom", unfollowed := true, recurses := true, apart := false }
def FnExactDeviationsFromSaid : Prop := fnExactDeviationsFromRow.holds Try.pinned (OpenSpec.ofChange fnExactDeviationsFromSpec)

/-- ITS FALSE NEIGHBOUR: 'it returns false'. Refute it at one input. -/
def fnExactDeviationsFromWrong : ChangeSpec := { name := "fnExactDeviationsFrom", fn := fun _ => fun
  | [d1, d2] => { results := [.lit (.bool false)], args := [d1, d2] }
  | _ => none }
def FnExactDeviationsFromWrongFalsely : Prop := fnExactDeviationsFromRow.holds Try.pinned (OpenSpec.ofChange fnExactDeviationsFromWrong)

/- THE SECOND FORM. 'bulk': how many values and letters a reading holds, each counted each time it is reached (what is shared counts as often as it is met; a slice's spare places count too). A statement '..UptoSaid' is the law's where the arguments, and the package variables that the reading takes, are together of bulk at most 1048576: NARROWER than '..Said'. Prove '..Said' where nothing that the law and all that it calls make is longer than what came in: it says more and counts as full. Else prove '..UptoSaid'. A law counts once. -/
mutual
def uptoBulk {H : Type} : DataW H → Nat
  | .lit (.string bytes) => bytes.length + 1
  | .lit _ => 1
  | .nil => 1
  | .ptr d => uptoBulk d + 1
  | .slice elems spare => uptoBulkAll elems + uptoBulkAll spare + 1
  | .agg parts => uptoBulkAll parts + 1
  | .iface _ d => uptoBulk d + 1
  | .map entries => uptoBulkEntries entries + 1
  | .held _ => 1
def uptoBulkAll {H : Type} : List (DataW H) → Nat
  | [] => 0
  | d :: r => uptoBulk d + uptoBulkAll r
def uptoBulkEntries {H : Type} : List (Lit × DataW H) → Nat
  | [] => 0
  | x :: r => uptoBulkEntry x + uptoBulkEntries r
def uptoBulkEntry {H : Type} : Lit × DataW H → Nat
  | (.string bytes, d) => bytes.length + uptoBulk d + 1
  | (_, d) => uptoBulk d + 1
 end
def uptoSmall : (H : Type) → List (DataW H) → Bool := fun _ ds => decide (uptoBulkAll ds ≤ 1048576)
def OpenSpec.upto (s : _root_.Go.ChangeSpec) : _root_.Go.OpenSpec := { _root_.Go.OpenSpec.ofChange s with cond := some uptoSmall }

/-- 'laws.FnExactValidThreshold', WHERE WHAT IT READS IS OF BULK AT MOST 1048576: true; the input reads as it did. -/
def fnExactValidThresholdUptoRow : OpenClaim := { program := "ytkkjljahfpdfhaa", sum := "baa68ce0dfeee44aaf39ed2c26592e9a7687da05ab8c8ff95a0b650dc23f0f90", func := "loop.example/g01026/laws.FnExactValidThreshold", spec := "fnExactValidThreshold", apart := false, narrowed := true }
def FnExactValidThresholdUptoSaid : Prop := fnExactValidThresholdUptoRow.holds Try.pinned (OpenSpec.upto fnExactValidThresholdSpec)

/-- 'laws.FnExactNextTime', WHERE WHAT IT READS IS OF BULK AT MOST 1048576: true; the input reads as it did. -/
def fnExactNextTimeUptoRow : OpenClaim := { program := "ytkkjljahfpdfhaa", sum := "baa68ce0dfeee44aaf39ed2c26592e9a7687da05ab8c8ff95a0b650dc23f0f90", func := "loop.example/g01026/laws.FnExactNextTime", spec := "fnExactNextTime", apart := false, narrowed := true }
def FnExactNextTimeUptoSaid : Prop := fnExactNextTimeUptoRow.holds Try.pinned (OpenSpec.upto fnExactNextTimeSpec)

/-- 'laws.FnExactValidLinks', WHERE WHAT IT READS IS OF BULK AT MOST 1048576: true; the input reads as it did. -/
def fnExactValidLinksUptoRow : OpenClaim := { program := "ytkkjljahfpdfhaa", sum := "baa68ce0dfeee44aaf39ed2c26592e9a7687da05ab8c8ff95a0b650dc23f0f90", func := "loop.example/g01026/laws.FnExactValidLinks", spec := "fnExactValidLinks", apart := false, narrowed := true }
def FnExactValidLinksUptoSaid : Prop := fnExactValidLinksUptoRow.holds Try.pinned (OpenSpec.upto fnExactValidLinksSpec)

/-- 'laws.FnPairs', WHERE WHAT IT READS IS OF BULK AT MOST 1048576: true; the input reads as it did. -/
def fnPairsUptoRow : OpenClaim := { program := "ytkkjljahfpdfhaa", sum := "baa68ce0dfeee44aaf39ed2c26592e9a7687da05ab8c8ff95a0b650dc23f0f90", func := "loop.example/g01026/laws.FnPairs", spec := "fnPairs", unfollowed := true, recurses := true, apart := false, narrowed := true }
def FnPairsUptoSaid : Prop := fnPairsUptoRow.holds Try.pinned (OpenSpec.upto fnPairsSpec)

/-- 'laws.FnExactSameRequests', WHERE WHAT IT READS IS OF BULK AT MOST 1048576: true; the input reads as it did. -/
def fnExactSameRequestsUptoRow : OpenClaim := { program := "ytkkjljahfpdfhaa", sum := "baa68ce0dfeee44aaf39ed2c26592e9a7687da05ab8c8ff95a0b650dc23f0f90", func := "loop.example/g01026/laws.FnExactSameRequests", spec := "fnExactSameRequests", apart := false, narrowed := true }
def FnExactSameRequestsUptoSaid : Prop := fnExactSameRequestsUptoRow.holds Try.pinned (OpenSpec.upto fnExactSameRequestsSpec)

/-- 'laws.FnExactSignChanges', WHERE WHAT IT READS IS OF BULK AT MOST 1048576: true; the input reads as it did. -/
def fnExactSignChangesUptoRow : OpenClaim := { program := "ytkkjljahfpdfhaa", sum := "baa68ce0dfeee44aaf39ed2c26592e9a7687da05ab8c8ff95a0b650dc23f0f90", func := "loop.example/g01026/laws.FnExactSignChanges", spec := "fnExactSignChanges", unfollowed := true, recurses := true, apart := false, narrowed := true }
def FnExactSignChangesUptoSaid : Prop := fnExactSignChangesUptoRow.holds Try.pinned (OpenSpec.upto fnExactSignChangesSpec)

/-- 'laws.FnExactChiSquare', WHERE WHAT IT READS IS OF BULK AT MOST 1048576: true; the input reads as it did. -/
def fnExactChiSquareUptoRow : OpenClaim := { program := "ytkkjljahfpdfhaa", sum := "baa68ce0dfeee44aaf39ed2c26592e9a7687da05ab8c8ff95a0b650dc23f0f90", func := "loop.example/g01026/laws.FnExactChiSquare", spec := "fnExactChiSquare", unfollowed := true, recurses := true, apart := false, narrowed := true }
def FnExactChiSquareUptoSaid : Prop := fnExactChiSquareUptoRow.holds Try.pinned (OpenSpec.upto fnExactChiSquareSpec)

/-- 'laws.FnFits', WHERE WHAT IT READS IS OF BULK AT MOST 1048576: true; the input reads as it did. -/
def fnFitsUptoRow : OpenClaim := { program := "ytkkjljahfpdfhaa", sum := "baa68ce0dfeee44aaf39ed2c26592e9a7687da05ab8c8ff95a0b650dc23f0f90", func := "loop.example/g01026/laws.FnFits", spec := "fnFits", apart := false, narrowed := true }
def FnFitsUptoSaid : Prop := fnFitsUptoRow.holds Try.pinned (OpenSpec.upto fnFitsSpec)

/-- 'laws.FnBetween', WHERE WHAT IT READS IS OF BULK AT MOST 1048576: true; the input reads as it did. -/
def fnBetweenUptoRow : OpenClaim := { program := "ytkkjljahfpdfhaa", sum := "baa68ce0dfeee44aaf39ed2c26592e9a7687da05ab8c8ff95a0b650dc23f0f90", func := "loop.example/g01026/laws.FnBetween", spec := "fnBetween", apart := false, narrowed := true }
def FnBetweenUptoSaid : Prop := fnBetweenUptoRow.holds Try.pinned (OpenSpec.upto fnBetweenSpec)

/-- 'laws.FnSteps', WHERE WHAT IT READS IS OF BULK AT MOST 1048576: true; the input reads as it did. -/
def fnStepsUptoRow : OpenClaim := { program := "ytkkjljahfpdfhaa", sum := "baa68ce0dfeee44aaf39ed2c26592e9a7687da05ab8c8ff95a0b650dc23f0f90", func := "loop.example/g01026/laws.FnSteps", spec := "fnSteps", apart := false, narrowed := true }
def FnStepsUptoSaid : Prop := fnStepsUptoRow.holds Try.pinned (OpenSpec.upto fnStepsSpec)

/-- 'laws.FnSlopes', WHERE WHAT IT READS IS OF BULK AT MOST 1048576: true; the input reads as it did. -/
def fnSlopesUptoRow : OpenClaim := { program := "ytkkjljahfpdfhaa", sum := "baa68ce0dfeee44aaf39ed2c26592e9a7687da05ab8c8ff95a0b650dc23f0f90", func := "loop.example/g01026/laws.FnSlopes", spec := "fnSlopes", apart := false, narrowed := true }
def FnSlopesUptoSaid : Prop := fnSlopesUptoRow.holds Try.pinned (OpenSpec.upto fnSlopesSpec)

/-- 'laws.FnExactDeviationsFrom', WHERE WHAT IT READS IS OF BULK AT MOST 1048576: true; the input reads as it did. -/
def fnExactDeviationsFromUptoRow : OpenClaim := { program := "ytkkjljahfpdfhaa", sum := "baa68ce0dfeee44aaf39ed2c26592e9a7687da05ab8c8ff95a0b650dc23f0f90", func := "loop.example/g01026/laws.FnExactDeviationsFrom", spec := "fnExactDeviationsFrom", unfollowed := true, recurses := true, apart := false, narrowed := true }
def FnExactDeviationsFromUptoSaid : Prop := fnExactDeviationsFromUptoRow.holds Try.pinned (OpenSpec.upto fnExactDeviationsFromSpec)

end Rows
end Go.Proofs.Ytkkjljahfpdfhaa
