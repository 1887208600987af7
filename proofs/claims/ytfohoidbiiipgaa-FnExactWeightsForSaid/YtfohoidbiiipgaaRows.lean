/-
  No cell of these rows narrows 'for every input' (looked for: loops, veiled, ifaces, maps, wideKeys, modest, calm, conditions, laid).
  DERIVED. THE GIVEN ROWS OF THIS SEAT. 4 by the template 'for every input the law returns true; each argument reads behind the call as it read before'; 0 by the template 'total and deterministic' (their statements: YtfohoidbiiipgaaTotals.lean).
  GIVEN WITH THE SEED: the statements are not yours to turn. If you find one false, say at which input.
  Laid BY PROGRAM, IN A SANDBOX (cutbox-rows.mjs): the forced cells as the released guide's own fill.sh prints them over the translation 5fdebb0abe6e0eaa… (all of the seat's roots in one cut). By AI agents, Wed Nov 11 2026. No macro, syntax, notation, axiom, sorry.
-/
import Derived.Test.YtfohoidbiiipgaaChecked
import GoSem.Claim
import GoSem.ClaimJoined
import GoSem.ClaimMapViews
import Derived.JoinedTies
import Derived.KernelRfl
namespace Go.Proofs.Ytfohoidbiiipgaa
/- THE CELL 'sum', in the pinned program and in every row, IS THE sha256 OF THE DUMP (.gsa) THAT YtfohoidbiiipgaaProg.lean LOADS. Nothing in Lean hashes anything: it is a label: what it is worth is what the hold of that sum in a sandbox is worth. -/
noncomputable def Try.pinned : Pinned := { name := "ytfohoidbiiipgaa", sum := "5fdebb0abe6e0eaa21010bba8a8a711eb232960d634adf65db66290f8ccf9393", checked := Try.checked }
namespace Rows
def none {H : Type} : Left H := { results := [], args := [] }

/-- 'laws.FnExactMedianDeviation': WHATEVER THE INPUT: true; the input reads as it did. -/
def fnExactMedianDeviationSpec : ChangeSpec := { name := "fnExactMedianDeviation", fn := fun _ => fun
  | [d] => { results := [.lit (.bool true)], args := [d] }
  | _ => none }
def fnExactMedianDeviationRow : OpenClaim := { program := "ytfohoidbiiipgaa", sum := "5fdebb0abe6e0eaa21010bba8a8a711eb232960d634adf65db66290f8ccf9393", func := "loop.example/g01026/laws.FnExactMedianDeviation", spec := "fnExactMedianDeviation", unfollowed := true, recurses := true, apart := false }
def FnExactMedianDeviationSaid : Prop := fnExactMedianDeviationRow.holds Try.pinned (OpenSpec.ofChange fnExactMedianDeviationSpec)

/-- ITS FALSE NEIGHBOUR: 'it returns false'. Refute it at one input. -/
def fnExactMedianDeviationWrong : ChangeSpec := { name := "fnExactMedianDeviation", fn := fun _ => fun
  | [d] => { results := [.lit (.bool false)], args := [d] }
  | _ => none }
def FnExactMedianDeviationWrongFalsely : Prop := fnExactMedianDeviationRow.holds Try.pinned (OpenSpec.ofChange fnExactMedianDeviationWrong)

/-- 'laws.FnExactWeightsFor': WHATEVER THE INPUT: true; the input reads as it did. -/
def fnExactWeightsForSpec : ChangeSpec := { name := "fnExactWeightsFor", fn := fun _ => fun
  | [d] => { results := [.lit (.bool true)], args := [d] }
  | _ => none }
def fnExactWeightsForRow : OpenClaim := { program := "ytfohoidbiiipgaa", sum := "5fdebb0abe6e0eaa21010bba8a8a711eb232960d634adf65db66290f8ccf9393", func := "loop.example/g01026/laws.FnExactWeightsFor", spec := "fnExactWeightsFor", unfollowed := true, recurses := true, apart := false }
def FnExactWeightsForSaid : Prop := fnExactWeightsForRow.holds Try.pinned (OpenSpec.ofChange fnExactWeightsForSpec)

/-- ITS FALSE NEIGHBOUR: 'it returns false'. Refute it at one input. -/
def fnExactWeightsForWrong : ChangeSpec := { name := "fnExactWeightsFor", fn := fun _ => fun
  | [d] => { results := [.lit (.bool false)], args := [d] }
  | _ => none }
def FnExactWeightsForWrongFalsely : Prop := fnExactWeightsForRow.holds Try.pinned (OpenSpec.ofChange fnExactWeightsForWrong)

/-- 'laws.FnExactKeptMags': WHATEVER THE INPUT: true; the input reads as it did. -/
def fnExactKeptMagsSpec : ChangeSpec := { name := "fnExactKeptMags", fn := fun _ => fun
  | [d1, d2] => { results := [.lit (.bool true)], args := [d1, d2] }
  | _ => none }
def fnExactKeptMagsRow : OpenClaim := { program := "ytfohoidbiiipgaa", sum := "5fdebb0abe6e0eaa21010bba8a8a711eb232960d634adf65db66290f8ccf9393", func := "loop.example/g01026/laws.FnExactKeptMags", spec := "fnExactKeptMags", unfollowed := true, recurses := true, apart := false }
def FnExactKeptMagsSaid : Prop := fnExactKeptMagsRow.holds Try.pinned (OpenSpec.ofChange fnExactKeptMagsSpec)

/-- ITS FALSE NEIGHBOUR: 'it returns false'. Refute it at one input. -/
def fnExactKeptMagsWrong : ChangeSpec := { name := "fnExactKeptMags", fn := fun _ => fun
  | [d1, d2] => { results := [.lit (.bool false)], args := [d1, d2] }
  | _ => none }
def FnExactKeptMagsWrongFalsely : Prop := fnExactKeptMagsRow.holds Try.pinned (OpenSpec.ofChange fnExactKeptMagsWrong)

/-- 'laws.FnExactClipMags': WHATEVER THE INPUT: true; the input reads as it did. -/
def fnExactClipMagsSpec : ChangeSpec := { name := "fnExactClipMags", fn := fun _ => fun
  | [d1, d2] => { results := [.lit (.bool true)], args := [d1, d2] }
  | _ => none }
def fnExactClipMagsRow : OpenClaim := { program := "ytfohoidbiiipgaa", sum := "5fdebb0abe6e0eaa21010bba8a8a711eb232960d634adf65db66290f8ccf9393", func := "loop.example/g01026/laws.FnExactClipMags", spec := "fnExactClipMags", unfollowed := true, recurses := true, apart := false }
def FnExactClipMagsSaid : Prop := fnExactClipMagsRow.holds Try.pinned (OpenSpec.ofChange fnExactClipMagsSpec)

/-- ITS FALSE NEIGHBOUR: 'it returns false'. Refute it at one input. -/
def fnExactClipMagsWrong : ChangeSpec := { name := "fnExactClipMags", fn := fun _ => fun
  | [d1, d2] => { results := [.lit (.bool false)], args := [d1, d2] }
  | _ => none }
def FnExactClipMagsWrongFalsely : Prop := fnExactClipMagsRow.holds Try.pinned (OpenSpec.ofChange fnExactClipMagsWrong)

/- THE SECOND FORM. 'bulk': how many values and letters a reading holds, each counted each time it is reached (what is shared counts as often as it is met; a slice's spare places count too). A statement '..UptoSaid' is the law's where the arguments, and the package variables that the reading takes, are together of bulk at most 1048576: NARROWER than '..Said'. Prove '..Said' where nothing that the law and all that it calls make is longer than what came in: it says more and counts as full. Else prove '..UptoSaid'. A law counts once. -/
mutual
def uptoBulk {H : Type} : DataW H → Nat
  | .lit (.string bytes) => bytes.length + 1
  | .lit _ => 1
  | .nil => 1
  | .ptr d => uptoBulk d + 1
  | .slice elems spare => uptoBulkAll elems + uptoBulkAll spare + 1
  | .agg parts => uptoBulkAll parts + 1
  | .iface _ d => uptoBulk d + 1
  | .map entries => uptoBulkEntries entries + 1
  | .held _ => 1
def uptoBulkAll {H : Type} : List (DataW H) → Nat
  | [] => 0
  | d :: r => uptoBulk d + uptoBulkAll r
def uptoBulkEntries {H : Type} : List (Lit × DataW H) → Nat
  | [] => 0
  | x :: r => uptoBulkEntry x + uptoBulkEntries r
def uptoBulkEntry {H : Type} : Lit × DataW H → Nat
  | (.string bytes, d) => bytes.length + uptoBulk d + 1
  | (_, d) => uptoBulk d + 1
 end
def uptoSmall : (H : Type) → List (DataW H) → Bool := fun _ ds => decide (uptoBulkAll ds ≤ 1048576)
def OpenSpec.upto (s : _root_.Go.ChangeSpec) : _root_.Go.OpenSpec := { _root_.Go.OpenSpec.ofChange s with cond := some uptoSmall }

/-- 'laws.FnExactMedianDeviation', WHERE WHAT IT READS IS OF BULK AT MOST 1048576: true; the input reads as it did. -/
def fnExactMedianDeviationUptoRow : OpenClaim := { program := "ytfohoidbiiipgaa", sum := "5fdebb0abe6e0eaa21010bba8a8a711eb232960d634adf65db66290f8ccf9393", func := "loop.example/g01026/laws.FnExactMedianDeviation", spec := "fnExactMedianDeviation", unfollowed := true, recurses := true, apart := false, narrowed := true }
def FnExactMedianDeviationUptoSaid : Prop := fnExactMedianDeviationUptoRow.holds Try.pinned (OpenSpec.upto fnExactMedianDeviationSpec)

/-- 'laws.FnExactWeightsFor', WHERE WHAT IT READS IS OF BULK AT MOST 1048576: true; the input reads as it did. -/
def fnExactWeightsForUptoRow : OpenClaim := { program := "ytfohoidbiiipgaa", sum := "5fdebb0abe6e0eaa21010bba8a8a711eb232960d634adf65db66290f8ccf9393", func := "loop.example/g01026/laws.FnExactWeightsFor", spec := "fnExactWeightsFor", unfollowed := true, recurses := true, apart := false, narrowed := true }
def FnExactWeightsForUptoSaid : Prop := fnExactWeightsForUptoRow.holds Try.pinned (OpenSpec.upto fnExactWeightsForSpec)

/-- 'laws.FnExactKeptMags', WHERE WHAT IT READS IS OF BULK AT MOST 1048576: true; the input reads as it did. -/
def fnExactKeptMagsUptoRow : OpenClaim := { program := "ytfohoidbiiipgaa", sum := "5fdebb0abe6e0eaa21010bba8a8a711eb232960d634adf65db66290f8ccf9393", func := "loop.example/g01026/laws.FnExactKeptMags", spec := "fnExactKeptMags", unfollowed := true, recurses := true, apart := false, narrowed := true }
def FnExactKeptMagsUptoSaid : Prop := fnExactKeptMagsUptoRow.holds Try.pinned (OpenSpec.upto fnExactKeptMagsSpec)

/-- 'laws.FnExactClipMags', WHERE WHAT IT READS IS OF BULK AT MOST 1048576: true; the input reads as it did. -/
def fnExactClipMagsUptoRow : OpenClaim := { program := "ytfohoidbiiipgaa", sum := "5fdebb0abe6e0eaa21010bba8a8a711eb232960d634adf65db66290f8ccf9393", func := "loop.example/g01026/laws.FnExactClipMags", spec := "fnExactClipMags", unfollowed := true, recurses := true, apart := false, narrowed := true }
def FnExactClipMagsUptoSaid : Prop := fnExactClipMagsUptoRow.holds Try.pinned (OpenSpec.upto fnExactClipMagsSpec)

end Rows
end Go.Proofs.Ytfohoidbiiipgaa
