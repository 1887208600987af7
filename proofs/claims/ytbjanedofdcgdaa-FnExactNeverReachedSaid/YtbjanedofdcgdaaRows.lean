/-
  No cell of these rows narrows 'for every input' (looked for: loops, veiled, ifaces, maps, wideKeys, modest, calm, conditions, laid).
  DERIVED. THE GIVEN ROWS OF THIS SEAT. 3 by the template 'for every input the law returns true; each argument reads behind the call as it read before'; 0 by the template 'total and deterministic' (their statements: YtbjanedofdcgdaaTotals.lean).
  GIVEN WITH THE SEED: the statements are not yours to turn. If you find one false, say at which input.
  Laid BY PROGRAM, IN A SANDBOX (cutbox-rows.mjs): the forced cells as the released guide's own fill.sh prints them over the translation 287bc3890e44bbae… (all of the seat's roots in one cut). By AI agents, Wed Nov 11 2026. No macro, syntax, notation, axiom, sorry.
-/
import Derived.Test.YtbjanedofdcgdaaChecked
import GoSem.Claim
import GoSem.ClaimJoined
import GoSem.ClaimMapViews
import Derived.JoinedTies
import Derived.KernelRfl
namespace Go.Proofs.Ytbjanedofdcgdaa
/- THE CELL 'sum', in the pinned program and in every row, IS THE sha256 OF THE DUMP (.gsa) THAT YtbjanedofdcgdaaProg.lean LOADS. Nothing in Lean hashes anything: it is a label: what it is worth is what the hold of that sum in a sandbox is worth. -/
noncomputable def Try.pinned : Pinned := { name := "ytbjanedofdcgdaa", sum := "287bc3890e44bbae040ed8076723bf003336a6dd444bec9d55b643d325ee137f", checked := Try.checked }
namespace Rows
def none {H : Type} : Left H := { results := [], args := [] }

/-- 'laws.FnExactUnclassedFacts': WHATEVER THE INPUT: true; the input reads as it did. -/
def fnExactUnclassedFactsSpec : ChangeSpec := { name := "fnExactUnclassedFacts", fn := fun _ => fun
  | [d] => { results := [.lit (.bool true)], args := [d] }
  | _ => none }
def fnExactUnclassedFactsRow : OpenClaim := { program := "ytbjanedofdcgdaa", sum := "287bc3890e44bbae040ed8076723bf003336a6dd444bec9d55b643d325ee137f", func := "loop.example/g01026/laws.FnExactUnclassedFacts", spec := "fnExactUnclassedFacts", unfollowed := true, recurses := true, apart := false }
def FnExactUnclassedFactsSaid : Prop := fnExactUnclassedFactsRow.holds Try.pinned (OpenSpec.ofChange fnExactUnclassedFactsSpec)

/-- ITS FALSE NEIGHBOUR: 'it returns false'. Refute it at one input. -/
def fnExactUnclassedFactsWrong : ChangeSpec := { name := "fnExactUnclassedFacts", fn := fun _ => fun
  | [d] => { results := [.lit (.bool false)], args := [d] }
  | _ => none }
def FnExactUnclassedFactsWrongFalsely : Prop := fnExactUnclassedFactsRow.holds Try.pinned (OpenSpec.ofChange fnExactUnclassedFactsWrong)

/-- 'laws.FnExactFactsFor': WHATEVER THE INPUT: true; the input reads as it did. -/
def fnExactFactsForSpec : ChangeSpec := { name := "fnExactFactsFor", fn := fun _ => fun
  | [d1, d2] => { results := [.lit (.bool true)], args := [d1, d2] }
  | _ => none }
def fnExactFactsForRow : OpenClaim := { program := "ytbjanedofdcgdaa", sum := "287bc3890e44bbae040ed8076723bf003336a6dd444bec9d55b643d325ee137f", func := "loop.example/g01026/laws.FnExactFactsFor", spec := "fnExactFactsFor", unfollowed := true, recurses := true, apart := false }
def FnExactFactsForSaid : Prop := fnExactFactsForRow.holds Try.pinned (OpenSpec.ofChange fnExactFactsForSpec)

/-- ITS FALSE NEIGHBOUR: 'it returns false'. Refute it at one input. -/
def fnExactFactsForWrong : ChangeSpec := { name := "fnExactFactsFor", fn := fun _ => fun
  | [d1, d2] => { results := [.lit (.bool false)], args := [d1, d2] }
  | _ => none }
def FnExactFactsForWrongFalsely : Prop := fnExactFactsForRow.holds Try.pinned (OpenSpec.ofChange fnExactFactsForWrong)

/-- 'laws.FnExactNeverReached': WHATEVER THE INPUT: true; the input reads as it did. -/
def fnExactNeverReachedSpec : ChangeSpec := { name := "fnExactNeverReached", fn := fun _ => fun
  | [d] => { results := [.lit (.bool true)], args := [d] }
  | _ => none }
def fnExactNeverReachedRow : OpenClaim := { program := "ytbjanedofdcgdaa", sum := "287bc3890e44bbae040ed8076723bf003336a6dd444bec9d55b643d325ee137f", func := "loop.example/g01026/laws.FnExactNeverReached", spec := "fnExactNeverReached", unfollowed := true, recurses := true, apart := false }
def FnExactNeverReachedSaid : Prop := fnExactNeverReachedRow.holds Try.pinned (OpenSpec.ofChange fnExactNeverReachedSpec)

/-- ITS FALSE NEIGHBOUR: 'it returns false'. Refute it at one input. -/
def fnExactNeverReachedWrong : ChangeSpec := { name := "fnExactNeverReached", fn := fun _ => fun
  | [d] => { results := [.lit (.bool false)], args := [d] }
  | _ => none }
def FnExactNeverReachedWrongFalsely : Prop := fnExactNeverReachedRow.holds Try.pinned (OpenSpec.ofChange fnExactNeverReachedWrong)

/- THE SECOND FORM. 'bulk': how many values and letters a reading holds, each counted each time it is reached (what is shared counts as often as it is met; a slice's spare places count too). A statement '..UptoSaid' is the law's where the arguments, and the package variables that the reading takes, are together of bulk at most 1048576: NARROWER than '..Said'. Prove '..Said' where nothing that the law and all that it calls make is longer than what came in: it says more and counts as full. Else prove '..UptoSaid'. A law counts once. -/
mutual
def uptoBulk {H : Type} : DataW H → Nat
  | .lit (.string bytes) => bytes.length + 1
  | .lit _ => 1
  | .nil => 1
  | .ptr d => uptoBulk d + 1
  | .slice elems spare => uptoBulkAll elems + uptoBulkAll spare + 1
  | .agg parts => uptoBulkAll parts + 1
  | .iface _ d => uptoBulk d + 1
  | .map entries => uptoBulkEntries entries + 1
  | .held _ => 1
def uptoBulkAll {H : Type} : List (DataW H) → Nat
  | [] => 0
  | d :: r => uptoBulk d + uptoBulkAll r
def uptoBulkEntries {H : Type} : List (Lit × DataW H) → Nat
  | [] => 0
  | x :: r => uptoBulkEntry x + uptoBulkEntries r
def uptoBulkEntry {H : Type} : Lit × DataW H → Nat
  | (.string bytes, d) => bytes.length + uptoBulk d + 1
  | (_, d) => uptoBulk d + 1
 end
def uptoSmall : (H : Type) → List (DataW H) → Bool := fun _ ds => decide (uptoBulkAll ds ≤ 1048576)
def OpenSpec.upto (s : _root_.Go.ChangeSpec) : _root_.Go.OpenSpec := { _root_.Go.OpenSpec.ofChange s with cond := some uptoSmall }

/-- 'laws.FnExactUnclassedFacts', WHERE WHAT IT READS IS OF BULK AT MOST 1048576: true; the input reads as it did. -/
def fnExactUnclassedFactsUptoRow : OpenClaim := { program := "ytbjanedofdcgdaa", sum := "287bc3890e44bbae040ed8076723bf003336a6dd444bec9d55b643d325ee137f", func := "loop.example/g01026/laws.FnExactUnclassedFacts", spec := "fnExactUnclassedFacts", unfollowed := true, recurses := true, apart := false, narrowed := true }
def FnExactUnclassedFactsUptoSaid : Prop := fnExactUnclassedFactsUptoRow.holds Try.pinned (OpenSpec.upto fnExactUnclassedFactsSpec)

/-- 'laws.FnExactFactsFor', WHERE WHAT IT READS IS OF BULK AT MOST 1048576: true; the input reads as it did. -/
def fnExactFactsForUptoRow : OpenClaim := { program := "ytbjanedofdcgdaa", sum := "287bc3890e44bbae040ed8076723bf003336a6dd444bec9d55b643d325ee137f", func := "loop.example/g01026/laws.FnExactFactsFor", spec := "fnExactFactsFor", unfollowed := true, recurses := true, apart := false, narrowed := true }
def FnExactFactsForUptoSaid : Prop := fnExactFactsForUptoRow.holds Try.pinned (OpenSpec.upto fnExactFactsForSpec)

/-- 'laws.FnExactNeverReached', WHERE WHAT IT READS IS OF BULK AT MOST 1048576: true; the input reads as it did. -/
def fnExactNeverReachedUptoRow : OpenClaim := { program := "ytbjanedofdcgdaa", sum := "287bc3890e44bbae040ed8076723bf003336a6dd444bec9d55b643d325ee137f", func := "loop.example/g01026/laws.FnExactNeverReached", spec := "fnExactNeverReached", unfollowed := true, recurses := true, apart := false, narrowed := true }
def FnExactNeverReachedUptoSaid : Prop := fnExactNeverReachedUptoRow.holds Try.pinned (OpenSpec.upto fnExactNeverReachedSpec)

end Rows
end Go.Proofs.Ytbjanedofdcgdaa
