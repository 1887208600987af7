/-
  No cell of these rows narrows 'for every input' (looked for: loops, veiled, ifaces, maps, wideKeys, modest, calm, conditions, laid).
  DERIVED. THE GIVEN ROWS OF THIS SEAT. 3 by the template 'for every input the law returns true; each argument reads behind the call as it read before'; 0 by the template 'total and deterministic' (their statements: YtjdlledbjindmaaTotals.lean).
  GIVEN WITH THE SEED: the statements are not yours to turn. If you find one false, say at which input.
  Laid BY PROGRAM, IN A SANDBOX (cutbox-rows.mjs): the forced cells as the released guide's own fill.sh prints them over the translation 5ec21486318e0e0e… (all of the seat's roots in one cut). By AI agents, Wed Nov 11 2026. No macro, syntax, notation, axiom, sorry.
-/
import Derived.Test.YtjdlledbjindmaaChecked
import GoSem.Claim
import GoSem.ClaimJoined
import GoSem.ClaimMapViews
import Derived.JoinedTies
import Derived.KernelRfl
namespace Go.Proofs.Ytjdlledbjindmaa
/- THE CELL 'sum', in the pinned program and in every row, IS THE sha256 OF THE DUMP (.gsa) THAT YtjdlledbjindmaaProg.lean LOADS. Nothing in Lean hashes anything: it is a label: what it is worth is what the hold of that sum in a sandbox is worth. -/
noncomputable def Try.pinned : Pinned := { name := "ytjdlledbjindmaa", sum := "5ec21486318e0e0ea35dfb9e41a48e55037c23d2659cdd4fff95509c90fbc817", checked := Try.checked }
namespace Rows
def none {H : Type} : Left H := { results := [], args := [] }

/-- 'laws.FnExactLeaveOneOut': WHATEVER THE INPUT: true; the input reads as it did. -/
def fnExactLeaveOneOutSpec : ChangeSpec := { name := "fnExactLeaveOneOut", fn := fun _ => fun
  | [d] => { results := [.lit (.bool true)], args := [d] }
  | _ => none }
def fnExactLeaveOneOutRow : OpenClaim := { program := "ytjdlledbjindmaa", sum := "5ec21486318e0e0ea35dfb9e41a48e55037c23d2659cdd4fff95509c90fbc817", func := "loop.example/g01026/laws.FnExactLeaveOneOut", spec := "fnExactLeaveOneOut", unfollowed := true, recurses := true, apart := false }
def FnExactLeaveOneOutSaid : Prop := fnExactLeaveOneOutRow.holds Try.pinned (OpenSpec.ofChange fnExactLeaveOneOutSpec)

/-- ITS FALSE NEIGHBOUR: 'it returns false'. Refute it at one input. -/
def fnExactLeaveOneOutWrong : ChangeSpec := { name := "fnExactLeaveOneOut", fn := fun _ => fun
  | [d] => { results := [.lit (.bool false)], args := [d] }
  | _ => none }
def FnExactLeaveOneOutWrongFalsely : Prop := fnExactLeaveOneOutRow.holds Try.pinned (OpenSpec.ofChange fnExactLeaveOneOutWrong)

/-- 'laws.FnExactSquareOfError': WHATEVER THE INPUT: true; the input reads as it did. -/
def fnExactSquareOfErrorSpec : ChangeSpec := { name := "fnExactSquareOfError", fn := fun _ => fun
  | [d] => { results := [.lit (.bool true)], args := [d] }
  | _ => none }
def fnExactSquareOfErrorRow : OpenClaim := { program := "ytjdlledbjindmaa", sum := "5ec21486318e0e0ea35dfb9e41a48e55037c23d2659cdd4fff95509c90fbc817", func := "loop.example/g01026/laws.FnExactSquareOfError", spec := "fnExactSquareOfError", unfollowed := true, recurses := true, apart := false }
def FnExactSquareOfErrorSaid : Prop := fnExactSquareOfErrorRow.holds Try.pinned (OpenSpec.ofChange fnExactSquareOfErrorSpec)

/-- ITS FALSE NEIGHBOUR: 'it returns false'. Refute it at one input. -/
def fnExactSquareOfErrorWrong : ChangeSpec := { name := "fnExactSquareOfError", fn := fun _ => fun
  | [d] => { results := [.lit (.bool false)], args := [d] }
  | _ => none }
def FnExactSquareOfErrorWrongFalsely : Prop := fnExactSquareOfErrorRow.holds Try.pinned (OpenSpec.ofChange fnExactSquareOfErrorWrong)

/-- 'laws.FnExactWeightedMean': WHATEVER THE INPUT: true; the input reads as it did. -/
def fnExactWeightedMeanSpec : ChangeSpec := { name := "fnExactWeightedMean", fn := fun _ => fun
  | [d1, d2] => { results := [.lit (.bool true)], args := [d1, d2] }
  | _ => none }
def fnExactWeightedMeanRow : OpenClaim := { program := "ytjdlledbjindmaa", sum := "5ec21486318e0e0ea35dfb9e41a48e55037c23d2659cdd4fff95509c90fbc817", func := "loop.example/g01026/laws.FnExactWeightedMean", spec := "fnExactWeightedMean", unfollowed := true, recurses := true, apart := false }
def FnExactWeightedMeanSaid : Prop := fnExactWeightedMeanRow.holds Try.pinned (OpenSpec.ofChange fnExactWeightedMeanSpec)

/-- ITS FALSE NEIGHBOUR: 'it returns false'. Refute it at one input. -/
def fnExactWeightedMeanWrong : ChangeSpec := { name := "fnExactWeightedMean", fn := fun _ => fun
  | [d1, d2] => { results := [.lit (.bool false)], args := [d1, d2] }
  | _ => none }
def FnExactWeightedMeanWrongFalsely : Prop := fnExactWeightedMeanRow.holds Try.pinned (OpenSpec.ofChange fnExactWeightedMeanWrong)

/- THE SECOND FORM. 'bulk': how many values and letters a reading holds, each counted each time it is reached (what is shared counts as often as it is met; a slice's spare places count too). A statement '..UptoSaid' is the law's where the arguments, and the package variables that the reading takes, are together of bulk at most 1048576: NARROWER than '..Said'. Prove '..Said' where nothing that the law and all that it calls make is longer than what came in: it says more and counts as full. Else prove '..UptoSaid'. A law counts once. -/
mutual
def uptoBulk {H : Type} : DataW H → Nat
  | .lit (.string bytes) => bytes.length + 1
  | .lit _ => 1
  | .nil => 1
  | .ptr d => uptoBulk d + 1
  | .slice elems spare => uptoBulkAll elems + uptoBulkAll spare + 1
  | .agg parts => uptoBulkAll parts + 1
  | .iface _ d => uptoBulk d + 1
  | .map entries => uptoBulkEntries entries + 1
  | .held _ => 1
def uptoBulkAll {H : Type} : List (DataW H) → Nat
  | [] => 0
  | d :: r => uptoBulk d + uptoBulkAll r
def uptoBulkEntries {H : Type} : List (Lit × DataW H) → Nat
  | [] => 0
  | x :: r => uptoBulkEntry x + uptoBulkEntries r
def uptoBulkEntry {H : Type} : Lit × DataW H → Nat
  | (.string bytes, d) => bytes.length + uptoBulk d + 1
  | (_, d) => uptoBulk d + 1
 end
def uptoSmall : (H : Type) → List (DataW H) → Bool := fun _ ds => decide (uptoBulkAll ds ≤ 1048576)
def OpenSpec.upto (s : _root_.Go.ChangeSpec) : _root_.Go.OpenSpec := { _root_.Go.OpenSpec.ofChange s with cond := some uptoSmall }

/-- 'laws.FnExactLeaveOneOut', WHERE WHAT IT READS IS OF BULK AT MOST 1048576: true; the input reads as it did. -/
def fnExactLeaveOneOutUptoRow : OpenClaim := { program := "ytjdlledbjindmaa", sum := "5ec21486318e0e0ea35dfb9e41a48e55037c23d2659cdd4fff95509c90fbc817", func := "loop.example/g01026/laws.FnExactLeaveOneOut", spec := "fnExactLeaveOneOut", unfollowed := true, recurses := true, apart := false, narrowed := true }
def FnExactLeaveOneOutUptoSaid : Prop := fnExactLeaveOneOutUptoRow.holds Try.pinned (OpenSpec.upto fnExactLeaveOneOutSpec)

/-- 'laws.FnExactSquareOfError', WHERE WHAT IT READS IS OF BULK AT MOST 1048576: true; the input reads as it did. -/
def fnExactSquareOfErrorUptoRow : OpenClaim := { program := "ytjdlledbjindmaa", sum := "5ec21486318e0e0ea35dfb9e41a48e55037c23d2659cdd4fff95509c90fbc817", func := "loop.example/g01026/laws.FnExactSquareOfError", spec := "fnExactSquareOfError", unfollowed := true, recurses := true, apart := false, narrowed := true }
def FnExactSquareOfErrorUptoSaid : Prop := fnExactSquareOfErrorUptoRow.holds Try.pinned (OpenSpec.upto fnExactSquareOfErrorSpec)

/-- 'laws.FnExactWeightedMean', WHERE WHAT IT READS IS OF BULK AT MOST 1048576: true; the input reads as it did. -/
def fnExactWeightedMeanUptoRow : OpenClaim := { program := "ytjdlledbjindmaa", sum := "5ec21486318e0e0ea35dfb9e41a48e55037c23d2659cdd4fff95509c90fbc817", func := "loop.example/g01026/laws.FnExactWeightedMean", spec := "fnExactWeightedMean", unfollowed := true, recurses := true, apart := false, narrowed := true }
def FnExactWeightedMeanUptoSaid : Prop := fnExactWeightedMeanUptoRow.holds Try.pinned (OpenSpec.upto fnExactWeightedMeanSpec)

end Rows
end Go.Proofs.Ytjdlledbjindmaa
