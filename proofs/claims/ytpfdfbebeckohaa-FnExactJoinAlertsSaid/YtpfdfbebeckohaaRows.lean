/-
  No cell of these rows narrows 'for every input' (looked for: loops, veiled, ifaces, maps, wideKeys, modest, calm, conditions, laid).
  DERIVED. THE GIVEN ROWS OF THIS SEAT. 11 by the template 'for every input the law returns true; each argument reads behind the call as it read before'; 0 by the template 'total and deterministic' (their statements: YtpfdfbebeckohaaTotals.lean).
  GIVEN WITH THE SEED: the statements are not yours to turn. If you find one false, say at which input.
  Laid BY PROGRAM, IN A SANDBOX (cutbox-rows.mjs): the forced cells as the released guide's own fill.sh prints them over the translation 598c61d7aaf30ed2… (all of the seat's roots in one cut). By AI agents, Wed Nov 11 2026. No macro, syntax, notation, axiom, sorry.
-/
import Derived.Test.YtpfdfbebeckohaaChecked
import GoSem.Claim
import GoSem.ClaimJoined
import GoSem.ClaimMapViews
import Derived.JoinedTies
import Derived.KernelRfl
namespace Go.Proofs.Ytpfdfbebeckohaa
/- THE CELL 'sum', in the pinned program and in every row, IS THE sha256 OF THE DUMP (.gsa) THAT YtpfdfbebeckohaaProg.lean LOADS. Nothing in Lean hashes anything: it is a label: what it is worth is what the hold of that sum in a sandbox is worth. -/
noncomputable def Try.pinned : Pinned := { name := "ytpfdfbebeckohaa", sum := "598c61d7aaf30ed21364f9161ce9ca315bfb93f8a227d6d60e4fd86abb1e9e22", checked := Try.checked }
namespace Rows
def none {H : Type} : Left H := { results := [], args := [] }

/-- 'laws.FnExactLongestAlert': WHATEVER THE INPUT: true; the input reads as it did. -/
def fnExactLongestAlertSpec : ChangeSpec := { name := "fnExactLongestAlert", fn := fun _ => fun
  | [d] => { results := [.lit (.bool true)], args := [d] }
  | _ => none }
def fnExactLongestAlertRow : OpenClaim := { program := "ytpfdfbebeckohaa", sum := "598c61d7aaf30ed21364f9161ce9ca315bfb93f8a227d6d60e4fd86abb1e9e22", func := "loop.example/g01026/laws.FnExactLongestAlert", spec := "fnExactLongestAlert", apart := false }
def FnExactLongestAlertSaid : Prop := fnExactLongestAlertRow.holds Try.pinned (OpenSpec.ofChange fnExactLongestAlertSpec)

/-- ITS FALSE NEIGHBOUR: 'it returns false'. Refute it at one input. -/
def fnExactLongestAlertWrong : ChangeSpec := { name := "fnExactLongestAlert", fn := fun _ => fun
  | [d] => { results := [.lit (.bool false)], args := [d] }
  | _ => none }
def FnExactLongestAlertWrongFalsely : Prop := fnExactLongestAlertRow.holds Try.pinned (OpenSpec.ofChange fnExactLongestAlertWrong)

/-- 'laws.FnExactQuietTime': WHATEVER THE INPUT: true; the input reads as it did. -/
def fnExactQuietTimeSpec : ChangeSpec := { name := "fnExactQuietTime", fn := fun _ => fun
  | [d] => { results := [.lit (.bool true)], args := [d] }
  | _ => none }
def fnExactQuietTimeRow : OpenClaim := { program := "ytpfdfbebeckohaa", sum := "598c61d7aaf30ed21364f9161ce9ca315bfb93f8a227d6d60e4fd86abb1e9e22", func := "loop.example/g01026/laws.FnExactQuietTime", spec := "fnExactQuietTime", apart := false }
def FnExactQuietTimeSaid : Prop := fnExactQuietTimeRow.holds Try.pinned (OpenSpec.ofChange fnExactQuietTimeSpec)

/-- ITS FALSE NEIGHBOUR: 'it returns false'. Refute it at one input. -/
def fnExactQuietTimeWrong : ChangeSpec := { name := "fnExactQuietTime", fn := fun _ => fun
  | [d] => { results := [.lit (.bool false)], args := [d] }
  | _ => none }
def FnExactQuietTimeWrongFalsely : Prop := fnExactQuietTimeRow.holds Try.pinned (OpenSpec.ofChange fnExactQuietTimeWrong)

/-- 'laws.FnExactFastRises': WHATEVER THE INPUT: true; the input reads as it did. -/
def fnExactFastRisesSpec : ChangeSpec := { name := "fnExactFastRises", fn := fun _ => fun
  | [d1, d2, d3] => { results := [.lit (.bool true)], args := [d1, d2, d3] }
  | _ => none }
def fnExactFastRisesRow : OpenClaim := { program := "ytpfdfbebeckohaa", sum := "598c61d7aaf30ed21364f9161ce9ca315bfb93f8a227d6d60e4fd86abb1e9e22", func := "loop.example/g01026/laws.FnExactFastRises", spec := "fnExactFastRises", unfollowed := true, recurses := true, apart := false }
def FnExactFastRisesSaid : Prop := fnExactFastRisesRow.holds Try.pinned (OpenSpec.ofChange fnExactFastRisesSpec)

/-- ITS FALSE NEIGHBOUR: 'it returns false'. Refute it at one input. -/
def fnExactFastRisesWrong : ChangeSpec := { name := "fnExactFastRises", fn := fun _ => fun
  | [d1, d2, d3] => { results := [.lit (.bool false)], args := [d1, d2, d3] }
  | _ => none }
def FnExactFastRisesWrongFalsely : Prop := fnExactFastRisesRow.holds Try.pinned (OpenSpec.ofChange fnExactFastRisesWrong)

/-- 'laws.FnExactJoinAlerts': WHATEVER THE INPUT: true; the input reads as it did. -/
def fnExactJoinAlertsSpec : ChangeSpec := { name := "fnExactJoinAlerts", fn := fun _ => fun
  | [d1, d2] => { results := [.lit (.bool true)], args := [d1, d2] }
  | _ => none }
def fnExactJoinAlertsRow : OpenClaim := { program := "ytpfdfbebeckohaa", sum := "598c61d7aaf30ed21364f9161ce9ca315bfb93f8a227d6d60e4fd86abb1e9e22", func := "loop.example/g01026/laws.FnExactJoinAlerts", spec := "fnExactJoinAlerts", apart := false }
def FnExactJoinAlertsSaid : Prop := fnExactJoinAlertsRow.holds Try.pinned (OpenSpec.ofChange fnExactJoinAlertsSpec)

/-- ITS FALSE NEIGHBOUR: 'it returns false'. Refute it at one input. -/
def fnExactJoinAlertsWrong : ChangeSpec := { name := "fnExactJoinAlerts", fn := fun _ => fun
  | [d1, d2] => { results := [.lit (.bool false)], args := [d1, d2] }
  | _ => none }
def FnExactJoinAlertsWrongFalsely : Prop := fnExactJoinAlertsRow.holds Try.pinned (OpenSpec.ofChange fnExactJoinAlertsWrong)

/-- 'laws.FnExactStatesOf': WHATEVER THE INPUT: true; the input reads as it did. -/
def fnExactStatesOfSpec : ChangeSpec := { name := "fnExactStatesOf", fn := fun _ => fun
  | [d1, d2] => { results := [.lit (.bool true)], args := [d1, d2] }
  | _ => none }
def fnExactStatesOfRow : OpenClaim := { program := "ytpfdfbebeckohaa", sum := "598c61d7aaf30ed21364f9161ce9ca315bfb93f8a227d6d60e4fd86abb1e9e22", func := "loop.example/g01026/laws.FnExactStatesOf", spec := "fnExactStatesOf", unfollowed := true, recurses := true, apart := false }
def FnExactStatesOfSaid : Prop := fnExactStatesOfRow.holds Try.pinned (OpenSpec.ofChange fnExactStatesOfSpec)

/-- ITS FALSE NEIGHBOUR: 'it returns false'. Refute it at one input. -/
def fnExactStatesOfWrong : ChangeSpec := { name := "fnExactStatesOf", fn := fun _ => fun
  | [d1, d2] => { results := [.lit (.bool false)], args := [d1, d2] }
  | _ => none }
def FnExactStatesOfWrongFalsely : Prop := fnExactStatesOfRow.holds Try.pinned (OpenSpec.ofChange fnExactStatesOfWrong)

/-- 'laws.FnExactBestThreshold': WHATEVER THE INPUT: true; the input reads as it did. -/
def fnExactBestThresholdSpec : ChangeSpec := { name := "fnExactBestThreshold", fn := fun _ => fun
  | [d1, d2, d3] => { results := [.lit (.bool true)], args := [d1, d2, d3] }
  | _ => none }
def fnExactBestThresholdRow : OpenClaim := { program := "ytpfdfbebeckohaa", sum := "598c61d7aaf30ed21364f9161ce9ca315bfb93f8a227d6d60e4fd86abb1e9e22", func := "loop.example/g01026/laws.FnExactBestThreshold", spec := "fnExactBestThreshold", unfollowed := true, recurses := true, apart := false }
def FnExactBestThresholdSaid : Prop := fnExactBestThresholdRow.holds Try.pinned (OpenSpec.ofChange fnExactBestThresholdSpec)

/-- ITS FALSE NEIGHBOUR: 'it returns false'. Refute it at one input. -/
def fnExactBestThresholdWrong : ChangeSpec := { name := "fnExactBestThreshold", fn := fun _ => fun
  | [d1, d2, d3] => { results := [.lit (.bool false)], args := [d1, d2, d3] }
  | _ => none }
def FnExactBestThresholdWrongFalsely : Prop := fnExactBestThresholdRow.holds Try.pinned (OpenSpec.ofChange fnExactBestThresholdWrong)

/-- 'laws.FnExactFadingsOf': WHATEVER THE INPUT: true; the input reads as it did. -/
def fnExactFadingsOfSpec : ChangeSpec := { name := "fnExactFadingsOf", fn := fun _ => fun
  | [d1, d2] => { results := [.lit (.bool true)], args := [d1, d2] }
  | _ => none }
def fnExactFadingsOfRow : OpenClaim := { program := "ytpfdfbebeckohaa", sum := "598c61d7aaf30ed21364f9161ce9ca315bfb93f8a227d6d60e4fd86abb1e9e22", func := "loop.example/g01026/laws.FnExactFadingsOf", spec := "fnExactFadingsOf", unfollowed := true, recurses := true, apart := false }
def FnExactFadingsOfSaid : Prop := fnExactFadingsOfRow.holds Try.pinned (OpenSpec.ofChange fnExactFadingsOfSpec)

/-- ITS FALSE NEIGHBOUR: 'it returns false'. Refute it at one input. -/
def fnExactFadingsOfWrong : ChangeSpec := { name := "fnExactFadingsOf", fn := fun _ => fun
  | [d1, d2] => { results := [.lit (.bool false)], args := [d1, d2] }
  | _ => none }
def FnExactFadingsOfWrongFalsely : Prop := fnExactFadingsOfRow.holds Try.pinned (OpenSpec.ofChange fnExactFadingsOfWrong)

/-- 'laws.FnExactOutburstsOf': WHATEVER THE INPUT: true; the input reads as it did. -/
def fnExactOutburstsOfSpec : ChangeSpec := { name := "fnExactOutburstsOf", fn := fun _ => fun
  | [d1, d2] => { results := [.lit (.bool true)], args := [d1, d2] }
  | _ => none }
def fnExactOutburstsOfRow : OpenClaim := { program := "ytpfdfbebeckohaa", sum := "598c61d7aaf30ed21364f9161ce9ca315bfb93f8a227d6d60e4fd86abb1e9e22", func := "loop.example/g01026/laws.FnExactOutburstsOf", spec := "fnExactOutburstsOf", unfollowed := true, recurses := true, apart := false }
def FnExactOutburstsOfSaid : Prop := fnExactOutburstsOfRow.holds Try.pinned (OpenSpec.ofChange fnExactOutburstsOfSpec)

/-- ITS FALSE NEIGHBOUR: 'it returns false'. Refute it at one input. -/
def fnExactOutburstsOfWrong : ChangeSpec := { name := "fnExactOutburstsOf", fn := fun _ => fun
  | [d1, d2] => { results := [.lit (.bool false)], args := [d1, d2] }
  | _ => none }
def FnExactOutburstsOfWrongFalsely : Prop := fnExactOutburstsOfRow.holds Try.pinned (OpenSpec.ofChange fnExactOutburstsOfWrong)

/-- 'laws.FnExactTimesIn': WHATEVER THE INPUT: true; the input reads as it did. -/
def fnExactTimesInSpec : ChangeSpec := { name := "fnExactTimesIn", fn := fun _ => fun
  | [d1, d2, d3] => { results := [.lit (.bool true)], args := [d1, d2, d3] }
  | _ => none }
def fnExactTimesInRow : OpenClaim := { program := "ytpfdfbebeckohaa", sum := "598c61d7aaf30ed21364f9161ce9ca315bfb93f8a227d6d60e4fd86abb1e9e22", func := "loop.example/g01026/laws.FnExactTimesIn", spec := "fnExactTimesIn", apart := false }
def FnExactTimesInSaid : Prop := fnExactTimesInRow.holds Try.pinned (OpenSpec.ofChange fnExactTimesInSpec)

/-- ITS FALSE NEIGHBOUR: 'it returns false'. Refute it at one input. -/
def fnExactTimesInWrong : ChangeSpec := { name := "fnExactTimesIn", fn := fun _ => fun
  | [d1, d2, d3] => { results := [.lit (.bool false)], args := [d1, d2, d3] }
  | _ => none }
def FnExactTimesInWrongFalsely : Prop := fnExactTimesInRow.holds Try.pinned (OpenSpec.ofChange fnExactTimesInWrong)

/-- 'laws.FnExactNextVisible': WHATEVER THE INPUT: true; the input reads as it did. -/
def fnExactNextVisibleSpec : ChangeSpec := { name := "fnExactNextVisible", fn := fun _ => fun
  | [d1, d2, d3] => { results := [.lit (.bool true)], args := [d1, d2, d3] }
  | _ => none }
def fnExactNextVisibleRow : OpenClaim := { program := "ytpfdfbebeckohaa", sum := "598c61d7aaf30ed21364f9161ce9ca315bfb93f8a227d6d60e4fd86abb1e9e22", func := "loop.example/g01026/laws.FnExactNextVisible", spec := "fnExactNextVisible", apart := false }
def FnExactNextVisibleSaid : Prop := fnExactNextVisibleRow.holds Try.pinned (OpenSpec.ofChange fnExactNextVisibleSpec)

/-- ITS FALSE NEIGHBOUR: 'it returns false'. Refute it at one input. -/
def fnExactNextVisibleWrong : ChangeSpec := { name := "fnExactNextVisible", fn := fun _ => fun
  | [d1, d2, d3] => { results := [.lit (.bool false)], args := [d1, d2, d3] }
  | _ => none }
def FnExactNextVisibleWrongFalsely : Prop := fnExactNextVisibleRow.holds Try.pinned (OpenSpec.ofChange fnExactNextVisibleWrong)

/-- 'laws.FnExactVisibleTimes': WHATEVER THE INPUT: true; the input reads as it did. -/
def fnExactVisibleTimesSpec : ChangeSpec := { name := "fnExactVisibleTimes", fn := fun _ => fun
  | [d1, d2] => { results := [.lit (.bool true)], args := [d1, d2] }
  | _ => none }
def fnExactVisibleTimesRow : OpenClaim := { program := "ytpfdfbebeckohaa", sum := "598c61d7aaf30ed21364f9161ce9ca315bfb93f8a227d6d60e4fd86abb1e9e22", func := "loop.example/g01026/laws.FnExactVisibleTimes", spec := "fnExactVisibleTimes", apart := false }
def FnExactVisibleTimesSaid : Prop := fnExactVisibleTimesRow.holds Try.pinned (OpenSpec.ofChange fnExactVisibleTimesSpec)

/-- ITS FALSE NEIGHBOUR: 'it returns false'. Refute it at one input. -/
def fnExactVisibleTimesWrong : ChangeSpec := { name := "fnExactVisibleTimes", fn := fun _ => fun
  | [d1, d2] => { results := [.lit (.bool false)], args := [d1, d2] }
  | _ => none }
def FnExactVisibleTimesWrongFalsely : Prop := fnExactVisibleTimesRow.holds Try.pinned (OpenSpec.ofChange fnExactVisibleTimesWrong)

/- THE SECOND FORM. 'bulk': how many values and letters a reading holds, each counted each time it is reached (what is shared counts as often as it is met; a slice's spare places count too). A statement '..UptoSaid' is the law's where the arguments, and the package variables that the reading takes, are together of bulk at most 1048576: NARROWER than '..Said'. Prove '..Said' where nothing that the law and all that it calls make is longer than what came in: it says more and counts as full. Else prove '..UptoSaid'. A law counts once. -/
mutual
def uptoBulk {H : Type} : DataW H → Nat
  | .lit (.string bytes) => bytes.length + 1
  | .lit _ => 1
  | .nil => 1
  | .ptr d => uptoBulk d + 1
  | .slice elems spare => uptoBulkAll elems + uptoBulkAll spare + 1
  | .agg parts => uptoBulkAll parts + 1
  | .iface _ d => uptoBulk d + 1
  | .map entries => uptoBulkEntries entries + 1
  | .held _ => 1
def uptoBulkAll {H : Type} : List (DataW H) → Nat
  | [] => 0
  | d :: r => uptoBulk d + uptoBulkAll r
def uptoBulkEntries {H : Type} : List (Lit × DataW H) → Nat
  | [] => 0
  | x :: r => uptoBulkEntry x + uptoBulkEntries r
def uptoBulkEntry {H : Type} : Lit × DataW H → Nat
  | (.string bytes, d) => bytes.length + uptoBulk d + 1
  | (_, d) => uptoBulk d + 1
 end
def uptoSmall : (H : Type) → List (DataW H) → Bool := fun _ ds => decide (uptoBulkAll ds ≤ 1048576)
def OpenSpec.upto (s : _root_.Go.ChangeSpec) : _root_.Go.OpenSpec := { _root_.Go.OpenSpec.ofChange s with cond := some uptoSmall }

/-- 'laws.FnExactLongestAlert', WHERE WHAT IT READS IS OF BULK AT MOST 1048576: true; the input reads as it did. -/
def fnExactLongestAlertUptoRow : OpenClaim := { program := "ytpfdfbebeckohaa", sum := "598c61d7aaf30ed21364f9161ce9ca315bfb93f8a227d6d60e4fd86abb1e9e22", func := "loop.example/g01026/laws.FnExactLongestAlert", spec := "fnExactLongestAlert", apart := false, narrowed := true }
def FnExactLongestAlertUptoSaid : Prop := fnExactLongestAlertUptoRow.holds Try.pinned (OpenSpec.upto fnExactLongestAlertSpec)

/-- 'laws.FnExactQuietTime', WHERE WHAT IT READS IS OF BULK AT MOST 1048576: true; the input reads as it did. -/
def fnExactQuietTimeUptoRow : OpenClaim := { program := "ytpfdfbebeckohaa", sum := "598c61d7aaf30ed21364f9161ce9ca315bfb93f8a227d6d60e4fd86abb1e9e22", func := "loop.example/g01026/laws.FnExactQuietTime", spec := "fnExactQuietTime", apart := false, narrowed := true }
def FnExactQuietTimeUptoSaid : Prop := fnExactQuietTimeUptoRow.holds Try.pinned (OpenSpec.upto fnExactQuietTimeSpec)

/-- 'laws.FnExactFastRises', WHERE WHAT IT READS IS OF BULK AT MOST 1048576: true; the input reads as it did. -/
def fnExactFastRisesUptoRow : OpenClaim := { program := "ytpfdfbebeckohaa", sum := "598c61d7aaf30ed21364f9161ce9ca315bfb93f8a227d6d60e4fd86abb1e9e22", func := "loop.example/g01026/laws.FnExactFastRises", spec := "fnExactFastRises", unfollowed := true, recurses := true, apart := false, narrowed := true }
def FnExactFastRisesUptoSaid : Prop := fnExactFastRisesUptoRow.holds Try.pinned (OpenSpec.upto fnExactFastRisesSpec)

/-- 'laws.FnExactJoinAlerts', WHERE WHAT IT READS IS OF BULK AT MOST 1048576: true; the input reads as it did. -/
def fnExactJoinAlertsUptoRow : OpenClaim := { program := "ytpfdfbebeckohaa", sum := "598c61d7aaf30ed21364f9161ce9ca315bfb93f8a227d6d60e4fd86abb1e9e22", func := "loop.example/g01026/laws.FnExactJoinAlerts", spec := "fnExactJoinAlerts", apart := false, narrowed := true }
def FnExactJoinAlertsUptoSaid : Prop := fnExactJoinAlertsUptoRow.holds Try.pinned (OpenSpec.upto fnExactJoinAlertsSpec)

/-- 'laws.FnExactStatesOf', WHERE WHAT IT READS IS OF BULK AT MOST 1048576: true; the input reads as it did. -/
def fnExactStatesOfUptoRow : OpenClaim := { program := "ytpfdfbebeckohaa", sum := "598c61d7aaf30ed21364f9161ce9ca315bfb93f8a227d6d60e4fd86abb1e9e22", func := "loop.example/g01026/laws.FnExactStatesOf", spec := "fnExactStatesOf", unfollowed := true, recurses := true, apart := false, narrowed := true }
def FnExactStatesOfUptoSaid : Prop := fnExactStatesOfUptoRow.holds Try.pinned (OpenSpec.upto fnExactStatesOfSpec)

/-- 'laws.FnExactBestThreshold', WHERE WHAT IT READS IS OF BULK AT MOST 1048576: true; the input reads as it did. -/
def fnExactBestThresholdUptoRow : OpenClaim := { program := "ytpfdfbebeckohaa", sum := "598c61d7aaf30ed21364f9161ce9ca315bfb93f8a227d6d60e4fd86abb1e9e22", func := "loop.example/g01026/laws.FnExactBestThreshold", spec := "fnExactBestThreshold", unfollowed := true, recurses := true, apart := false, narrowed := true }
def FnExactBestThresholdUptoSaid : Prop := fnExactBestThresholdUptoRow.holds Try.pinned (OpenSpec.upto fnExactBestThresholdSpec)

/-- 'laws.FnExactFadingsOf', WHERE WHAT IT READS IS OF BULK AT MOST 1048576: true; the input reads as it did. -/
def fnExactFadingsOfUptoRow : OpenClaim := { program := "ytpfdfbebeckohaa", sum := "598c61d7aaf30ed21364f9161ce9ca315bfb93f8a227d6d60e4fd86abb1e9e22", func := "loop.example/g01026/laws.FnExactFadingsOf", spec := "fnExactFadingsOf", unfollowed := true, recurses := true, apart := false, narrowed := true }
def FnExactFadingsOfUptoSaid : Prop := fnExactFadingsOfUptoRow.holds Try.pinned (OpenSpec.upto fnExactFadingsOfSpec)

/-- 'laws.FnExactOutburstsOf', WHERE WHAT IT READS IS OF BULK AT MOST 1048576: true; the input reads as it did. -/
def fnExactOutburstsOfUptoRow : OpenClaim := { program := "ytpfdfbebeckohaa", sum := "598c61d7aaf30ed21364f9161ce9ca315bfb93f8a227d6d60e4fd86abb1e9e22", func := "loop.example/g01026/laws.FnExactOutburstsOf", spec := "fnExactOutburstsOf", unfollowed := true, recurses := true, apart := false, narrowed := true }
def FnExactOutburstsOfUptoSaid : Prop := fnExactOutburstsOfUptoRow.holds Try.pinned (OpenSpec.upto fnExactOutburstsOfSpec)

/-- 'laws.FnExactTimesIn', WHERE WHAT IT READS IS OF BULK AT MOST 1048576: true; the input reads as it did. -/
def fnExactTimesInUptoRow : OpenClaim := { program := "ytpfdfbebeckohaa", sum := "598c61d7aaf30ed21364f9161ce9ca315bfb93f8a227d6d60e4fd86abb1e9e22", func := "loop.example/g01026/laws.FnExactTimesIn", spec := "fnExactTimesIn", apart := false, narrowed := true }
def FnExactTimesInUptoSaid : Prop := fnExactTimesInUptoRow.holds Try.pinned (OpenSpec.upto fnExactTimesInSpec)

/-- 'laws.FnExactNextVisible', WHERE WHAT IT READS IS OF BULK AT MOST 1048576: true; the input reads as it did. -/
def fnExactNextVisibleUptoRow : OpenClaim := { program := "ytpfdfbebeckohaa", sum := "598c61d7aaf30ed21364f9161ce9ca315bfb93f8a227d6d60e4fd86abb1e9e22", func := "loop.example/g01026/laws.FnExactNextVisible", spec := "fnExactNextVisible", apart := false, narrowed := true }
def FnExactNextVisibleUptoSaid : Prop := fnExactNextVisibleUptoRow.holds Try.pinned (OpenSpec.upto fnExactNextVisibleSpec)

/-- 'laws.FnExactVisibleTimes', WHERE WHAT IT READS IS OF BULK AT MOST 1048576: true; the input reads as it did. -/
def fnExactVisibleTimesUptoRow : OpenClaim := { program := "ytpfdfbebeckohaa", sum := "598c61d7aaf30ed21364f9161ce9ca315bfb93f8a227d6d60e4fd86abb1e9e22", func := "loop.example/g01026/laws.FnExactVisibleTimes", spec := "fnExactVisibleTimes", apart := false, narrowed := true }
def FnExactVisibleTimesUptoSaid : Prop := fnExactVisibleTimesUptoRow.holds Try.pinned (OpenSpec.upto fnExactVisibleTimesSpec)

end Rows
end Go.Proofs.Ytpfdfbebeckohaa
