/-
  No cell of these rows narrows 'for every input' (looked for: loops, veiled, ifaces, maps, wideKeys, modest, calm, conditions, laid).
  DERIVED. THE GIVEN ROWS OF THIS SEAT. 4 by the template 'for every input the law returns true; each argument reads behind the call as it read before'; 0 by the template 'total and deterministic' (their statements: YtalongdieglibaaTotals.lean).
  GIVEN WITH THE SEED: the statements are not yours to turn. If you find one false, say at which input.
  Laid BY PROGRAM, IN A SANDBOX (cutbox-rows.mjs): the forced cells as the released guide's own fill.sh prints them over the translation 53550fdf6d25037c… (all of the seat's roots in one cut). By AI agents, Wed Nov 11 2026. No macro, syntax, notation, axiom, sorry.
-/
import Derived.Test.YtalongdieglibaaChecked
import GoSem.Claim
import GoSem.ClaimJoined
import GoSem.ClaimMapViews
import Derived.JoinedTies
import Derived.KernelRfl
namespace Go.Proofs.Ytalongdieglibaa
/- THE CELL 'sum', in the pinned program and in every row, IS THE sha256 OF THE DUMP (.gsa) THAT YtalongdieglibaaProg.lean LOADS. Nothing in Lean hashes anything: it is a label: what it is worth is what the hold of that sum in a sandbox is worth. -/
noncomputable def Try.pinned : Pinned := { name := "ytalongdieglibaa", sum := "53550fdf6d25037c42aac3b356e0efb2ec3eb4c5f04af5193c88890fa95496f2", checked := Try.checked }
namespace Rows
def none {H : Type} : Left H := { results := [], args := [] }

/-- 'laws.FnExactCountWrong': WHATEVER THE INPUT: true; the input reads as it did. -/
def fnExactCountWrongSpec : ChangeSpec := { name := "fnExactCountWrong", fn := fun _ => fun
  | [d1, d2] => { results := [.lit (.bool true)], args := [d1, d2] }
  | _ => none }
def fnExactCountWrongRow : OpenClaim := { program := "ytalongdieglibaa", sum := "53550fdf6d25037c42aac3b356e0efb2ec3eb4c5f04af5193c88890fa95496f2", func := "loop.example/g01026/laws.FnExactCountWrong", spec := "fnExactCountWrong", unfollowed := true, recurses := true, apart := false }
def FnExactCountWrongSaid : Prop := fnExactCountWrongRow.holds Try.pinned (OpenSpec.ofChange fnExactCountWrongSpec)

/-- ITS FALSE NEIGHBOUR: 'it returns false'. Refute it at one input. -/
def fnExactCountWrongWrong : ChangeSpec := { name := "fnExactCountWrong", fn := fun _ => fun
  | [d1, d2] => { results := [.lit (.bool false)], args := [d1, d2] }
  | _ => none }
def FnExactCountWrongWrongFalsely : Prop := fnExactCountWrongRow.holds Try.pinned (OpenSpec.ofChange fnExactCountWrongWrong)

/-- 'laws.FnExactGroupsOfStars': WHATEVER THE INPUT: true; the input reads as it did. -/
def fnExactGroupsOfStarsSpec : ChangeSpec := { name := "fnExactGroupsOfStars", fn := fun _ => fun
  | [d1, d2] => { results := [.lit (.bool true)], args := [d1, d2] }
  | _ => none }
def fnExactGroupsOfStarsRow : OpenClaim := { program := "ytalongdieglibaa", sum := "53550fdf6d25037c42aac3b356e0efb2ec3eb4c5f04af5193c88890fa95496f2", func := "loop.example/g01026/laws.FnExactGroupsOfStars", spec := "fnExactGroupsOfStars", unfollowed := true, recurses := true, apart := false }
def FnExactGroupsOfStarsSaid : Prop := fnExactGroupsOfStarsRow.holds Try.pinned (OpenSpec.ofChange fnExactGroupsOfStarsSpec)

/-- ITS FALSE NEIGHBOUR: 'it returns false'. Refute it at one input. -/
def fnExactGroupsOfStarsWrong : ChangeSpec := { name := "fnExactGroupsOfStars", fn := fun _ => fun
  | [d1, d2] => { results := [.lit (.bool false)], args := [d1, d2] }
  | _ => none }
def FnExactGroupsOfStarsWrongFalsely : Prop := fnExactGroupsOfStarsRow.holds Try.pinned (OpenSpec.ofChange fnExactGroupsOfStarsWrong)

/-- 'laws.FnExactFewestWrong': WHATEVER THE INPUT: true; the input reads as it did. -/
def fnExactFewestWrongSpec : ChangeSpec := { name := "fnExactFewestWrong", fn := fun _ => fun
  | [d1, d2] => { results := [.lit (.bool true)], args := [d1, d2] }
  | _ => none }
def fnExactFewestWrongRow : OpenClaim := { program := "ytalongdieglibaa", sum := "53550fdf6d25037c42aac3b356e0efb2ec3eb4c5f04af5193c88890fa95496f2", func := "loop.example/g01026/laws.FnExactFewestWrong", spec := "fnExactFewestWrong", unfollowed := true, recurses := true, apart := false }
def FnExactFewestWrongSaid : Prop := fnExactFewestWrongRow.holds Try.pinned (OpenSpec.ofChange fnExactFewestWrongSpec)

/-- ITS FALSE NEIGHBOUR: 'it returns false'. Refute it at one input. -/
def fnExactFewestWrongWrong : ChangeSpec := { name := "fnExactFewestWrong", fn := fun _ => fun
  | [d1, d2] => { results := [.lit (.bool false)], args := [d1, d2] }
  | _ => none }
def FnExactFewestWrongWrongFalsely : Prop := fnExactFewestWrongRow.holds Try.pinned (OpenSpec.ofChange fnExactFewestWrongWrong)

/-- 'laws.FnExactSuspectLinks': WHATEVER THE INPUT: true; the input reads as it did. -/
def fnExactSuspectLinksSpec : ChangeSpec := { name := "fnExactSuspectLinks", fn := fun _ => fun
  | [d1, d2] => { results := [.lit (.bool true)], args := [d1, d2] }
  | _ => none }
def fnExactSuspectLinksRow : OpenClaim := { program := "ytalongdieglibaa", sum := "53550fdf6d25037c42aac3b356e0efb2ec3eb4c5f04af5193c88890fa95496f2", func := "loop.example/g01026/laws.FnExactSuspectLinks", spec := "fnExactSuspectLinks", unfollowed := true, recurses := true, apart := false }
def FnExactSuspectLinksSaid : Prop := fnExactSuspectLinksRow.holds Try.pinned (OpenSpec.ofChange fnExactSuspectLinksSpec)

/-- ITS FALSE NEIGHBOUR: 'it returns false'. Refute it at one input. -/
def fnExactSuspectLinksWrong : ChangeSpec := { name := "fnExactSuspectLinks", fn := fun _ => fun
  | [d1, d2] => { results := [.lit (.bool false)], args := [d1, d2] }
  | _ => none }
def FnExactSuspectLinksWrongFalsely : Prop := fnExactSuspectLinksRow.holds Try.pinned (OpenSpec.ofChange fnExactSuspectLinksWrong)

/- THE SECOND FORM. 'bulk': how many values and letters a reading holds, each counted each time it is reached (what is shared counts as often as it is met; a slice's spare places count too). A statement '..UptoSaid' is the law's where the arguments, and the package variables that the reading takes, are together of bulk at most 1048576: NARROWER than '..Said'. Prove '..Said' where nothing that the law and all that it calls make is longer than what came in: it says more and counts as full. Else prove '..UptoSaid'. A law counts once. -/
mutual
def uptoBulk {H : Type} : DataW H → Nat
  | .lit (.string bytes) => bytes.length + 1
  | .lit _ => 1
  | .nil => 1
  | .ptr d => uptoBulk d + 1
  | .slice elems spare => uptoBulkAll elems + uptoBulkAll spare + 1
  | .agg parts => uptoBulkAll parts + 1
  | .iface _ d => uptoBulk d + 1
  | .map entries => uptoBulkEntries entries + 1
  | .held _ => 1
def uptoBulkAll {H : Type} : List (DataW H) → Nat
  | [] => 0
  | d :: r => uptoBulk d + uptoBulkAll r
def uptoBulkEntries {H : Type} : List (Lit × DataW H) → Nat
  | [] => 0
  | x :: r => uptoBulkEntry x + uptoBulkEntries r
def uptoBulkEntry {H : Type} : Lit × DataW H → Nat
  | (.string bytes, d) => bytes.length + uptoBulk d + 1
  | (_, d) => uptoBulk d + 1
 end
def uptoSmall : (H : Type) → List (DataW H) → Bool := fun _ ds => decide (uptoBulkAll ds ≤ 1048576)
def OpenSpec.upto (s : _root_.Go.ChangeSpec) : _root_.Go.OpenSpec := { _root_.Go.OpenSpec.ofChange s with cond := some uptoSmall }

/-- 'laws.FnExactCountWrong', WHERE WHAT IT READS IS OF BULK AT MOST 1048576: true; the input reads as it did. -/
def fnExactCountWrongUptoRow : OpenClaim := { program := "ytalongdieglibaa", sum := "53550fdf6d25037c42aac3b356e0efb2ec3eb4c5f04af5193c88890fa95496f2", func := "loop.example/g01026/laws.FnExactCountWrong", spec := "fnExactCountWrong", unfollowed := true, recurses := true, apart := false, narrowed := true }
def FnExactCountWrongUptoSaid : Prop := fnExactCountWrongUptoRow.holds Try.pinned (OpenSpec.upto fnExactCountWrongSpec)

/-- 'laws.FnExactGroupsOfStars', WHERE WHAT IT READS IS OF BULK AT MOST 1048576: true; the input reads as it did. -/
def fnExactGroupsOfStarsUptoRow : OpenClaim := { program := "ytalongdieglibaa", sum := "53550fdf6d25037c42aac3b356e0efb2ec3eb4c5f04af5193c88890fa95496f2", func := "loop.example/g01026/laws.FnExactGroupsOfStars", spec := "fnExactGroupsOfStars", unfollowed := true, recurses := true, apart := false, narrowed := true }
def FnExactGroupsOfStarsUptoSaid : Prop := fnExactGroupsOfStarsUptoRow.holds Try.pinned (OpenSpec.upto fnExactGroupsOfStarsSpec)

/-- 'laws.FnExactFewestWrong', WHERE WHAT IT READS IS OF BULK AT MOST 1048576: true; the input reads as it did. -/
def fnExactFewestWrongUptoRow : OpenClaim := { program := "ytalongdieglibaa", sum := "53550fdf6d25037c42aac3b356e0efb2ec3eb4c5f04af5193c88890fa95496f2", func := "loop.example/g01026/laws.FnExactFewestWrong", spec := "fnExactFewestWrong", unfollowed := true, recurses := true, apart := false, narrowed := true }
def FnExactFewestWrongUptoSaid : Prop := fnExactFewestWrongUptoRow.holds Try.pinned (OpenSpec.upto fnExactFewestWrongSpec)

/-- 'laws.FnExactSuspectLinks', WHERE WHAT IT READS IS OF BULK AT MOST 1048576: true; the input reads as it did. -/
def fnExactSuspectLinksUptoRow : OpenClaim := { program := "ytalongdieglibaa", sum := "53550fdf6d25037c42aac3b356e0efb2ec3eb4c5f04af5193c88890fa95496f2", func := "loop.example/g01026/laws.FnExactSuspectLinks", spec := "fnExactSuspectLinks", unfollowed := true, recurses := true, apart := false, narrowed := true }
def FnExactSuspectLinksUptoSaid : Prop := fnExactSuspectLinksUptoRow.holds Try.pinned (OpenSpec.upto fnExactSuspectLinksSpec)

end Rows
end Go.Proofs.Ytalongdieglibaa
