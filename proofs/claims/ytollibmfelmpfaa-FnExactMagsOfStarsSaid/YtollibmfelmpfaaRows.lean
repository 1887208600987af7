/-
  No cell of these rows narrows 'for every input' (looked for: loops, veiled, ifaces, maps, wideKeys, modest, calm, conditions, laid).
  DERIVED. THE GIVEN ROWS OF THIS SEAT. 4 by the template 'for every input the law returns true; each argument reads behind the call as it read before'; 0 by the template 'total and deterministic' (their statements: YtollibmfelmpfaaTotals.lean).
  GIVEN WITH THE SEED: the statements are not yours to turn. If you find one false, say at which input.
  Laid BY PROGRAM, IN A SANDBOX (cutbox-rows.mjs): the forced cells as the released guide's own fill.sh prints them over the translation 38d98753bff6345b… (all of the seat's roots in one cut). By AI agents, Wed Nov 11 2026. No macro, syntax, notation, axiom, sorry.
-/
import Derived.Test.YtollibmfelmpfaaChecked
import GoSem.Claim
import GoSem.ClaimJoined
import GoSem.ClaimMapViews
import Derived.JoinedTies
import Derived.KernelRfl
namespace Go.Proofs.Ytollibmfelmpfaa
/- THE CELL 'sum', in the pinned program and in every row, IS THE sha256 OF THE DUMP (.gsa) THAT YtollibmfelmpfaaProg.lean LOADS. Nothing in Lean hashes anything: it is a label: what it is worth is what the hold of that sum in a sandbox is worth. -/
noncomputable def Try.pinned : Pinned := { name := "ytollibmfelmpfaa", sum := "38d98753bff6345b3b98857e8eed729f680902f563003fe78eec53d52a8e1673", checked := Try.checked }
namespace Rows
def none {H : Type} : Left H := { results := [], args := [] }

/-- 'laws.FnExactAreConsistent': WHATEVER THE INPUT: true; the input reads as it did. -/
def fnExactAreConsistentSpec : ChangeSpec := { name := "fnExactAreConsistent", fn := fun _ => fun
  | [d1, d2] => { results := [.lit (.bool true)], args := [d1, d2] }
  | _ => none }
def fnExactAreConsistentRow : OpenClaim := { program := "ytollibmfelmpfaa", sum := "38d98753bff6345b3b98857e8eed729f680902f563003fe78eec53d52a8e1673", func := "loop.example/g01026/laws.FnExactAreConsistent", spec := "fnExactAreConsistent", apart := false }
def FnExactAreConsistentSaid : Prop := fnExactAreConsistentRow.holds Try.pinned (OpenSpec.ofChange fnExactAreConsistentSpec)

/-- ITS FALSE NEIGHBOUR: 'it returns false'. Refute it at one input. -/
def fnExactAreConsistentWrong : ChangeSpec := { name := "fnExactAreConsistent", fn := fun _ => fun
  | [d1, d2] => { results := [.lit (.bool false)], args := [d1, d2] }
  | _ => none }
def FnExactAreConsistentWrongFalsely : Prop := fnExactAreConsistentRow.holds Try.pinned (OpenSpec.ofChange fnExactAreConsistentWrong)

/-- 'laws.FnExactMisfitsOf': WHATEVER THE INPUT: true; the input reads as it did. -/
def fnExactMisfitsOfSpec : ChangeSpec := { name := "fnExactMisfitsOf", fn := fun _ => fun
  | [d1, d2, d3] => { results := [.lit (.bool true)], args := [d1, d2, d3] }
  | _ => none }
def fnExactMisfitsOfRow : OpenClaim := { program := "ytollibmfelmpfaa", sum := "38d98753bff6345b3b98857e8eed729f680902f563003fe78eec53d52a8e1673", func := "loop.example/g01026/laws.FnExactMisfitsOf", spec := "fnExactMisfitsOf", unfollowed := true, recurses := true, apart := false }
def FnExactMisfitsOfSaid : Prop := fnExactMisfitsOfRow.holds Try.pinned (OpenSpec.ofChange fnExactMisfitsOfSpec)

/-- ITS FALSE NEIGHBOUR: 'it returns false'. Refute it at one input. -/
def fnExactMisfitsOfWrong : ChangeSpec := { name := "fnExactMisfitsOf", fn := fun _ => fun
  | [d1, d2, d3] => { results := [.lit (.bool false)], args := [d1, d2, d3] }
  | _ => none }
def FnExactMisfitsOfWrongFalsely : Prop := fnExactMisfitsOfRow.holds Try.pinned (OpenSpec.ofChange fnExactMisfitsOfWrong)

/-- 'laws.FnExactOffsetsOf': WHATEVER THE INPUT: true; the input reads as it did. -/
def fnExactOffsetsOfSpec : ChangeSpec := { name := "fnExactOffsetsOf", fn := fun _ => fun
  | [d1, d2] => { results := [.lit (.bool true)], args := [d1, d2] }
  | _ => none }
def fnExactOffsetsOfRow : OpenClaim := { program := "ytollibmfelmpfaa", sum := "38d98753bff6345b3b98857e8eed729f680902f563003fe78eec53d52a8e1673", func := "loop.example/g01026/laws.FnExactOffsetsOf", spec := "fnExactOffsetsOf", apart := false }
def FnExactOffsetsOfSaid : Prop := fnExactOffsetsOfRow.holds Try.pinned (OpenSpec.ofChange fnExactOffsetsOfSpec)

/-- ITS FALSE NEIGHBOUR: 'it returns false'. Refute it at one input. -/
def fnExactOffsetsOfWrong : ChangeSpec := { name := "fnExactOffsetsOf", fn := fun _ => fun
  | [d1, d2] => { results := [.lit (.bool false)], args := [d1, d2] }
  | _ => none }
def FnExactOffsetsOfWrongFalsely : Prop := fnExactOffsetsOfRow.holds Try.pinned (OpenSpec.ofChange fnExactOffsetsOfWrong)

/-- 'laws.FnExactMagsOfStars': WHATEVER THE INPUT: true; the input reads as it did. -/
def fnExactMagsOfStarsSpec : ChangeSpec := { name := "fnExactMagsOfStars", fn := fun _ => fun
  | [d1, d2, d3, d4] => { results := [.lit (.bool true)], args := [d1, d2, d3, d4] }
  | _ => none }
def fnExactMagsOfStarsRow : OpenClaim := { program := "ytollibmfelmpfaa", sum := "38d98753bff6345b3b98857e8eed729f680902f563003fe78eec53d52a8e1673", func := "loop.example/g01026/laws.FnExactMagsOfStars", spec := "fnExactMagsOfStars", unfollowed := true, recurses := true, apart := false }
def FnExactMagsOfStarsSaid : Prop := fnExactMagsOfStarsRow.holds Try.pinned (OpenSpec.ofChange fnExactMagsOfStarsSpec)

/-- ITS FALSE NEIGHBOUR: 'it returns false'. Refute it at one input. -/
def fnExactMagsOfStarsWrong : ChangeSpec := { name := "fnExactMagsOfStars", fn := fun _ => fun
  | [d1, d2, d3, d4] => { results := [.lit (.bool false)], args := [d1, d2, d3, d4] }
  | _ => none }
def FnExactMagsOfStarsWrongFalsely : Prop := fnExactMagsOfStarsRow.holds Try.pinned (OpenSpec.ofChange fnExactMagsOfStarsWrong)

/- THE SECOND FORM. 'bulk': how many values and letters a reading holds, each counted each time it is reached (what is shared counts as often as it is met; a slice's spare places count too). A statement '..UptoSaid' is the law's where the arguments, and the package variables that the reading takes, are together of bulk at most 1048576: NARROWER than '..Said'. Prove '..Said' where nothing that the law and all that it calls make is longer than what came in: it says more and counts as full. Else prove '..UptoSaid'. A law counts once. -/
mutual
def uptoBulk {H : Type} : DataW H → Nat
  | .lit (.string bytes) => bytes.length + 1
  | .lit _ => 1
  | .nil => 1
  | .ptr d => uptoBulk d + 1
  | .slice elems spare => uptoBulkAll elems + uptoBulkAll spare + 1
  | .agg parts => uptoBulkAll parts + 1
  | .iface _ d => uptoBulk d + 1
  | .map entries => uptoBulkEntries entries + 1
  | .held _ => 1
def uptoBulkAll {H : Type} : List (DataW H) → Nat
  | [] => 0
  | d :: r => uptoBulk d + uptoBulkAll r
def uptoBulkEntries {H : Type} : List (Lit × DataW H) → Nat
  | [] => 0
  | x :: r => uptoBulkEntry x + uptoBulkEntries r
def uptoBulkEntry {H : Type} : Lit × DataW H → Nat
  | (.string bytes, d) => bytes.length + uptoBulk d + 1
  | (_, d) => uptoBulk d + 1
 end
def uptoSmall : (H : Type) → List (DataW H) → Bool := fun _ ds => decide (uptoBulkAll ds ≤ 1048576)
def OpenSpec.upto (s : _root_.Go.ChangeSpec) : _root_.Go.OpenSpec := { _root_.Go.OpenSpec.ofChange s with cond := some uptoSmall }

/-- 'laws.FnExactAreConsistent', WHERE WHAT IT READS IS OF BULK AT MOST 1048576: true; the input reads as it did. -/
def fnExactAreConsistentUptoRow : OpenClaim := { program := "ytollibmfelmpfaa", sum := "38d98753bff6345b3b98857e8eed729f680902f563003fe78eec53d52a8e1673", func := "loop.example/g01026/laws.FnExactAreConsistent", spec := "fnExactAreConsistent", apart := false, narrowed := true }
def FnExactAreConsistentUptoSaid : Prop := fnExactAreConsistentUptoRow.holds Try.pinned (OpenSpec.upto fnExactAreConsistentSpec)

/-- 'laws.FnExactMisfitsOf', WHERE WHAT IT READS IS OF BULK AT MOST 1048576: true; the input reads as it did. -/
def fnExactMisfitsOfUptoRow : OpenClaim := { program := "ytollibmfelmpfaa", sum := "38d98753bff6345b3b98857e8eed729f680902f563003fe78eec53d52a8e1673", func := "loop.example/g01026/laws.FnExactMisfitsOf", spec := "fnExactMisfitsOf", unfollowed := true, recurses := true, apart := false, narrowed := true }
def FnExactMisfitsOfUptoSaid : Prop := fnExactMisfitsOfUptoRow.holds Try.pinned (OpenSpec.upto fnExactMisfitsOfSpec)

/-- 'laws.FnExactOffsetsOf', WHERE WHAT IT READS IS OF BULK AT MOST 1048576: true; the input reads as it did. -/
def fnExactOffsetsOfUptoRow : OpenClaim := { program := "ytollibmfelmpfaa", sum := "38d98753bff6345b3b98857e8eed729f680902f563003fe78eec53d52a8e1673", func := "loop.example/g01026/laws.FnExactOffsetsOf", spec := "fnExactOffsetsOf", apart := false, narrowed := true }
def FnExactOffsetsOfUptoSaid : Prop := fnExactOffsetsOfUptoRow.holds Try.pinned (OpenSpec.upto fnExactOffsetsOfSpec)

/-- 'laws.FnExactMagsOfStars', WHERE WHAT IT READS IS OF BULK AT MOST 1048576: true; the input reads as it did. -/
def fnExactMagsOfStarsUptoRow : OpenClaim := { program := "ytollibmfelmpfaa", sum := "38d98753bff6345b3b98857e8eed729f680902f563003fe78eec53d52a8e1673", func := "loop.example/g01026/laws.FnExactMagsOfStars", spec := "fnExactMagsOfStars", unfollowed := true, recurses := true, apart := false, narrowed := true }
def FnExactMagsOfStarsUptoSaid : Prop := fnExactMagsOfStarsUptoRow.holds Try.pinned (OpenSpec.upto fnExactMagsOfStarsSpec)

end Rows
end Go.Proofs.Ytollibmfelmpfaa
