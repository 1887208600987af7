/- Contracts: a link, and a list of links, is valid; in the program and in the reference. -/
import Derived.Test.YticamdaicbgdlaaCLink
namespace Go.Proofs.Yticamdaicbgdlaa
open Go.RowKit
set_option linter.unusedVariables false
def lkB (stars : Int) (l : Lk) : Bool := decide (0 ≤ l.a) && (decide (l.a < l.b) && (decide (l.b < stars) && inB l.d (-5000) 5000))
def vlB (stars : Int) (xs : List Lk) : Bool := inB stars 1 10 && (decide (xs.length ≤ 12) && xs.all (lkB stars))
