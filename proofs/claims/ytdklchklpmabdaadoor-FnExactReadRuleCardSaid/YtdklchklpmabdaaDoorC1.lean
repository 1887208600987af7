/- Contracts of the small functions: numbers, times, magnitudes, structs by value. -/
import Derived.Test.YtdklchklpmabdaaDoorBase
import Derived.Test.YtdklchklpmabdaaDoorProg
namespace Go.Proofs.YtdklchklpmabdaaDoor
open Go.RowKit
set_option linter.unusedVariables false
theorem in_any (n lo hi : Int) (w : World) :
    Calls Tryd.prog 39 #[.int .i64 n, .int .i64 lo, .int .i64 hi] w fun e w' => e = .returned (.bool (inB n lo hi)) ∧ w = w' := by
  go_enter Tryd.func39, Tryd.ntmps39
  go_wp2
  all_goals (go_ret; refine ⟨?_, rfl⟩; simp [inB]; try omega)
theorem in_eq {n lo hi : Int} {v : Bool} (h : inB n lo hi = v) (w : World) :
    Calls Tryd.prog 39 #[.int .i64 n, .int .i64 lo, .int .i64 hi] w fun e w' => e = .returned (.bool v) ∧ w = w' := by
  subst h; exact in_any n lo hi w
theorem l00In_any (n lo hi : Int) (w : World) :
    Calls Tryd.prog 20 #[.int .i64 n, .int .i64 lo, .int .i64 hi] w fun e w' => e = .returned (.bool (inB n lo hi)) ∧ w = w' := by
  go_enter Tryd.func20, Tryd.ntmps20
  go_wp2
  all_goals (go_ret; refine ⟨?_, rfl⟩; simp [inB]; try omega)
