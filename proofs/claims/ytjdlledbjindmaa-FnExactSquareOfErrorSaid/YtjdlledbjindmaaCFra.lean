/- Contracts of the laws' own helpers for fractions. -/
import Derived.Test.YtjdlledbjindmaaC1
namespace Go.Proofs.Ytjdlledbjindmaa
open Go.RowKit
set_option linter.unusedVariables false
theorem eqFraction_same (un : Int) (ud : Int) (w : World) :
    Calls Try.prog 14 #[.agg #[.int .i64 un, .int .i64 ud], .agg #[.int .i64 un, .int .i64 ud]] w fun e w' => e = .returned (.bool true) ∧ Below w.heap.size w w' := by
  go_enter Try.func14, Try.ntmps14
  go_wp2
  go_ret
  exact ⟨rfl, (by repeat (first | assumption | exact Below.refl _ _ | apply Below.al | apply Below.drewN' | apply Below.drew | (apply Below.tr; assumption)))⟩
end Go.Proofs.Ytjdlledbjindmaa
