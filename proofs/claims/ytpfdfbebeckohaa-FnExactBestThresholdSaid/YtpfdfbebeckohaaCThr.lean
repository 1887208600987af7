/- Contracts of the laws' own helpers for thresholds. -/
import Derived.Test.YtpfdfbebeckohaaC1
namespace Go.Proofs.Ytpfdfbebeckohaa
open Go.RowKit
set_option linter.unusedVariables false
theorem eqThreshold_same (uon : Int) (uoff : Int) (w : World) :
    Calls Try.prog 42 #[.agg #[.int .i64 uon, .int .i64 uoff], .agg #[.int .i64 uon, .int .i64 uoff]] w fun e w' => e = .returned (.bool true) ∧ Below w.heap.size w w' := by
  go_enter Try.func42, Try.ntmps42
  go_wp2
  go_ret
  exact ⟨rfl, (by repeat (first | assumption | exact Below.refl _ _ | apply Below.al | apply Below.drewN' | apply Below.drew | (apply Below.tr; assumption)))⟩
end Go.Proofs.Ytpfdfbebeckohaa
