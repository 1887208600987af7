/- Contracts of the laws' own helpers for alerts. -/
import Derived.Test.YtiimohofnnphoaaDoorC1
namespace Go.Proofs.YtiimohofnnphoaaDoor
open Go.RowKit
set_option linter.unusedVariables false
theorem toAlert_any (ub : Int) (ue : Int) (up : Int) (w : World) :
    Calls Tryd.prog 10 #[.agg #[.int .i64 ub, .int .i64 ue, .int .i64 up]] w fun e w' => e = .returned (.agg #[.int .i64 ub, .int .i64 ue, .int .i64 up]) ∧ Below w.heap.size w w' := by
  go_enter Tryd.func10, Tryd.ntmps10
  go_wp2
  exact bodyPost_ret (v := .agg #[.int .i64 ub, .int .i64 ue, .int .i64 up]) (by simp [results, Tryd.results10, go_sem]) rfl ⟨rfl, (by repeat (first | assumption | exact Below.refl _ _ | apply Below.al | apply Below.drewN' | apply Below.drew | (apply Below.tr; assumption)))⟩
end Go.Proofs.YtiimohofnnphoaaDoor
