/- Contracts of the law's own helpers for links: copying, comparing, counting. -/
import Derived.Test.YtiimohofnnphoaaDoorC1
namespace Go.Proofs.YtiimohofnnphoaaDoor
open Go.RowKit
set_option linter.unusedVariables false
theorem toLink_any (ua : Int) (ub : Int) (ud : Int) (w : World) :
    Calls Tryd.prog 7 #[.agg #[.int .i64 ua, .int .i64 ub, .int .i64 ud]] w fun e w' => e = .returned (.agg #[.int .i64 ua, .int .i64 ub, .int .i64 ud]) ∧ Below w.heap.size w w' := by
  go_enter Tryd.func7, Tryd.ntmps7
  go_wp2
  exact bodyPost_ret (v := .agg #[.int .i64 ua, .int .i64 ub, .int .i64 ud]) (by simp [results, Tryd.results7, go_sem]) rfl ⟨rfl, (by repeat (first | assumption | exact Below.refl _ _ | apply Below.al | apply Below.drewN' | apply Below.drew | (apply Below.tr; assumption)))⟩
end Go.Proofs.YtiimohofnnphoaaDoor
