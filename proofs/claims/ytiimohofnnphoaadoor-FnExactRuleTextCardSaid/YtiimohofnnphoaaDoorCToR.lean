/- Contract of the law's own helper: a rule copied. -/
import Derived.Test.YtiimohofnnphoaaDoorC1
namespace Go.Proofs.YtiimohofnnphoaaDoor
open Go.RowKit
set_option linter.unusedVariables false
theorem toRule_any (us : ByteArray) (ufa : Int) (uta : Int) (ufp : Int) (utp : Int) (ush : Int) (w : World) :
    Calls Tryd.prog 14 #[.agg #[.string us, .int .i64 ufa, .int .i64 uta, .int .i64 ufp, .int .i64 utp, .int .i64 ush]] w fun e w' => e = .returned (.agg #[.string us, .int .i64 ufa, .int .i64 uta, .int .i64 ufp, .int .i64 utp, .int .i64 ush]) ∧ Below w.heap.size w w' := by
  go_enter Tryd.func14, Tryd.ntmps14
  go_wp2
  exact bodyPost_ret (v := .agg #[.string us, .int .i64 ufa, .int .i64 uta, .int .i64 ufp, .int .i64 utp, .int .i64 ush]) (by simp [results, Tryd.results14, go_sem]) rfl ⟨rfl, (by repeat (first | assumption | exact Below.refl _ _ | apply Below.al | apply Below.drewN' | apply Below.drew | (apply Below.tr; assumption)))⟩
end Go.Proofs.YtiimohofnnphoaaDoor
