/- Contract of the law's own helper: a rule copied. -/
import Derived.Test.YtdklchklpmabdaaDoorC1
namespace Go.Proofs.YtdklchklpmabdaaDoor
open Go.RowKit
set_option linter.unusedVariables false
end Go.Proofs.YtdklchklpmabdaaDoor
