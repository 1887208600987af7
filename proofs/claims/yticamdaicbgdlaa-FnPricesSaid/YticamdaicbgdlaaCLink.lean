/- Contracts of the law's own helpers for links: copying, comparing, counting. -/
import Derived.Test.YticamdaicbgdlaaC1
namespace Go.Proofs.Yticamdaicbgdlaa
open Go.RowKit
set_option linter.unusedVariables false
end Go.Proofs.Yticamdaicbgdlaa
