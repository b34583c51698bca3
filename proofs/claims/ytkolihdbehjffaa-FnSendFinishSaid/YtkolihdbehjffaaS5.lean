/- A loop over a counter. No condition. -/
import Derived.Test.YtkolihdbehjffaaS4
namespace Go.Proofs.Ytkolihdbehjffaa
open Go Go.RowKit
set_option linter.unusedSimpArgs false
set_option linter.unusedVariables false
end Go.Proofs.Ytkolihdbehjffaa
