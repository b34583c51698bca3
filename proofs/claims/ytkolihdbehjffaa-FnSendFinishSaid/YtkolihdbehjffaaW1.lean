/- Contracts of the laws' helpers on sending sides. No condition. -/
import Derived.Test.YtkolihdbehjffaaW0

namespace Go.Proofs.Ytkolihdbehjffaa
open Go Go.RowKit
set_option linter.unusedSimpArgs false
set_option linter.unusedVariables false
set_option maxRecDepth 20000

end Go.Proofs.Ytkolihdbehjffaa
