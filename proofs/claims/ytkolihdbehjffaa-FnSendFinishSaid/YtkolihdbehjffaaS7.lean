/- More rules: conversions told apart, the rest of a slice. No condition. -/
import Derived.Test.YtkolihdbehjffaaS5
import Derived.Test.YtkolihdbehjffaaStr2
namespace Go.Proofs.Ytkolihdbehjffaa
open Go Go.RowKit
set_option linter.unusedSimpArgs false
set_option linter.unusedVariables false
section
variable {P : Program} {n : Nat} {Q : Post} {J : Env → Prop} {env : Env} {w0 : World} {A : List Asr} {ops : Array Oper} {rest : List Oper}
variable {d : Nat} {ty : TypeId} {pos : String} {af : Array Edge}
end
end Go.Proofs.Ytkolihdbehjffaa
