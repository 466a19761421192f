/- validWalker. -/
import Derived.Test.YtmhilafcgjgcoaaWa
import Derived.Test.YtmhilafcgjgcoaaQm
namespace Go.Proofs.Ytmhilafcgjgcoaa
set_option linter.unusedSimpArgs false
set_option linter.unusedVariables false
open Go.ChangeShapes Go.WideShapes Go.ChangeAt Go.RowKit
end Go.Proofs.Ytmhilafcgjgcoaa
