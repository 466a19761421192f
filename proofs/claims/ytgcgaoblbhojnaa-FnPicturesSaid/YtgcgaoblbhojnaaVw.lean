/- validWalker. -/
import Derived.Test.YtgcgaoblbhojnaaWa
import Derived.Test.YtgcgaoblbhojnaaQm
namespace Go.Proofs.Ytgcgaoblbhojnaa
set_option linter.unusedSimpArgs false
set_option linter.unusedVariables false
open Go.ChangeShapes Go.WideShapes Go.ChangeAt Go.RowKit
end Go.Proofs.Ytgcgaoblbhojnaa
