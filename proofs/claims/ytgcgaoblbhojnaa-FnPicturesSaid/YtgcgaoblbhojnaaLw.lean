/- The laws' copies and comparisons of points and walkers. -/
import Derived.Test.YtgcgaoblbhojnaaPan
namespace Go.Proofs.Ytgcgaoblbhojnaa
set_option linter.unusedSimpArgs false
set_option linter.unusedVariables false
open Go.ChangeShapes Go.WideShapes Go.ChangeAt Go.RowKit
end Go.Proofs.Ytgcgaoblbhojnaa
