/- The laws' copies and comparisons of points and walkers. -/
import Derived.Test.YthcoimlbjhdjcaaPan
namespace Go.Proofs.Ythcoimlbjhdjcaa
set_option linter.unusedSimpArgs false
set_option linter.unusedVariables false
open Go.ChangeShapes Go.WideShapes Go.ChangeAt Go.RowKit
end Go.Proofs.Ythcoimlbjhdjcaa
