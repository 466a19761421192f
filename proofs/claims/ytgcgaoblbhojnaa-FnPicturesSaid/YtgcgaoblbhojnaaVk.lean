/- ValidWalker. -/
import Derived.Test.YtgcgaoblbhojnaaVw
namespace Go.Proofs.Ytgcgaoblbhojnaa
set_option linter.unusedSimpArgs false
set_option linter.unusedVariables false
open Go.ChangeShapes Go.WideShapes Go.ChangeAt Go.RowKit
/-- ValidWalker. -/
def validWB (W H : Int) (zs : List Int) (x y dx dy : Int) : Bool := validB W H zs && walkB W H x y dx dy

end Go.Proofs.Ytgcgaoblbhojnaa
