/- WalkerAt. -/
import Derived.Test.YtgcgaoblbhojnaaSg
namespace Go.Proofs.Ytgcgaoblbhojnaa
set_option linter.unusedSimpArgs false
set_option linter.unusedVariables false
open Go.ChangeShapes Go.WideShapes Go.ChangeAt Go.RowKit
/-- What WalkerAt answers. -/
def wtX (W H : Int) (zs : List Int) (k : Int) : Int := if validB W H zs && inR k 0 (4 * W * H - 1) then wkX H k else 0
def wtY (W H : Int) (zs : List Int) (k : Int) : Int := if validB W H zs && inR k 0 (4 * W * H - 1) then wkY H k else 0
def wtU (W H : Int) (zs : List Int) (k : Int) : Int := if validB W H zs && inR k 0 (4 * W * H - 1) then 1 else 0
def wtD (W H : Int) (zs : List Int) (k : Int) : Int := if validB W H zs && inR k 0 (4 * W * H - 1) then wkD H k else 0
def wtC (W H : Int) (zs : List Int) (k : Int) : Int := if validB W H zs then (if inR k 0 (4 * W * H - 1) then 0 else 2) else 1
theorem ret_w2 {a b c d m a' b' c' d' m' : Int} (h1 : a = a') (h2 : b = b') (h3 : c = c') (h4 : d = d') (h5 : m = m') : Ending.returned (.tuple #[.agg #[.int .i64 a, .int .i64 b, .int .i64 c, .int .i64 d], .int .i64 m]) = .returned (.tuple #[.agg #[.int .i64 a', .int .i64 b', .int .i64 c', .int .i64 d'], .int .i64 m']) := by rw [h1, h2, h3, h4, h5]

end Go.Proofs.Ytgcgaoblbhojnaa
