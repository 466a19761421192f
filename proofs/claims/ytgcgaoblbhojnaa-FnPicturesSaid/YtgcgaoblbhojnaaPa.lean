/- PointAt. -/
import Derived.Test.YtgcgaoblbhojnaaPx
namespace Go.Proofs.Ytgcgaoblbhojnaa
set_option linter.unusedSimpArgs false
set_option linter.unusedVariables false
open Go.ChangeShapes Go.WideShapes Go.ChangeAt Go.RowKit
/-- What PointAt answers. -/
def ptRX (W H : Int) (zs : List Int) (k : Int) : Int := if validB W H zs && inR k 0 ((zs.length : Int) - 1) then ptX W H k else 0
def ptRY (W H : Int) (zs : List Int) (k : Int) : Int := if validB W H zs && inR k 0 ((zs.length : Int) - 1) then ptY W H k else 0
def ptRC (W H : Int) (zs : List Int) (k : Int) : Int := if validB W H zs then (if inR k 0 ((zs.length : Int) - 1) then 0 else 2) else 1
theorem valid_len {W H : Int} {zs : List Int} (h : validB W H zs = true) : (zs.length : Int) = inner W H := by
  simp only [validB, Bool.and_eq_true, decide_eq_true_eq] at h
  exact h.1.2
theorem ret_q2 {a b c a' b' c' : Int} (h : a = a') (k : b = b') (l : c = c') : Ending.returned (.tuple #[.agg #[.int .i64 a, .int .i64 b], .int .i64 c]) = .returned (.tuple #[.agg #[.int .i64 a', .int .i64 b'], .int .i64 c']) := by rw [h, k, l]

end Go.Proofs.Ytgcgaoblbhojnaa
