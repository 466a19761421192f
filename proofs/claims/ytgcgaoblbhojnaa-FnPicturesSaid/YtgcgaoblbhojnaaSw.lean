/- StepWalker, TurnsOf. -/
import Derived.Test.YtgcgaoblbhojnaaSs
namespace Go.Proofs.Ytgcgaoblbhojnaa
set_option linter.unusedSimpArgs false
set_option linter.unusedVariables false
open Go.ChangeShapes Go.WideShapes Go.ChangeAt Go.RowKit
/-- What StepWalker and TurnsOf answer. -/
def swX (W H : Int) (zs : List Int) (x y dx dy : Int) : Int := if validWB W H zs x y dx dy then x + dx else 0
def swY (W H : Int) (zs : List Int) (x y dx dy : Int) : Int := if validWB W H zs x y dx dy then y + dy else 0
def swU (W H : Int) (zs : List Int) (x y dx dy : Int) : Int := if validWB W H zs x y dx dy then stU W H zs x y dx dy else 0
def swV (W H : Int) (zs : List Int) (x y dx dy : Int) : Int := if validWB W H zs x y dx dy then stV W H zs x y dx dy else 0
def turnR (W H : Int) (zs : List Int) (x y dx dy : Int) : Bool := validWB W H zs x y dx dy && (stU W H zs x y dx dy != dx || stV W H zs x y dx dy != dy)
theorem wb_valid {W H : Int} {zs : List Int} {x y dx dy : Int} (h : validWB W H zs x y dx dy = true) : validB W H zs = true := by
  simp only [validWB, Bool.and_eq_true] at h
  exact h.1
theorem ret_bi {a c : Bool} {b d : Int} (h : a = c) (k : b = d) : Ending.returned (.tuple #[.bool a, .int .i64 b]) = .returned (.tuple #[.bool c, .int .i64 d]) := by rw [h, k]

end Go.Proofs.Ytgcgaoblbhojnaa
