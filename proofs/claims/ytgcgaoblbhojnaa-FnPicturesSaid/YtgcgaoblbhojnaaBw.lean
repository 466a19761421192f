/- BackWalker. -/
import Derived.Test.YtgcgaoblbhojnaaBk
import Derived.Test.YtgcgaoblbhojnaaSf
namespace Go.Proofs.Ytgcgaoblbhojnaa
set_option linter.unusedSimpArgs false
set_option linter.unusedVariables false
open Go.ChangeShapes Go.WideShapes Go.ChangeAt Go.RowKit
/-- What BackWalker answers. -/
def bwX (W H : Int) (zs : List Int) (x y dx dy : Int) : Int := if validWB W H zs x y dx dy then x + dx else 0
def bwY (W H : Int) (zs : List Int) (x y dx dy : Int) : Int := if validWB W H zs x y dx dy then y + dy else 0
def bwU (W H : Int) (zs : List Int) (x y dx dy : Int) : Int := if validWB W H zs x y dx dy then -dx else 0
def bwV (W H : Int) (zs : List Int) (x y dx dy : Int) : Int := if validWB W H zs x y dx dy then -dy else 0
theorem ret_w2' {a b c d m a' b' c' d' m' : Int} (h1 : a = a') (h2 : b = b') (h3 : c = c') (h4 : d = d') (h5 : m = m') : Ending.returned (.tuple #[.agg #[.int .i64 a, .int .i64 b, .int .i64 c, .int .i64 d], .int .i64 m]) = .returned (.tuple #[.agg #[.int .i64 a', .int .i64 b', .int .i64 c', .int .i64 d'], .int .i64 m']) := by rw [h1, h2, h3, h4, h5]
/-- Bounds of a valid walker. -/
theorem wb_bd {W H : Int} {zs : List Int} {x y dx dy : Int} (h : validWB W H zs x y dx dy = true) : 0 ≤ x ∧ x ≤ 16 ∧ 0 ≤ y ∧ y ≤ 16 ∧ -1 ≤ dx ∧ dx ≤ 1 ∧ -1 ≤ dy ∧ dy ≤ 1 := by
  obtain ⟨h1, h2, h3⟩ := wb_parts h
  obtain ⟨d1, d2, d3, _⟩ := walk_parts h3
  have := hasP_bd d3
  have := side_bd h1
  have := side_bd h2
  omega

end Go.Proofs.Ytgcgaoblbhojnaa
