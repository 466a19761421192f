/- CountSegments. -/
import Derived.Test.YtgcgaoblbhojnaaNum
import Derived.Test.YtgcgaoblbhojnaaQm
namespace Go.Proofs.Ytgcgaoblbhojnaa
set_option linter.unusedSimpArgs false
set_option linter.unusedVariables false
open Go.ChangeShapes Go.WideShapes Go.ChangeAt Go.RowKit
theorem ret_two {a b c d : Int} (h : a = c) (k : b = d) : Ending.returned (.tuple #[.int .i64 a, .int .i64 b]) = .returned (.tuple #[.int .i64 c, .int .i64 d]) := by rw [h, k]
theorem segs_bd {W H : Int} (hW : side W = true) (hH : side H = true) : 4 ≤ 4 * W * H ∧ 4 * W * H ≤ 256 := by
  have h := side_bd hH
  rcases side_cases hW with rfl | rfl | rfl | rfl | rfl | rfl | rfl | rfl <;> omega
/-- The number of segments, or 0. -/
def segsR (W H : Int) (zs : List Int) : Int := if validB W H zs then 4 * W * H else 0
def okR (W H : Int) (zs : List Int) : Int := if validB W H zs then 0 else 1

set_option maxHeartbeats 800000 in
theorem segments_any (W H : Int) (A : Option Addr) (n c : Nat) (w : World) (hW : side W = true) (hH : side H = true) :
    Calls Try.prog 115 #[.agg #[.int .i64 W, .int .i64 H, .slice A n c]] w fun e w' => e = .returned (.int .i64 (4 * W * H)) ∧ Below w.heap.size w w' := by
  obtain ⟨s1, s2⟩ := segs_bd hW hH
  obtain ⟨w1, w2⟩ := side_bd hW
  clear hW hH
  go_enter Try.func115, Try.ntmps115
  go_wp2
  go_ret
  exact ⟨rfl, (by (repeat (with_reducible first | exact Below.refl _ _ | assumption | refine below_drewN ?_ _ | refine Below.drew ?_ | refine Below.alloc ?_ ?_ _ | refine Below.setCell ?_ ?_ _)); all_goals (first | omega | (simp only [size_drewN, World.size_alloc, World.size_setCell, World.size_drew] at *; omega) | (simp; done) | (simp; omega)))⟩
end Go.Proofs.Ytgcgaoblbhojnaa
