/- Walkers: valid, next. -/
import Derived.Test.YtbgigompkmnapaaPe
namespace Go.Proofs.Ytbgigompkmnapaa
set_option linter.unusedSimpArgs false
set_option linter.unusedVariables false
open Go.ChangeShapes Go.WideShapes Go.ChangeAt Go.RowKit
def signB (n : Int) : Bool := n == 1 || n == -1
/-- A valid walker of a valid panel with these sides. -/
def walkB (W H x y dx dy : Int) : Bool := signB dx && (signB dy && (hasP W H x y && hasP W H (x + dx) (y + dy)))
theorem signB_bd {n : Int} (h : signB n = true) : -1 ≤ n ∧ n ≤ 1 := by
  simp [signB] at h
  omega
theorem hasP_bd {W H x y : Int} (h : hasP W H x y = true) : 0 ≤ x ∧ x ≤ 2 * W ∧ 0 ≤ y ∧ y ≤ 2 * H := by
  simp only [hasP, inR, Bool.and_eq_true, decide_eq_true_eq] at h
  omega

set_option maxHeartbeats 800000 in
theorem l03Sign_any (n : Int) (w : World) :
    Calls Try.prog 117 #[.int .i64 n] w fun e w' => e = .returned (.bool (signB n)) ∧ w = w' := by
  cases h1 : (n == 1)
  · go_enter Try.func117, Try.ntmps117
    go_wp2
    go_ret
    exact ⟨ret_bool (by simp [signB, h1]), rfl⟩
  · go_enter Try.func117, Try.ntmps117
    go_wp2
    go_ret
    exact ⟨ret_bool (by simp [signB, h1]), rfl⟩
set_option maxHeartbeats 800000 in
theorem next_any (x y dx dy : Int) (w : World) (x1 : -1 ≤ x) (x2 : x ≤ 100) (y1 : -1 ≤ y) (y2 : y ≤ 100) (a1 : -1 ≤ dx) (a2 : dx ≤ 1) (b1 : -1 ≤ dy) (b2 : dy ≤ 1) :
    Calls Try.prog 92 #[.agg #[.int .i64 x, .int .i64 y, .int .i64 dx, .int .i64 dy]] w fun e w' => e = .returned (.agg #[.int .i64 (x + dx), .int .i64 (y + dy)]) ∧ Below w.heap.size w w' := by
  go_enter Try.func92, Try.ntmps92
  go_wp2
  refine bodyPost_ret (v := .agg #[.int .i64 (x + dx), .int .i64 (y + dy)]) (by simp [results, Try.results92, go_sem]) rfl ⟨rfl, (by (repeat (with_reducible first | exact Below.refl _ _ | assumption | refine below_drewN ?_ _ | refine Below.drew ?_ | refine Below.alloc ?_ ?_ _ | refine Below.setCell ?_ ?_ _)); all_goals (first | omega | (simp only [size_drewN, World.size_alloc, World.size_setCell, World.size_drew] at *; omega) | (simp; done) | (simp; omega)))⟩
set_option maxHeartbeats 800000 in
theorem l03Next_any (x y dx dy : Int) (w : World) (x1 : -1 ≤ x) (x2 : x ≤ 100) (y1 : -1 ≤ y) (y2 : y ≤ 100) (a1 : -1 ≤ dx) (a2 : dx ≤ 1) (b1 : -1 ≤ dy) (b2 : dy ≤ 1) :
    Calls Try.prog 118 #[.agg #[.int .i64 x, .int .i64 y, .int .i64 dx, .int .i64 dy]] w fun e w' => e = .returned (.agg #[.int .i64 (x + dx), .int .i64 (y + dy)]) ∧ Below w.heap.size w w' := by
  go_enter Try.func118, Try.ntmps118
  go_wp2
  refine bodyPost_ret (v := .agg #[.int .i64 (x + dx), .int .i64 (y + dy)]) (by simp [results, Try.results118, go_sem]) rfl ⟨rfl, (by (repeat (with_reducible first | exact Below.refl _ _ | assumption | refine below_drewN ?_ _ | refine Below.drew ?_ | refine Below.alloc ?_ ?_ _ | refine Below.setCell ?_ ?_ _)); all_goals (first | omega | (simp only [size_drewN, World.size_alloc, World.size_setCell, World.size_drew] at *; omega) | (simp; done) | (simp; omega)))⟩
end Go.Proofs.Ytbgigompkmnapaa
