/- Border points; IsPoint, IsBorder; the laws' copies and comparisons of points. -/
import Derived.Test.YtgcgaoblbhojnaaPt
namespace Go.Proofs.Ytgcgaoblbhojnaa
set_option linter.unusedSimpArgs false
set_option linter.unusedVariables false
open Go.ChangeShapes Go.WideShapes Go.ChangeAt Go.RowKit

set_option maxHeartbeats 1600000 in
theorem isBorder_any (W H x y : Int) (A : Option Addr) (n c : Nat) (w : World)
    (hW : side W = true) (hH : side H = true) :
    Calls Try.prog 63 #[.agg #[.int .i64 W, .int .i64 H, .slice A n c], .agg #[.int .i64 x, .int .i64 y]] w fun e w' => e = .returned (.bool (edgeP W H x y)) ∧ Below w.heap.size w w' := by
  obtain ⟨w1, w2⟩ := side_bd hW
  obtain ⟨w3, w4⟩ := side_bd hH
  clear hW hH
  obtain ⟨b0, b1, b2, b3, e0, e1, e2, e3, E⟩ : ∃ b0 b1 b2 b3 : Bool, (x == 0) = b0 ∧ (x == 2 * W) = b1 ∧ (y == 0) = b2 ∧ (y == 2 * H) = b3 ∧ edgeP W H x y = (b0 || (b1 || (b2 || b3))) := ⟨_, _, _, _, rfl, rfl, rfl, rfl, rfl⟩
  have HV := hid E
  clear E
  cases b0
  · cases b1
    · cases b2
      · cases b3
        · go_enter Try.func63, Try.ntmps63
          go_wp2_with fail
          go_ret
          exact ⟨ret_bool (by simpa using HV.out.symm), (by (repeat (with_reducible first | exact Below.refl _ _ | assumption | refine below_drewN ?_ _ | refine Below.drew ?_ | refine Below.alloc ?_ ?_ _ | refine Below.setCell ?_ ?_ _)); all_goals (first | omega | (simp only [size_drewN, World.size_alloc, World.size_setCell, World.size_drew] at *; omega) | (simp; done) | (simp; omega)))⟩
        · go_enter Try.func63, Try.ntmps63
          go_wp2_with fail
          go_ret
          exact ⟨ret_bool (by simpa using HV.out.symm), (by (repeat (with_reducible first | exact Below.refl _ _ | assumption | refine below_drewN ?_ _ | refine Below.drew ?_ | refine Below.alloc ?_ ?_ _ | refine Below.setCell ?_ ?_ _)); all_goals (first | omega | (simp only [size_drewN, World.size_alloc, World.size_setCell, World.size_drew] at *; omega) | (simp; done) | (simp; omega)))⟩
      · clear e3
        go_enter Try.func63, Try.ntmps63
        go_wp2_with fail
        go_ret
        exact ⟨ret_bool (by simpa using HV.out.symm), (by (repeat (with_reducible first | exact Below.refl _ _ | assumption | refine below_drewN ?_ _ | refine Below.drew ?_ | refine Below.alloc ?_ ?_ _ | refine Below.setCell ?_ ?_ _)); all_goals (first | omega | (simp only [size_drewN, World.size_alloc, World.size_setCell, World.size_drew] at *; omega) | (simp; done) | (simp; omega)))⟩
    · clear e2 e3
      go_enter Try.func63, Try.ntmps63
      go_wp2_with fail
      go_ret
      exact ⟨ret_bool (by simpa using HV.out.symm), (by (repeat (with_reducible first | exact Below.refl _ _ | assumption | refine below_drewN ?_ _ | refine Below.drew ?_ | refine Below.alloc ?_ ?_ _ | refine Below.setCell ?_ ?_ _)); all_goals (first | omega | (simp only [size_drewN, World.size_alloc, World.size_setCell, World.size_drew] at *; omega) | (simp; done) | (simp; omega)))⟩
  · clear e1 e2 e3
    go_enter Try.func63, Try.ntmps63
    go_wp2_with fail
    go_ret
    exact ⟨ret_bool (by simpa using HV.out.symm), (by (repeat (with_reducible first | exact Below.refl _ _ | assumption | refine below_drewN ?_ _ | refine Below.drew ?_ | refine Below.alloc ?_ ?_ _ | refine Below.setCell ?_ ?_ _)); all_goals (first | omega | (simp only [size_drewN, World.size_alloc, World.size_setCell, World.size_drew] at *; omega) | (simp; done) | (simp; omega)))⟩

set_option maxHeartbeats 1600000 in
theorem l02Edge_any (p : Nat) (W H x y : Int) (s : Value) (w : World)
    (hp : PanP w p W H s) (hW : side W = true) (hH : side H = true) :
    Calls Try.prog 87 #[.pointer (some ⟨p, 0, none⟩), .agg #[.int .i64 x, .int .i64 y]] w fun e w' => e = .returned (.bool (edgeP W H x y)) ∧ Below w.heap.size w w' := by
  obtain ⟨w1, w2⟩ := side_bd hW
  obtain ⟨w3, w4⟩ := side_bd hH
  have p0 := hp.c0
  have p1 := hp.c1
  have pz := hp.lt
  clear hW hH hp
  obtain ⟨b0, b1, b2, b3, e0, e1, e2, e3, E⟩ : ∃ b0 b1 b2 b3 : Bool, (x == 0) = b0 ∧ (y == 0) = b1 ∧ (x == 2 * W) = b2 ∧ (y == 2 * H) = b3 ∧ edgeP W H x y = (b0 || (b1 || (b2 || b3))) := ⟨_, _, _, _, rfl, rfl, rfl, rfl, by unfold edgeP; cases (x == 0) <;> cases (x == 2 * W) <;> cases (y == 0) <;> cases (y == 2 * H) <;> rfl⟩
  have HV := hid E
  clear E
  cases b0
  · cases b1
    · cases b2
      · cases b3
        · go_enter Try.func87, Try.ntmps87
          go_wp2_with fail
          go_quiet (fail)
          go_wp2_with fail
          go_ret
          exact ⟨ret_bool (by simpa using HV.out.symm), (by (repeat (with_reducible first | exact Below.refl _ _ | assumption | refine below_drewN ?_ _ | refine Below.drew ?_ | refine Below.alloc ?_ ?_ _ | refine Below.setCell ?_ ?_ _)); all_goals (first | omega | (simp only [size_drewN, World.size_alloc, World.size_setCell, World.size_drew] at *; omega) | (simp; done) | (simp; omega)))⟩
        · go_enter Try.func87, Try.ntmps87
          go_wp2_with fail
          go_quiet (fail)
          go_wp2_with fail
          go_ret
          exact ⟨ret_bool (by simpa using HV.out.symm), (by (repeat (with_reducible first | exact Below.refl _ _ | assumption | refine below_drewN ?_ _ | refine Below.drew ?_ | refine Below.alloc ?_ ?_ _ | refine Below.setCell ?_ ?_ _)); all_goals (first | omega | (simp only [size_drewN, World.size_alloc, World.size_setCell, World.size_drew] at *; omega) | (simp; done) | (simp; omega)))⟩
      · clear e3
        go_enter Try.func87, Try.ntmps87
        go_wp2_with fail
        go_quiet (fail)
        go_wp2_with fail
        go_ret
        exact ⟨ret_bool (by simpa using HV.out.symm), (by (repeat (with_reducible first | exact Below.refl _ _ | assumption | refine below_drewN ?_ _ | refine Below.drew ?_ | refine Below.alloc ?_ ?_ _ | refine Below.setCell ?_ ?_ _)); all_goals (first | omega | (simp only [size_drewN, World.size_alloc, World.size_setCell, World.size_drew] at *; omega) | (simp; done) | (simp; omega)))⟩
    · clear e2 e3
      go_enter Try.func87, Try.ntmps87
      go_wp2_with fail
      go_quiet (fail)
      go_wp2_with fail
      go_ret
      exact ⟨ret_bool (by simpa using HV.out.symm), (by (repeat (with_reducible first | exact Below.refl _ _ | assumption | refine below_drewN ?_ _ | refine Below.drew ?_ | refine Below.alloc ?_ ?_ _ | refine Below.setCell ?_ ?_ _)); all_goals (first | omega | (simp only [size_drewN, World.size_alloc, World.size_setCell, World.size_drew] at *; omega) | (simp; done) | (simp; omega)))⟩
  · clear e1 e2 e3
    go_enter Try.func87, Try.ntmps87
    go_wp2_with fail
    go_quiet (fail)
    go_wp2_with fail
    go_ret
    exact ⟨ret_bool (by simpa using HV.out.symm), (by (repeat (with_reducible first | exact Below.refl _ _ | assumption | refine below_drewN ?_ _ | refine Below.drew ?_ | refine Below.alloc ?_ ?_ _ | refine Below.setCell ?_ ?_ _)); all_goals (first | omega | (simp only [size_drewN, World.size_alloc, World.size_setCell, World.size_drew] at *; omega) | (simp; done) | (simp; omega)))⟩

/-- IsPoint. -/
def isPointB (W H : Int) (zs : List Int) (x y : Int) : Bool := validB W H zs && hasP W H x y
def isBorderB (W H : Int) (zs : List Int) (x y : Int) : Bool := isPointB W H zs x y && edgeP W H x y
theorem valid_sides {W H : Int} {zs : List Int} (h : validB W H zs = true) : side W = true ∧ side H = true := by
  simp only [validB, Bool.and_eq_true] at h
  exact ⟨h.1.1.1, h.1.1.2⟩

end Go.Proofs.Ytgcgaoblbhojnaa
