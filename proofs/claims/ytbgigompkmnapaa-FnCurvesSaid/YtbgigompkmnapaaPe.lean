/- Border points; IsPoint, IsBorder; the laws' copies and comparisons of points. -/
import Derived.Test.YtbgigompkmnapaaPt
namespace Go.Proofs.Ytbgigompkmnapaa
set_option linter.unusedSimpArgs false
set_option linter.unusedVariables false
open Go.ChangeShapes Go.WideShapes Go.ChangeAt Go.RowKit

set_option maxHeartbeats 1600000 in
theorem isBorder_any (W H x y : Int) (A : Option Addr) (n c : Nat) (w : World)
    (hW : side W = true) (hH : side H = true) :
    Calls Try.prog 100 #[.agg #[.int .i64 W, .int .i64 H, .slice A n c], .agg #[.int .i64 x, .int .i64 y]] w fun e w' => e = .returned (.bool (edgeP W H x y)) ∧ Below w.heap.size w w' := by
  obtain ⟨w1, w2⟩ := side_bd hW
  obtain ⟨w3, w4⟩ := side_bd hH
  clear hW hH
  obtain ⟨b0, b1, b2, b3, e0, e1, e2, e3, E⟩ : ∃ b0 b1 b2 b3 : Bool, (x == 0) = b0 ∧ (x == 2 * W) = b1 ∧ (y == 0) = b2 ∧ (y == 2 * H) = b3 ∧ edgeP W H x y = (b0 || (b1 || (b2 || b3))) := ⟨_, _, _, _, rfl, rfl, rfl, rfl, rfl⟩
  have HV := hid E
  clear E
  cases b0
  · cases b1
    · cases b2
      · cases b3
        · go_enter Try.func100, Try.ntmps100
          go_wp2_with fail
          go_ret
          exact ⟨ret_bool (by simpa using HV.out.symm), (by (repeat (with_reducible first | exact Below.refl _ _ | assumption | refine below_drewN ?_ _ | refine Below.drew ?_ | refine Below.alloc ?_ ?_ _ | refine Below.setCell ?_ ?_ _)); all_goals (first | omega | (simp only [size_drewN, World.size_alloc, World.size_setCell, World.size_drew] at *; omega) | (simp; done) | (simp; omega)))⟩
        · go_enter Try.func100, Try.ntmps100
          go_wp2_with fail
          go_ret
          exact ⟨ret_bool (by simpa using HV.out.symm), (by (repeat (with_reducible first | exact Below.refl _ _ | assumption | refine below_drewN ?_ _ | refine Below.drew ?_ | refine Below.alloc ?_ ?_ _ | refine Below.setCell ?_ ?_ _)); all_goals (first | omega | (simp only [size_drewN, World.size_alloc, World.size_setCell, World.size_drew] at *; omega) | (simp; done) | (simp; omega)))⟩
      · clear e3
        go_enter Try.func100, Try.ntmps100
        go_wp2_with fail
        go_ret
        exact ⟨ret_bool (by simpa using HV.out.symm), (by (repeat (with_reducible first | exact Below.refl _ _ | assumption | refine below_drewN ?_ _ | refine Below.drew ?_ | refine Below.alloc ?_ ?_ _ | refine Below.setCell ?_ ?_ _)); all_goals (first | omega | (simp only [size_drewN, World.size_alloc, World.size_setCell, World.size_drew] at *; omega) | (simp; done) | (simp; omega)))⟩
    · clear e2 e3
      go_enter Try.func100, Try.ntmps100
      go_wp2_with fail
      go_ret
      exact ⟨ret_bool (by simpa using HV.out.symm), (by (repeat (with_reducible first | exact Below.refl _ _ | assumption | refine below_drewN ?_ _ | refine Below.drew ?_ | refine Below.alloc ?_ ?_ _ | refine Below.setCell ?_ ?_ _)); all_goals (first | omega | (simp only [size_drewN, World.size_alloc, World.size_setCell, World.size_drew] at *; omega) | (simp; done) | (simp; omega)))⟩
  · clear e1 e2 e3
    go_enter Try.func100, Try.ntmps100
    go_wp2_with fail
    go_ret
    exact ⟨ret_bool (by simpa using HV.out.symm), (by (repeat (with_reducible first | exact Below.refl _ _ | assumption | refine below_drewN ?_ _ | refine Below.drew ?_ | refine Below.alloc ?_ ?_ _ | refine Below.setCell ?_ ?_ _)); all_goals (first | omega | (simp only [size_drewN, World.size_alloc, World.size_setCell, World.size_drew] at *; omega) | (simp; done) | (simp; omega)))⟩

set_option maxHeartbeats 1600000 in
theorem l02Edge_any (p : Nat) (W H x y : Int) (s : Value) (w : World)
    (hp : PanP w p W H s) (hW : side W = true) (hH : side H = true) :
    Calls Try.prog 107 #[.pointer (some ⟨p, 0, none⟩), .agg #[.int .i64 x, .int .i64 y]] w fun e w' => e = .returned (.bool (edgeP W H x y)) ∧ Below w.heap.size w w' := by
  obtain ⟨w1, w2⟩ := side_bd hW
  obtain ⟨w3, w4⟩ := side_bd hH
  have p0 := hp.c0
  have p1 := hp.c1
  have pz := hp.lt
  clear hW hH hp
  obtain ⟨b0, b1, b2, b3, e0, e1, e2, e3, E⟩ : ∃ b0 b1 b2 b3 : Bool, (x == 0) = b0 ∧ (y == 0) = b1 ∧ (x == 2 * W) = b2 ∧ (y == 2 * H) = b3 ∧ edgeP W H x y = (b0 || (b1 || (b2 || b3))) := ⟨_, _, _, _, rfl, rfl, rfl, rfl, by unfold edgeP; cases (x == 0) <;> cases (x == 2 * W) <;> cases (y == 0) <;> cases (y == 2 * H) <;> rfl⟩
  have HV := hid E
  clear E
  cases b0
  · cases b1
    · cases b2
      · cases b3
        · go_enter Try.func107, Try.ntmps107
          go_wp2_with fail
          go_quiet (fail)
          go_wp2_with fail
          go_ret
          exact ⟨ret_bool (by simpa using HV.out.symm), (by (repeat (with_reducible first | exact Below.refl _ _ | assumption | refine below_drewN ?_ _ | refine Below.drew ?_ | refine Below.alloc ?_ ?_ _ | refine Below.setCell ?_ ?_ _)); all_goals (first | omega | (simp only [size_drewN, World.size_alloc, World.size_setCell, World.size_drew] at *; omega) | (simp; done) | (simp; omega)))⟩
        · go_enter Try.func107, Try.ntmps107
          go_wp2_with fail
          go_quiet (fail)
          go_wp2_with fail
          go_ret
          exact ⟨ret_bool (by simpa using HV.out.symm), (by (repeat (with_reducible first | exact Below.refl _ _ | assumption | refine below_drewN ?_ _ | refine Below.drew ?_ | refine Below.alloc ?_ ?_ _ | refine Below.setCell ?_ ?_ _)); all_goals (first | omega | (simp only [size_drewN, World.size_alloc, World.size_setCell, World.size_drew] at *; omega) | (simp; done) | (simp; omega)))⟩
      · clear e3
        go_enter Try.func107, Try.ntmps107
        go_wp2_with fail
        go_quiet (fail)
        go_wp2_with fail
        go_ret
        exact ⟨ret_bool (by simpa using HV.out.symm), (by (repeat (with_reducible first | exact Below.refl _ _ | assumption | refine below_drewN ?_ _ | refine Below.drew ?_ | refine Below.alloc ?_ ?_ _ | refine Below.setCell ?_ ?_ _)); all_goals (first | omega | (simp only [size_drewN, World.size_alloc, World.size_setCell, World.size_drew] at *; omega) | (simp; done) | (simp; omega)))⟩
    · clear e2 e3
      go_enter Try.func107, Try.ntmps107
      go_wp2_with fail
      go_quiet (fail)
      go_wp2_with fail
      go_ret
      exact ⟨ret_bool (by simpa using HV.out.symm), (by (repeat (with_reducible first | exact Below.refl _ _ | assumption | refine below_drewN ?_ _ | refine Below.drew ?_ | refine Below.alloc ?_ ?_ _ | refine Below.setCell ?_ ?_ _)); all_goals (first | omega | (simp only [size_drewN, World.size_alloc, World.size_setCell, World.size_drew] at *; omega) | (simp; done) | (simp; omega)))⟩
  · clear e1 e2 e3
    go_enter Try.func107, Try.ntmps107
    go_wp2_with fail
    go_quiet (fail)
    go_wp2_with fail
    go_ret
    exact ⟨ret_bool (by simpa using HV.out.symm), (by (repeat (with_reducible first | exact Below.refl _ _ | assumption | refine below_drewN ?_ _ | refine Below.drew ?_ | refine Below.alloc ?_ ?_ _ | refine Below.setCell ?_ ?_ _)); all_goals (first | omega | (simp only [size_drewN, World.size_alloc, World.size_setCell, World.size_drew] at *; omega) | (simp; done) | (simp; omega)))⟩

/-- IsPoint. -/
def isPointB (W H : Int) (zs : List Int) (x y : Int) : Bool := validB W H zs && hasP W H x y
def isBorderB (W H : Int) (zs : List Int) (x y : Int) : Bool := isPointB W H zs x y && edgeP W H x y
theorem valid_sides {W H : Int} {zs : List Int} (h : validB W H zs = true) : side W = true ∧ side H = true := by
  simp only [validB, Bool.and_eq_true] at h
  exact ⟨h.1.1.1, h.1.1.2⟩

set_option maxHeartbeats 800000 in
theorem implIsPoint_any (W H : Int) (A : Option Addr) (c : Nat) (zs : List Int) (x y : Int) (w : World) (hz : Ints w w.heap.size A zs) (hl : zs.length ≤ maxLen) (_ : (Lit.int .i64 x).wf = true) (_ : (Lit.int .i64 y).wf = true) :
    Calls Try.prog 44 #[.agg #[.int .i64 W, .int .i64 H, .slice A zs.length c], .agg #[.int .i64 x, .int .i64 y]] w fun e w' => e = .returned (.bool (isPointB W H zs x y)) ∧ Below w.heap.size w w' := by
  cases hv : validB W H zs
  · have HV : Hid (isPointB W H zs x y = false) := hid (by simp [isPointB, hv])
    have Hv := hid hv
    clear hv
    go_enter Try.func44, Try.ntmps44
    go_wp2_with fail
    refine (calls_bool (validPanel_any _ _ _ _ _ _ ((hz.below (by (repeat (with_reducible first | exact Below.refl _ _ | assumption | refine below_drewN ?_ _ | refine Below.drew ?_ | refine Below.alloc ?_ ?_ _ | refine Below.setCell ?_ ?_ _)); all_goals (first | omega | (simp only [size_drewN, World.size_alloc, World.size_setCell, World.size_drew] at *; omega) | (simp; done) | (simp; omega)))).more (by (first | omega | (simp only [size_drewN, World.size_alloc, World.size_setCell, World.size_drew] at *; omega) | (simp; done) | (simp; omega)))) hl) Hv.out).mono ?_
    rintro e w1 ⟨rfl, hb1⟩
    have HB := hid (bstep (bal (bal (Below.refl _ _) _) _) hb1)
    clear hb1
    go_wp2_with fail
    go_ret
    exact ⟨ret_bool HV.out.symm, HB.out⟩
  · have HV : Hid (isPointB W H zs x y = hasP W H x y) := hid (by simp [isPointB, hv])
    have Hv := hid hv
    clear hv
    go_enter Try.func44, Try.ntmps44
    go_wp2_with fail
    refine (calls_bool (validPanel_any _ _ _ _ _ _ ((hz.below (by (repeat (with_reducible first | exact Below.refl _ _ | assumption | refine below_drewN ?_ _ | refine Below.drew ?_ | refine Below.alloc ?_ ?_ _ | refine Below.setCell ?_ ?_ _)); all_goals (first | omega | (simp only [size_drewN, World.size_alloc, World.size_setCell, World.size_drew] at *; omega) | (simp; done) | (simp; omega)))).more (by (first | omega | (simp only [size_drewN, World.size_alloc, World.size_setCell, World.size_drew] at *; omega) | (simp; done) | (simp; omega)))) hl) Hv.out).mono ?_
    rintro e w1 ⟨rfl, hb1⟩
    obtain ⟨p0, p1, p2⟩ := (Box.keep (Box.alloc (Box.new _ _ _) _) hb1).three
    obtain ⟨q0, q1⟩ := (Box.keep (Box.new' _ _ _ (w.heap.size + 1) (by simp)) hb1).two
    have HB := hid (bstep (bal (bal (Below.refl _ _) _) _) hb1)
    clear hb1
    go_wp2_with fail
    refine (isPoint_any _ _ _ _ _ _ _ _ (valid_sides Hv.out).1 (valid_sides Hv.out).2).mono ?_
    rintro e w2 ⟨rfl, hb2⟩
    have HB2 := hid (bstep HB.out hb2)
    clear hb2
    go_wp2_with fail
    go_ret
    exact ⟨ret_bool HV.out.symm, HB2.out⟩

end Go.Proofs.Ytbgigompkmnapaa
