/- SamePanel, the program's and the reference's. -/
import Derived.Test.YthcoimlbjhdjcaaPan
import Derived.Test.YthcoimlbjhdjcaaSame
namespace Go.Proofs.Ythcoimlbjhdjcaa
set_option linter.unusedSimpArgs false
set_option linter.unusedVariables false
open Go.ChangeShapes Go.WideShapes Go.ChangeAt Go.RowKit

/-- Two panels are equal. -/
def samB (W H W' H' : Int) (xs ys : List Int) : Bool := decide (W = W') && decide (H = H') && decide (xs = ys)

set_option maxHeartbeats 800000 in
theorem l02Same_any (p q : Nat) (W H W' H' : Int) (A1 A2 : Option Addr) (c1 c2 : Nat) (xs ys : List Int) (w : World) (B : Nat) (hp : PanP w p W H (.slice A1 xs.length c1)) (hq : PanP w q W' H' (.slice A2 ys.length c2)) (h1 : Ints w B A1 xs) (h2 : Ints w B A2 ys) (hl : xs.length ≤ maxLen) (hl2 : ys.length ≤ maxLen) :
    Calls Try.prog 87 #[.pointer (some ⟨p, 0, none⟩), .pointer (some ⟨q, 0, none⟩)] w fun e w' => e = .returned (.bool (samB W H W' H' xs ys)) ∧ ∃ m, w' = w.drewN m := by
  have p0 := hp.c0
  have p1 := hp.c1
  have p2 := hp.c2
  have q0 := hq.c0
  have q1 := hq.c1
  have q2 := hq.c2
  clear hp hq
  by_cases e1 : W = W'
  · have d1 : (W == W') = true := by simp [e1]
    by_cases e2 : H = H'
    · have d2 : (H == H') = true := by simp [e2]
      have HV : Hid (samB W H W' H' xs ys = decide (xs = ys)) := hid (by simp [samB, e1, e2])
      clear e1 e2
      go_enter Try.func87, Try.ntmps87
      go_wp2_with fail
      go_quiet ((go_at_call 110; exact Calls.quiet_of (l00Same_any _ _ _ _ xs ys _ B (h1.drewN _) (h2.drewN _) hl hl2)))
      go_wp2_with fail
      go_ret
      exact ⟨ret_bool HV.out.symm, _, rfl⟩
    · have d2 : (H == H') = false := by simp [e2]
      have HV : Hid (samB W H W' H' xs ys = false) := hid (by simp [samB, e2])
      clear e1 e2
      go_enter Try.func87, Try.ntmps87
      go_wp2_with fail
      go_quiet (fail)
      go_wp2_with fail
      go_ret
      exact ⟨ret_bool HV.out.symm, _, rfl⟩
  · have d1 : (W == W') = false := by simp [e1]
    have HV : Hid (samB W H W' H' xs ys = false) := hid (by simp [samB, e1])
    clear e1
    go_enter Try.func87, Try.ntmps87
    go_wp2_with fail
    go_quiet (fail)
    go_wp2_with fail
    go_ret
    exact ⟨ret_bool HV.out.symm, _, rfl⟩

theorem specSamePanel_any (W H W' H' : Int) (A1 A2 : Option Addr) (c1 c2 : Nat) (xs ys : List Int) (w : World) (h1 : Ints w w.heap.size A1 xs) (h2 : Ints w w.heap.size A2 ys) (hl : xs.length ≤ maxLen) (hl2 : ys.length ≤ maxLen) :
    Calls Try.prog 46 #[.agg #[.int .i64 W, .int .i64 H, .slice A1 xs.length c1], .agg #[.int .i64 W', .int .i64 H', .slice A2 ys.length c2]] w fun e w' => e = .returned (.bool (samB W H W' H' xs ys)) ∧ Below w.heap.size w w' := by
  go_enter Try.func46, Try.ntmps46
  go_wp2_with (go_at_call 87; refine (l02Same_any _ _ W H W' H' A1 A2 c1 c2 xs ys _ w.heap.size ((PanP.box _ _ _ _).alloc _) (PanP.box' _ _ (by (first | omega | (simp only [size_drewN, World.size_alloc, World.size_setCell, World.size_drew] at *; omega) | (simp; done) | (simp; omega))) _ _ _) (h1.below (by (repeat (with_reducible first | exact Below.refl _ _ | assumption | refine below_drewN ?_ _ | refine Below.drew ?_ | refine Below.alloc ?_ ?_ _ | refine Below.setCell ?_ ?_ _)); all_goals (first | omega | (simp only [size_drewN, World.size_alloc, World.size_setCell, World.size_drew] at *; omega) | (simp; done) | (simp; omega)))) (h2.below (by (repeat (with_reducible first | exact Below.refl _ _ | assumption | refine below_drewN ?_ _ | refine Below.drew ?_ | refine Below.alloc ?_ ?_ _ | refine Below.setCell ?_ ?_ _)); all_goals (first | omega | (simp only [size_drewN, World.size_alloc, World.size_setCell, World.size_drew] at *; omega) | (simp; done) | (simp; omega)))) hl hl2).mono ?_; rintro e w' ⟨rfl, m, rfl⟩)
  go_ret
  exact ⟨rfl, (by (repeat (with_reducible first | exact Below.refl _ _ | assumption | refine below_drewN ?_ _ | refine Below.drew ?_ | refine Below.alloc ?_ ?_ _ | refine Below.setCell ?_ ?_ _)); all_goals (first | omega | (simp only [size_drewN, World.size_alloc, World.size_setCell, World.size_drew] at *; omega) | (simp; done) | (simp; omega)))⟩

set_option maxHeartbeats 800000 in
theorem implSamePanel_any (W H W' H' : Int) (A1 A2 : Option Addr) (c1 c2 : Nat) (xs ys : List Int) (w : World) (h1 : Ints w w.heap.size A1 xs) (h2 : Ints w w.heap.size A2 ys) (hl : xs.length ≤ maxLen) (hl2 : ys.length ≤ maxLen) :
    Calls Try.prog 48 #[.agg #[.int .i64 W, .int .i64 H, .slice A1 xs.length c1], .agg #[.int .i64 W', .int .i64 H', .slice A2 ys.length c2]] w fun e w' => e = .returned (.bool (samB W H W' H' xs ys)) ∧ Below w.heap.size w w' := by
  by_cases e1 : W = W'
  · have d1 : (W == W') = true := by simp [e1]
    by_cases e2 : H = H'
    · have d2 : (H == H') = true := by simp [e2]
      have HV : Hid (samB W H W' H' xs ys = decide (xs = ys)) := hid (by simp [samB, e1, e2])
      clear e1 e2
      go_enter Try.func48, Try.ntmps48
      go_wp2_with (go_at_call 73; refine (equalI_any _ _ _ _ xs ys _ w.heap.size (h1.below (by (repeat (with_reducible first | exact Below.refl _ _ | assumption | refine below_drewN ?_ _ | refine Below.drew ?_ | refine Below.alloc ?_ ?_ _ | refine Below.setCell ?_ ?_ _)); all_goals (first | omega | (simp only [size_drewN, World.size_alloc, World.size_setCell, World.size_drew] at *; omega) | (simp; done) | (simp; omega)))) (h2.below (by (repeat (with_reducible first | exact Below.refl _ _ | assumption | refine below_drewN ?_ _ | refine Below.drew ?_ | refine Below.alloc ?_ ?_ _ | refine Below.setCell ?_ ?_ _)); all_goals (first | omega | (simp only [size_drewN, World.size_alloc, World.size_setCell, World.size_drew] at *; omega) | (simp; done) | (simp; omega)))) hl hl2).mono ?_; rintro e w' ⟨rfl, m, rfl⟩)
      go_ret
      exact ⟨ret_bool HV.out.symm, (by (repeat (with_reducible first | exact Below.refl _ _ | assumption | refine below_drewN ?_ _ | refine Below.drew ?_ | refine Below.alloc ?_ ?_ _ | refine Below.setCell ?_ ?_ _)); all_goals (first | omega | (simp only [size_drewN, World.size_alloc, World.size_setCell, World.size_drew] at *; omega) | (simp; done) | (simp; omega)))⟩
    · have d2 : (H == H') = false := by simp [e2]
      have HV : Hid (samB W H W' H' xs ys = false) := hid (by simp [samB, e2])
      clear e1 e2
      go_enter Try.func48, Try.ntmps48
      go_wp2_with fail
      go_ret
      exact ⟨ret_bool HV.out.symm, (by (repeat (with_reducible first | exact Below.refl _ _ | assumption | refine below_drewN ?_ _ | refine Below.drew ?_ | refine Below.alloc ?_ ?_ _ | refine Below.setCell ?_ ?_ _)); all_goals (first | omega | (simp only [size_drewN, World.size_alloc, World.size_setCell, World.size_drew] at *; omega) | (simp; done) | (simp; omega)))⟩
  · have d1 : (W == W') = false := by simp [e1]
    have HV : Hid (samB W H W' H' xs ys = false) := hid (by simp [samB, e1])
    clear e1
    go_enter Try.func48, Try.ntmps48
    go_wp2_with fail
    go_ret
    exact ⟨ret_bool HV.out.symm, (by (repeat (with_reducible first | exact Below.refl _ _ | assumption | refine below_drewN ?_ _ | refine Below.drew ?_ | refine Below.alloc ?_ ?_ _ | refine Below.setCell ?_ ?_ _)); all_goals (first | omega | (simp only [size_drewN, World.size_alloc, World.size_setCell, World.size_drew] at *; omega) | (simp; done) | (simp; omega)))⟩
end Go.Proofs.Ythcoimlbjhdjcaa
