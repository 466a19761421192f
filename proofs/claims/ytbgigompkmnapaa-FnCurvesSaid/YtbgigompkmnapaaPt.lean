/- Points of a panel: has, edge; the program's and the reference's. -/
import Derived.Test.YtbgigompkmnapaaVr
import Derived.Deep.RegionHeld3
namespace Go.Proofs.Ytbgigompkmnapaa
set_option linter.unusedSimpArgs false
set_option linter.unusedVariables false
open Go.ChangeShapes Go.WideShapes Go.ChangeAt Go.RowKit

/-- A panel with these sides has the point (x, y). -/
def hasP (W H x y : Int) : Bool := inR x 0 (2 * W) && (inR y 0 (2 * H) && ((x + y) % 2 == 1))
/-- The point lies on the border. -/
def edgeP (W H x y : Int) : Bool := x == 0 || (x == 2 * W || (y == 0 || y == 2 * H))

theorem inR_bd {x a b : Int} (h : inR x a b = true) : a ≤ x ∧ x ≤ b := by simpa [inR] using h

set_option maxHeartbeats 800000 in
theorem isPoint_any (W H x y : Int) (A : Option Addr) (n c : Nat) (w : World) (hW : side W = true) (hH : side H = true) :
    Calls Try.prog 99 #[.agg #[.int .i64 W, .int .i64 H, .slice A n c], .agg #[.int .i64 x, .int .i64 y]] w fun e w' => e = .returned (.bool (hasP W H x y)) ∧ Below w.heap.size w w' := by
  obtain ⟨w1, w2⟩ := side_bd hW
  obtain ⟨w3, w4⟩ := side_bd hH
  clear hW hH
  cases h1 : inR x 0 (2 * W)
  · have HV : Hid (hasP W H x y = false) := hid (by simp [hasP, h1])
    have H1 := hid h1
    clear h1
    go_enter Try.func99, Try.ntmps99
    go_wp2_with (go_at_call 81; refine (calls_bool (inRange_any _ _ _ _) H1.out).mono ?_; rintro e w' ⟨rfl, rfl⟩)
    go_ret
    exact ⟨ret_bool HV.out.symm, (by (repeat (with_reducible first | exact Below.refl _ _ | assumption | refine below_drewN ?_ _ | refine Below.drew ?_ | refine Below.alloc ?_ ?_ _ | refine Below.setCell ?_ ?_ _)); all_goals (first | omega | (simp only [size_drewN, World.size_alloc, World.size_setCell, World.size_drew] at *; omega) | (simp; done) | (simp; omega)))⟩
  · cases h2 : inR y 0 (2 * H)
    · have HV : Hid (hasP W H x y = false) := hid (by simp [hasP, h2])
      have H1 := hid h1
      have H2 := hid h2
      clear h1 h2
      go_enter Try.func99, Try.ntmps99
      go_wp2_with (first | (go_at_call_of 81 x; refine (calls_bool (inRange_any _ _ _ _) H1.out).mono ?_; rintro e w' ⟨rfl, rfl⟩) | (go_at_call_of 81 y; refine (calls_bool (inRange_any _ _ _ _) H2.out).mono ?_; rintro e w' ⟨rfl, rfl⟩))
      go_ret
      exact ⟨ret_bool HV.out.symm, (by (repeat (with_reducible first | exact Below.refl _ _ | assumption | refine below_drewN ?_ _ | refine Below.drew ?_ | refine Below.alloc ?_ ?_ _ | refine Below.setCell ?_ ?_ _)); all_goals (first | omega | (simp only [size_drewN, World.size_alloc, World.size_setCell, World.size_drew] at *; omega) | (simp; done) | (simp; omega)))⟩
    · obtain ⟨x1, x2⟩ := inR_bd h1
      obtain ⟨y1, y2⟩ := inR_bd h2
      have HV : Hid (hasP W H x y = ((x + y) % 2 == 1)) := hid (by simp [hasP, h1, h2])
      have H1 := hid h1
      have H2 := hid h2
      clear h1 h2
      go_enter Try.func99, Try.ntmps99
      go_wp2_with fail
      refine (calls_bool (inRange_any _ _ _ _) H1.out).mono ?_
      rintro e w' ⟨rfl, rfl⟩
      go_wp2_with fail
      refine (calls_bool (inRange_any _ _ _ _) H2.out).mono ?_
      rintro e w' ⟨rfl, rfl⟩
      go_wp2_with fail
      go_ret
      exact ⟨ret_bool HV.out.symm, (by (repeat (with_reducible first | exact Below.refl _ _ | assumption | refine below_drewN ?_ _ | refine Below.drew ?_ | refine Below.alloc ?_ ?_ _ | refine Below.setCell ?_ ?_ _)); all_goals (first | omega | (simp only [size_drewN, World.size_alloc, World.size_setCell, World.size_drew] at *; omega) | (simp; done) | (simp; omega)))⟩

set_option maxHeartbeats 800000 in
theorem l02Has_any (p : Nat) (W H x y : Int) (s : Value) (w : World) (hp : PanP w p W H s) (hW : side W = true) (hH : side H = true) :
    Calls Try.prog 106 #[.pointer (some ⟨p, 0, none⟩), .agg #[.int .i64 x, .int .i64 y]] w fun e w' => e = .returned (.bool (hasP W H x y)) ∧ Below w.heap.size w w' := by
  obtain ⟨w1, w2⟩ := side_bd hW
  obtain ⟨w3, w4⟩ := side_bd hH
  have p0 := hp.c0
  have p1 := hp.c1
  have pz := hp.lt
  clear hW hH hp
  cases h1 : inR x 0 (2 * W)
  · have HV : Hid (hasP W H x y = false) := hid (by simp [hasP, h1])
    have H1 := hid h1
    clear h1
    go_enter Try.func106, Try.ntmps106
    go_wp2_with fail
    go_quiet ((go_at_call 101; exact quiet_bool (l00In_any _ _ _ _) H1.out))
    go_wp2_with fail
    go_ret
    exact ⟨ret_bool HV.out.symm, (by (repeat (with_reducible first | exact Below.refl _ _ | assumption | refine below_drewN ?_ _ | refine Below.drew ?_ | refine Below.alloc ?_ ?_ _ | refine Below.setCell ?_ ?_ _)); all_goals (first | omega | (simp only [size_drewN, World.size_alloc, World.size_setCell, World.size_drew] at *; omega) | (simp; done) | (simp; omega)))⟩
  · cases h2 : inR y 0 (2 * H)
    · have HV : Hid (hasP W H x y = false) := hid (by simp [hasP, h2])
      have H1 := hid h1
      have H2 := hid h2
      clear h1 h2
      go_enter Try.func106, Try.ntmps106
      go_wp2_with fail
      go_quiet ((first | (go_at_call_of 101 x; exact quiet_bool (l00In_any _ _ _ _) H1.out) | (go_at_call_of 101 y; exact quiet_bool (l00In_any _ _ _ _) H2.out)))
      go_wp2_with fail
      go_ret
      exact ⟨ret_bool HV.out.symm, (by (repeat (with_reducible first | exact Below.refl _ _ | assumption | refine below_drewN ?_ _ | refine Below.drew ?_ | refine Below.alloc ?_ ?_ _ | refine Below.setCell ?_ ?_ _)); all_goals (first | omega | (simp only [size_drewN, World.size_alloc, World.size_setCell, World.size_drew] at *; omega) | (simp; done) | (simp; omega)))⟩
    · obtain ⟨x1, x2⟩ := inR_bd h1
      obtain ⟨y1, y2⟩ := inR_bd h2
      have HV : Hid (hasP W H x y = ((x + y) % 2 == 1)) := hid (by simp [hasP, h1, h2])
      have H1 := hid h1
      have H2 := hid h2
      have s1 : IntKind.i64.wrap (x + y) = x + y := IntWalk.i64_in _ (by omega)
      have s2 : 0 ≤ x + y := by omega
      clear h1 h2
      go_enter Try.func106, Try.ntmps106
      go_wp2_with fail
      go_quiet ((first | (go_at_call_of 101 x; exact quiet_bool (l00In_any _ _ _ _) H1.out) | (go_at_call_of 101 y; exact quiet_bool (l00In_any _ _ _ _) H2.out)))
      clear s1 s2
      go_wp2_with fail
      go_ret
      exact ⟨ret_bool HV.out.symm, (by (repeat (with_reducible first | exact Below.refl _ _ | assumption | refine below_drewN ?_ _ | refine Below.drew ?_ | refine Below.alloc ?_ ?_ _ | refine Below.setCell ?_ ?_ _)); all_goals (first | omega | (simp only [size_drewN, World.size_alloc, World.size_setCell, World.size_drew] at *; omega) | (simp; done) | (simp; omega)))⟩
end Go.Proofs.Ytbgigompkmnapaa
