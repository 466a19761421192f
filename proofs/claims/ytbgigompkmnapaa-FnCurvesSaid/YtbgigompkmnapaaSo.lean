/- Segments of walkers. -/
import Derived.Test.YtbgigompkmnapaaCs
import Derived.Test.YtbgigompkmnapaaVk
import Derived.Deep.RegionHeld3
namespace Go.Proofs.Ytbgigompkmnapaa
set_option linter.unusedSimpArgs false
set_option linter.unusedVariables false
open Go.ChangeShapes Go.WideShapes Go.ChangeAt Go.RowKit
/-- The number of a walker's segment. -/
def sgF (H x y dx dy : Int) : Int := (if dx = 1 then x else x + -1) * 2 * H + (if dy = 1 then y else y + -1)
theorem signB_cases {n : Int} (h : signB n = true) : n = 1 ∨ n = -1 := by
  simpa [signB] using h
theorem walk_parts {W H x y dx dy : Int} (h : walkB W H x y dx dy = true) : (dx = 1 ∨ dx = -1) ∧ (dy = 1 ∨ dy = -1) ∧ hasP W H x y = true ∧ hasP W H (x + dx) (y + dy) = true := by
  simp only [walkB, Bool.and_eq_true] at h
  exact ⟨signB_cases h.1, signB_cases h.2.1, h.2.2.1, h.2.2.2⟩
theorem mul_bd {H u : Int} (h : side H = true) (u1 : 0 ≤ u) (u2 : u ≤ 16) : 0 ≤ u * 2 * H ∧ u * 2 * H ≤ 256 := by
  rcases side_cases h with rfl | rfl | rfl | rfl | rfl | rfl | rfl | rfl <;> omega
/-- A valid walker's segment is one of the panel's. -/
theorem sgF_bd {W H x y dx dy : Int} (hW : side W = true) (hH : side H = true) (h : walkB W H x y dx dy = true) : 0 ≤ sgF H x y dx dy ∧ sgF H x y dx dy < 4 * W * H := by
  obtain ⟨h1, h2, h3, h4⟩ := walk_parts h
  obtain ⟨x1, x2, y1, y2⟩ := hasP_bd h3
  obtain ⟨x3, x4, y3, y4⟩ := hasP_bd h4
  unfold sgF
  rcases side_cases hH with rfl | rfl | rfl | rfl | rfl | rfl | rfl | rfl <;> rcases h1 with rfl | rfl <;> rcases h2 with rfl | rfl <;> simp <;> omega

set_option maxHeartbeats 1600000 in
theorem segment_any (W H x y dx dy : Int) (A : Option Addr) (n c : Nat) (w : World) (hW : side W = true) (hH : side H = true) (h : walkB W H x y dx dy = true) :
    Calls Try.prog 87 #[.agg #[.int .i64 W, .int .i64 H, .slice A n c], .agg #[.int .i64 x, .int .i64 y, .int .i64 dx, .int .i64 dy]] w fun e w' => e = .returned (.int .i64 (sgF H x y dx dy)) ∧ Below w.heap.size w w' := by
  have HF : Hid (sgF H x y dx dy = sgF H x y dx dy) := hid rfl
  obtain ⟨h1, h2, h3, h4⟩ := walk_parts h
  obtain ⟨x1, x2, y1, y2⟩ := hasP_bd h3
  obtain ⟨x3, x4, y3, y4⟩ := hasP_bd h4
  obtain ⟨w1, w2⟩ := side_bd hW
  obtain ⟨w3, w4⟩ := side_bd hH
  clear h h3 h4 HF
  rcases h1 with rfl | rfl
  · obtain ⟨m1, m2⟩ := mul_bd hH (u := x) (by omega) (by omega)
    have HW := hid hW
    have HH := hid hH
    clear hW hH
    rcases h2 with rfl | rfl
    · go_enter Try.func87, Try.ntmps87
      go_wp2_with fail
      refine (next_any x y (1) (1) _ (by omega) (by omega) (by omega) (by omega) (by omega) (by omega) (by omega) (by omega)).mono ?_
      rintro e w1 ⟨rfl, hb1⟩
      have KP1 : Hid (Box w1 (w.heap.size) 30 #[.int .i64 W, .int .i64 H, .slice A n c]) := hid (Box.keep (Box.alloc (Box.new' _ _ _ _ (by simp)) _) hb1)
      have KK1 : Hid (Box w1 (w.heap.size + 1) 52 #[.int .i64 x, .int .i64 y, .int .i64 1, .int .i64 1]) := hid (Box.keep (Box.new' _ _ _ _ (by simp)) hb1)
      have HB1 : Hid (Below w.heap.size w w1) := hid (bstep (bal (bal (Below.refl _ _) _) _) hb1)
      clear hb1
      obtain ⟨Pa, Pb, Pc⟩ := KP1.out.three
      have Pz := KP1.out.lt
      obtain ⟨Ka, Kb, Kc, Kd⟩ := KK1.out.four
      have Kz := KK1.out.lt
      go_wp2_with fail
      go_ret
      exact ⟨ret_int (by simp [sgF] <;> omega), (bal (HB1.out) _)⟩
    · go_enter Try.func87, Try.ntmps87
      go_wp2_with fail
      refine (next_any x y (1) (-1) _ (by omega) (by omega) (by omega) (by omega) (by omega) (by omega) (by omega) (by omega)).mono ?_
      rintro e w1 ⟨rfl, hb1⟩
      have KP1 : Hid (Box w1 (w.heap.size) 30 #[.int .i64 W, .int .i64 H, .slice A n c]) := hid (Box.keep (Box.alloc (Box.new' _ _ _ _ (by simp)) _) hb1)
      have KK1 : Hid (Box w1 (w.heap.size + 1) 52 #[.int .i64 x, .int .i64 y, .int .i64 1, .int .i64 (-1)]) := hid (Box.keep (Box.new' _ _ _ _ (by simp)) hb1)
      have HB1 : Hid (Below w.heap.size w w1) := hid (bstep (bal (bal (Below.refl _ _) _) _) hb1)
      clear hb1
      obtain ⟨Pa, Pb, Pc⟩ := KP1.out.three
      have Pz := KP1.out.lt
      obtain ⟨Ka, Kb, Kc, Kd⟩ := KK1.out.four
      have Kz := KK1.out.lt
      go_wp2_with fail
      go_ret
      exact ⟨ret_int (by simp [sgF] <;> omega), (bal (HB1.out) _)⟩
  · obtain ⟨m1, m2⟩ := mul_bd hH (u := x + -1) (by omega) (by omega)
    have HW := hid hW
    have HH := hid hH
    clear hW hH
    rcases h2 with rfl | rfl
    · go_enter Try.func87, Try.ntmps87
      go_wp2_with fail
      refine (next_any x y (-1) (1) _ (by omega) (by omega) (by omega) (by omega) (by omega) (by omega) (by omega) (by omega)).mono ?_
      rintro e w1 ⟨rfl, hb1⟩
      have KP1 : Hid (Box w1 (w.heap.size) 30 #[.int .i64 W, .int .i64 H, .slice A n c]) := hid (Box.keep (Box.alloc (Box.new' _ _ _ _ (by simp)) _) hb1)
      have KK1 : Hid (Box w1 (w.heap.size + 1) 52 #[.int .i64 x, .int .i64 y, .int .i64 (-1), .int .i64 1]) := hid (Box.keep (Box.new' _ _ _ _ (by simp)) hb1)
      have HB1 : Hid (Below w.heap.size w w1) := hid (bstep (bal (bal (Below.refl _ _) _) _) hb1)
      clear hb1
      obtain ⟨Pa, Pb, Pc⟩ := KP1.out.three
      have Pz := KP1.out.lt
      obtain ⟨Ka, Kb, Kc, Kd⟩ := KK1.out.four
      have Kz := KK1.out.lt
      go_wp2_with fail
      go_ret
      exact ⟨ret_int (by simp [sgF] <;> omega), (bal (HB1.out) _)⟩
    · go_enter Try.func87, Try.ntmps87
      go_wp2_with fail
      refine (next_any x y (-1) (-1) _ (by omega) (by omega) (by omega) (by omega) (by omega) (by omega) (by omega) (by omega)).mono ?_
      rintro e w1 ⟨rfl, hb1⟩
      have KP1 : Hid (Box w1 (w.heap.size) 30 #[.int .i64 W, .int .i64 H, .slice A n c]) := hid (Box.keep (Box.alloc (Box.new' _ _ _ _ (by simp)) _) hb1)
      have KK1 : Hid (Box w1 (w.heap.size + 1) 52 #[.int .i64 x, .int .i64 y, .int .i64 (-1), .int .i64 (-1)]) := hid (Box.keep (Box.new' _ _ _ _ (by simp)) hb1)
      have HB1 : Hid (Below w.heap.size w w1) := hid (bstep (bal (bal (Below.refl _ _) _) _) hb1)
      clear hb1
      obtain ⟨Pa, Pb, Pc⟩ := KP1.out.three
      have Pz := KP1.out.lt
      obtain ⟨Ka, Kb, Kc, Kd⟩ := KK1.out.four
      have Kz := KK1.out.lt
      go_wp2_with fail
      go_ret
      exact ⟨ret_int (by simp [sgF] <;> omega), (bal (HB1.out) _)⟩
def lfX (x dx : Int) : Int := if dx = 1 then x else x + -1
def lfY (y dx dy : Int) : Int := if dx = 1 then y else y + dy
def lfZ (y dx dy : Int) : Int := if dx = 1 then y + dy else y
theorem ret_q2' {a b c a' b' c' : Int} (h : a = a') (k : b = b') (l : c = c') : Ending.returned (.tuple #[.agg #[.int .i64 a, .int .i64 b], .int .i64 c]) = .returned (.tuple #[.agg #[.int .i64 a', .int .i64 b'], .int .i64 c']) := by rw [h, k, l]
set_option maxHeartbeats 1600000 in
theorem l03Left_any (x y dx dy : Int) (w : World) (x1 : 0 ≤ x) (x2 : x ≤ 100) (y1 : 0 ≤ y) (y2 : y ≤ 100) (h1 : dx = 1 ∨ dx = -1) (b1 : -1 ≤ dy) (b2 : dy ≤ 1) :
    Calls Try.prog 123 #[.agg #[.int .i64 x, .int .i64 y, .int .i64 dx, .int .i64 dy]] w fun e w' => e = .returned (.tuple #[.agg #[.int .i64 (lfX x dx), .int .i64 (lfY y dx dy)], .int .i64 (lfZ y dx dy)]) ∧ Below w.heap.size w w' := by
  rcases h1 with rfl | rfl
  · have HV : Hid (lfX x 1 = x ∧ lfY y 1 dy = y ∧ lfZ y 1 dy = y + dy) := hid (by simp [lfX, lfY, lfZ])
    go_enter Try.func123, Try.ntmps123
    go_wp2_with fail
    refine (l03Next_any x y 1 dy _ (by omega) (by omega) (by omega) (by omega) (by omega) (by omega) (by omega) (by omega)).mono ?_
    rintro e w1 ⟨rfl, hb1⟩
    have KK1 : Hid (Box w1 (w.heap.size) 52 #[.int .i64 x, .int .i64 y, .int .i64 1, .int .i64 dy]) := hid (Box.keep (Box.alloc (Box.new' _ _ _ _ (by simp)) _) hb1)
    have KR1 : Hid (Box w1 (w.heap.size + 1) 32 #[.int .i64 0, .int .i64 0]) := hid (Box.keep (Box.new' _ _ _ _ (by simp)) hb1)
    have HB1 : Hid (Below w.heap.size w w1) := hid (bstep (bal (bal (Below.refl _ _) _) _) hb1)
    clear hb1
    obtain ⟨Ka, Kb, Kc, Kd⟩ := KK1.out.four
    have Kz := KK1.out.lt
    obtain ⟨Ra, Rb⟩ := KR1.out.two
    have Rz := KR1.out.lt
    have Rf := KR1.out.free
    go_wp2_with fail
    have KNy2 : ¬ ((w1.heap.size : Nat) = w.heap.size) := by have h := KK1.out.lt; omega
    have KNx2 : ¬ ((w.heap.size : Nat) = w1.heap.size) := by have h := KK1.out.lt; omega
    have RNy2 : ¬ ((w1.heap.size : Nat) = w.heap.size + 1) := by have h := KR1.out.lt; omega
    have RNx2 : ¬ ((w.heap.size + 1 : Nat) = w1.heap.size) := by have h := KR1.out.lt; omega
    clear Ka Kb Kc Kd Kz Ra Rb Rz Rf
    obtain ⟨w2, hw2⟩ : ∃ zz : World, zz = (w1.alloc (.cells #[.int .i64 (x + 1), .int .i64 (y + dy)] 32)) := ⟨_, rfl⟩
    have hb2 : Below ((w1.alloc (.cells #[.int .i64 (x + 1), .int .i64 (y + dy)] 32))).heap.size ((w1.alloc (.cells #[.int .i64 (x + 1), .int .i64 (y + dy)] 32))) w2 := hw2 ▸ Below.refl _ _
    rw [← hw2]
    have KK2 : Hid (Box w2 (w.heap.size) 52 #[.int .i64 x, .int .i64 y, .int .i64 1, .int .i64 dy]) := hid (Box.keep (Box.alloc (KK1.out) _) hb2)
    have KR2 : Hid (Box w2 (w.heap.size + 1) 32 #[.int .i64 0, .int .i64 0]) := hid (Box.keep (Box.alloc (KR1.out) _) hb2)
    have KN2 : Hid (Box w2 (w1.heap.size) 32 #[.int .i64 (x + 1), .int .i64 (y + dy)]) := hid (Box.keep (Box.new' _ _ _ _ (by simp)) hb2)
    have HB2 : Hid (Below w.heap.size w w2) := hid (bstep (bal (HB1.out) _) hb2)
    clear hb2 hw2
    obtain ⟨Ka, Kb, Kc, Kd⟩ := KK2.out.four
    have Kz := KK2.out.lt
    obtain ⟨Ra, Rb⟩ := KR2.out.two
    have Rz := KR2.out.lt
    have Rf := KR2.out.free
    obtain ⟨Na, Nb⟩ := KN2.out.two
    have Nz := KN2.out.lt
    go_region_held3 (fun zz => zz.cell? ⟨w.heap.size, 0, none⟩ = some (.int .i64 x) ∧ zz.cell? ⟨w.heap.size, 1, none⟩ = some (.int .i64 y) ∧ zz.cell? ⟨w.heap.size, 2, none⟩ = some (.int .i64 1) ∧ zz.cell? ⟨w.heap.size, 3, none⟩ = some (.int .i64 dy) ∧ zz.cell? ⟨w1.heap.size, 0, none⟩ = some (.int .i64 (x + 1)) ∧ zz.cell? ⟨w1.heap.size, 1, none⟩ = some (.int .i64 (y + dy)))
      (first | go_keep | exact ⟨(Box.four ((KK2.out))).1, (Box.four ((KK2.out))).2.1, (Box.four ((KK2.out))).2.2.1, (Box.four ((KK2.out))).2.2.2, (Box.two ((KN2.out))).1, (Box.two ((KN2.out))).2⟩)
      (fail)
    go_wp2_with fail
    have hbE := (HB2.out)
    refine bodyPost_ret (v := .tuple #[.agg #[.int .i64 x, .int .i64 y], .int .i64 (y + dy)]) (by simp [results, Try.results123, go_sem, *]) rfl ⟨ret_q2' HV.out.1.symm HV.out.2.1.symm HV.out.2.2.symm, (by (repeat (with_reducible first | exact Below.refl _ _ | assumption | refine below_drewN ?_ _ | refine Below.drew ?_ | refine Below.alloc ?_ ?_ _ | refine Below.setCell ?_ ?_ _)); all_goals (first | omega | (simp only [size_drewN, World.size_alloc, World.size_setCell, World.size_drew] at *; omega) | (simp; done) | (simp; omega)))⟩
  · have HV : Hid (lfX x (-1) = x + -1 ∧ lfY y (-1) dy = y + dy ∧ lfZ y (-1) dy = y) := hid (by simp [lfX, lfY, lfZ])
    go_enter Try.func123, Try.ntmps123
    go_wp2_with fail
    refine (l03Next_any x y (-1) dy _ (by omega) (by omega) (by omega) (by omega) (by omega) (by omega) (by omega) (by omega)).mono ?_
    rintro e w1 ⟨rfl, hb1⟩
    have KK1 : Hid (Box w1 (w.heap.size) 52 #[.int .i64 x, .int .i64 y, .int .i64 (-1), .int .i64 dy]) := hid (Box.keep (Box.alloc (Box.new' _ _ _ _ (by simp)) _) hb1)
    have KR1 : Hid (Box w1 (w.heap.size + 1) 32 #[.int .i64 0, .int .i64 0]) := hid (Box.keep (Box.new' _ _ _ _ (by simp)) hb1)
    have HB1 : Hid (Below w.heap.size w w1) := hid (bstep (bal (bal (Below.refl _ _) _) _) hb1)
    clear hb1
    obtain ⟨Ka, Kb, Kc, Kd⟩ := KK1.out.four
    have Kz := KK1.out.lt
    obtain ⟨Ra, Rb⟩ := KR1.out.two
    have Rz := KR1.out.lt
    have Rf := KR1.out.free
    go_wp2_with fail
    have KNy2 : ¬ ((w1.heap.size : Nat) = w.heap.size) := by have h := KK1.out.lt; omega
    have KNx2 : ¬ ((w.heap.size : Nat) = w1.heap.size) := by have h := KK1.out.lt; omega
    have RNy2 : ¬ ((w1.heap.size : Nat) = w.heap.size + 1) := by have h := KR1.out.lt; omega
    have RNx2 : ¬ ((w.heap.size + 1 : Nat) = w1.heap.size) := by have h := KR1.out.lt; omega
    clear Ka Kb Kc Kd Kz Ra Rb Rz Rf
    obtain ⟨w2, hw2⟩ : ∃ zz : World, zz = (w1.alloc (.cells #[.int .i64 (x + (-1)), .int .i64 (y + dy)] 32)) := ⟨_, rfl⟩
    have hb2 : Below ((w1.alloc (.cells #[.int .i64 (x + (-1)), .int .i64 (y + dy)] 32))).heap.size ((w1.alloc (.cells #[.int .i64 (x + (-1)), .int .i64 (y + dy)] 32))) w2 := hw2 ▸ Below.refl _ _
    rw [← hw2]
    have KK2 : Hid (Box w2 (w.heap.size) 52 #[.int .i64 x, .int .i64 y, .int .i64 (-1), .int .i64 dy]) := hid (Box.keep (Box.alloc (KK1.out) _) hb2)
    have KR2 : Hid (Box w2 (w.heap.size + 1) 32 #[.int .i64 0, .int .i64 0]) := hid (Box.keep (Box.alloc (KR1.out) _) hb2)
    have KN2 : Hid (Box w2 (w1.heap.size) 32 #[.int .i64 (x + (-1)), .int .i64 (y + dy)]) := hid (Box.keep (Box.new' _ _ _ _ (by simp)) hb2)
    have HB2 : Hid (Below w.heap.size w w2) := hid (bstep (bal (HB1.out) _) hb2)
    clear hb2 hw2
    obtain ⟨Ka, Kb, Kc, Kd⟩ := KK2.out.four
    have Kz := KK2.out.lt
    obtain ⟨Ra, Rb⟩ := KR2.out.two
    have Rz := KR2.out.lt
    have Rf := KR2.out.free
    obtain ⟨Na, Nb⟩ := KN2.out.two
    have Nz := KN2.out.lt
    go_region_held3 (fun zz => zz.cell? ⟨w.heap.size, 0, none⟩ = some (.int .i64 x) ∧ zz.cell? ⟨w.heap.size, 1, none⟩ = some (.int .i64 y) ∧ zz.cell? ⟨w.heap.size, 2, none⟩ = some (.int .i64 (-1)) ∧ zz.cell? ⟨w.heap.size, 3, none⟩ = some (.int .i64 dy) ∧ zz.cell? ⟨w1.heap.size, 0, none⟩ = some (.int .i64 (x + (-1))) ∧ zz.cell? ⟨w1.heap.size, 1, none⟩ = some (.int .i64 (y + dy)))
      (first | go_keep | exact ⟨(Box.four ((KK2.out))).1, (Box.four ((KK2.out))).2.1, (Box.four ((KK2.out))).2.2.1, (Box.four ((KK2.out))).2.2.2, (Box.two ((KN2.out))).1, (Box.two ((KN2.out))).2⟩)
      (fail)
    go_wp2_with fail
    have hbE := (HB2.out)
    refine bodyPost_ret (v := .tuple #[.agg #[.int .i64 (x + -1), .int .i64 (y + dy)], .int .i64 (y)]) (by simp [results, Try.results123, go_sem, *]) rfl ⟨ret_q2' HV.out.1.symm HV.out.2.1.symm HV.out.2.2.symm, (by (repeat (with_reducible first | exact Below.refl _ _ | assumption | refine below_drewN ?_ _ | refine Below.drew ?_ | refine Below.alloc ?_ ?_ _ | refine Below.setCell ?_ ?_ _)); all_goals (first | omega | (simp only [size_drewN, World.size_alloc, World.size_setCell, World.size_drew] at *; omega) | (simp; done) | (simp; omega)))⟩
set_option maxHeartbeats 1600000 in
theorem l03Segment_any (p : Nat) (W H x y dx dy : Int) (s : Value) (w : World) (hp : PanP w p W H s) (hW : side W = true) (hH : side H = true) (h : walkB W H x y dx dy = true) :
    Calls Try.prog 105 #[.pointer (some ⟨p, 0, none⟩), .agg #[.int .i64 x, .int .i64 y, .int .i64 dx, .int .i64 dy]] w fun e w' => e = .returned (.int .i64 (sgF H x y dx dy)) ∧ Below w.heap.size w w' := by
  obtain ⟨h1, h2, h3, h4⟩ := walk_parts h
  obtain ⟨x1, x2, y1, y2⟩ := hasP_bd h3
  obtain ⟨x3, x4, y3, y4⟩ := hasP_bd h4
  obtain ⟨w1, w2⟩ := side_bd hW
  obtain ⟨w3, w4⟩ := side_bd hH
  have HP0 := hid hp
  clear hp
  clear h h3 h4
  have f0 : 0 ≤ lfX x dx ∧ lfX x dx ≤ 16 := by unfold lfX; rcases h1 with rfl | rfl <;> simp <;> omega
  obtain ⟨f1, f2⟩ := f0
  have f3 : 0 ≤ lfY y dx dy ∧ lfY y dx dy ≤ 16 := by unfold lfY; rcases h1 with rfl | rfl <;> simp <;> omega
  obtain ⟨f4, f5⟩ := f3
  obtain ⟨m1, m2⟩ := mul_bd hH f1 f2
  have HW := hid hW
  have HH := hid hH
  clear hW hH
  by_cases hz : lfY y dx dy < lfZ y dx dy
  · have hb : decide (lfY y dx dy < lfZ y dx dy) = true := by simp [hz]
    have EN : Hid (lfX x dx * 2 * H + lfY y dx dy - 1 + 1 = sgF H x y dx dy) := hid (by revert hz; unfold lfX lfY lfZ sgF; rcases h1 with rfl | rfl <;> rcases h2 with rfl | rfl <;> simp <;> omega)
    have B1 : -1 ≤ dy ∧ dy ≤ 1 := by omega
    obtain ⟨b1, b2⟩ := B1
    have H1 := hid h1
    clear h1 h2
    go_enter Try.func105, Try.ntmps105
    go_wp2_with fail
    refine (l03Left_any x y dx dy _ x1 (by omega) y1 (by omega) H1.out b1 b2).mono ?_
    rintro e w1 ⟨rfl, hb1⟩
    have KK1 : Hid (Box w1 (w.heap.size) 52 #[.int .i64 x, .int .i64 y, .int .i64 dx, .int .i64 dy]) := hid (Box.keep (Box.new' _ _ _ _ (by simp)) hb1)
    have KP1 : Hid (Box w1 (p) 30 #[.int .i64 W, .int .i64 H, s]) := hid (Box.keep (Box.alloc (HP0.out) _) hb1)
    have HB1 : Hid (Below w.heap.size w w1) := hid (bstep (bal (Below.refl _ _) _) hb1)
    clear hb1
    obtain ⟨Ka, Kb, Kc, Kd⟩ := KK1.out.four
    have Kz := KK1.out.lt
    obtain ⟨Pa, Pb, Pc⟩ := KP1.out.three
    have Pz := KP1.out.lt
    go_wp2_with fail
    go_quiet (fail)
    go_wp2_with fail
    go_ret
    have hbE := HB1.out
    exact ⟨ret_int (by first | exact EN.out | (have := EN.out; omega)), (by (repeat (with_reducible first | exact Below.refl _ _ | assumption | refine below_drewN ?_ _ | refine Below.drew ?_ | refine Below.alloc ?_ ?_ _ | refine Below.setCell ?_ ?_ _)); all_goals (first | omega | (simp only [size_drewN, World.size_alloc, World.size_setCell, World.size_drew] at *; omega) | (simp; done) | (simp; omega)))⟩
  · have hb : decide (lfY y dx dy < lfZ y dx dy) = false := by simp [hz]
    have EN : Hid (lfX x dx * 2 * H + lfY y dx dy - 1 = sgF H x y dx dy) := hid (by revert hz; unfold lfX lfY lfZ sgF; rcases h1 with rfl | rfl <;> rcases h2 with rfl | rfl <;> simp <;> omega)
    have B1 : -1 ≤ dy ∧ dy ≤ 1 := by omega
    obtain ⟨b1, b2⟩ := B1
    have H1 := hid h1
    clear h1 h2
    go_enter Try.func105, Try.ntmps105
    go_wp2_with fail
    refine (l03Left_any x y dx dy _ x1 (by omega) y1 (by omega) H1.out b1 b2).mono ?_
    rintro e w1 ⟨rfl, hb1⟩
    have KK1 : Hid (Box w1 (w.heap.size) 52 #[.int .i64 x, .int .i64 y, .int .i64 dx, .int .i64 dy]) := hid (Box.keep (Box.new' _ _ _ _ (by simp)) hb1)
    have KP1 : Hid (Box w1 (p) 30 #[.int .i64 W, .int .i64 H, s]) := hid (Box.keep (Box.alloc (HP0.out) _) hb1)
    have HB1 : Hid (Below w.heap.size w w1) := hid (bstep (bal (Below.refl _ _) _) hb1)
    clear hb1
    obtain ⟨Ka, Kb, Kc, Kd⟩ := KK1.out.four
    have Kz := KK1.out.lt
    obtain ⟨Pa, Pb, Pc⟩ := KP1.out.three
    have Pz := KP1.out.lt
    go_wp2_with fail
    go_quiet (fail)
    go_wp2_with fail
    go_ret
    have hbE := HB1.out
    exact ⟨ret_int (by first | exact EN.out | (have := EN.out; omega)), (by (repeat (with_reducible first | exact Below.refl _ _ | assumption | refine below_drewN ?_ _ | refine Below.drew ?_ | refine Below.alloc ?_ ?_ _ | refine Below.setCell ?_ ?_ _)); all_goals (first | omega | (simp only [size_drewN, World.size_alloc, World.size_setCell, World.size_drew] at *; omega) | (simp; done) | (simp; omega)))⟩
/-- What a panel and a walker are: 0 or 1. -/
def codeW (W H : Int) (zs : List Int) (x y dx dy : Int) : Int := if validWB W H zs x y dx dy then 0 else 1
set_option maxHeartbeats 800000 in
theorem l03Code_any (p : Nat) (W H : Int) (A : Option Addr) (c : Nat) (zs : List Int) (x y dx dy : Int) (w : World) (B : Nat) (hB : B ≤ w.heap.size) (hpp : PanP w p W H (.slice A zs.length c)) (hz : Ints w B A zs) (hl : zs.length ≤ maxLen) :
    Calls Try.prog 84 #[.pointer (some ⟨p, 0, none⟩), .agg #[.int .i64 x, .int .i64 y, .int .i64 dx, .int .i64 dy]] w fun e w' => e = .returned (.int .i64 (codeW W H zs x y dx dy)) ∧ Below w.heap.size w w' := by
  have HPP := hid hpp
  clear hpp
  cases hv : validB W H zs
  · have HV : Hid (codeW W H zs x y dx dy = 1) := hid (by simp [codeW, validWB, hv])
    have Hv := hid hv
    clear hv
    go_enter Try.func84, Try.ntmps84
    go_wp2_with fail
    refine (qb (calls_bool (l02Ok_any _ W H A c zs _ B (Box.alloc (HPP.out) _) (hz.below (Below.mono (bal (Below.refl _ _) _) hB)) hl) Hv.out)).mono ?_
    rintro e w1 ⟨rfl, hb1⟩
    have KK1 : Hid (Box w1 (w.heap.size) 52 #[.int .i64 x, .int .i64 y, .int .i64 dx, .int .i64 dy]) := hid (Box.keep (Box.new' _ _ _ _ (by simp)) hb1)
    have KP1 : Hid (Box w1 (p) 30 #[.int .i64 W, .int .i64 H, .slice A zs.length c]) := hid (Box.keep (Box.alloc (HPP.out) _) hb1)
    have HB1 : Hid (Below w.heap.size w w1) := hid (bstep (bal (Below.refl _ _) _) hb1)
    clear hb1
    obtain ⟨Ka, Kb, Kc, Kd⟩ := KK1.out.four
    have Kz := KK1.out.lt
    obtain ⟨Pa, Pb, Pc⟩ := KP1.out.three
    have Pz := KP1.out.lt
    go_wp2_with fail
    go_ret
    exact ⟨ret_int HV.out.symm, (HB1.out)⟩
  · have Hs := hid (valid_sides hv)
    cases hh : walkB W H x y dx dy
    · have HV : Hid (codeW W H zs x y dx dy = 1) := hid (by simp [codeW, validWB, hv, hh])
      have Hv := hid hv
      have Hh := hid hh
      clear hv hh
      go_enter Try.func84, Try.ntmps84
      go_wp2_with fail
      refine (qb (calls_bool (l02Ok_any _ W H A c zs _ B (Box.alloc (HPP.out) _) (hz.below (Below.mono (bal (Below.refl _ _) _) hB)) hl) Hv.out)).mono ?_
      rintro e w1 ⟨rfl, hb1⟩
      have KK1 : Hid (Box w1 (w.heap.size) 52 #[.int .i64 x, .int .i64 y, .int .i64 dx, .int .i64 dy]) := hid (Box.keep (Box.new' _ _ _ _ (by simp)) hb1)
      have KP1 : Hid (Box w1 (p) 30 #[.int .i64 W, .int .i64 H, .slice A zs.length c]) := hid (Box.keep (Box.alloc (HPP.out) _) hb1)
      have HB1 : Hid (Below w.heap.size w w1) := hid (bstep (bal (Below.refl _ _) _) hb1)
      clear hb1
      obtain ⟨Ka, Kb, Kc, Kd⟩ := KK1.out.four
      have Kz := KK1.out.lt
      obtain ⟨Pa, Pb, Pc⟩ := KP1.out.three
      have Pz := KP1.out.lt
      go_wp2_with fail
      refine (calls_bool (l03Ok_any _ W H x y dx dy _ _ (KP1.out) Hs.out.1 Hs.out.2) Hh.out).mono ?_
      rintro e w2 ⟨rfl, hb2⟩
      clear Ka Kb Kc Kd Kz Pa Pb Pc Pz
      have KK2 : Hid (Box w2 (w.heap.size) 52 #[.int .i64 x, .int .i64 y, .int .i64 dx, .int .i64 dy]) := hid (Box.keep (KK1.out) hb2)
      have KP2 : Hid (Box w2 (p) 30 #[.int .i64 W, .int .i64 H, .slice A zs.length c]) := hid (Box.keep (KP1.out) hb2)
      have HB2 : Hid (Below w.heap.size w w2) := hid (bstep (HB1.out) hb2)
      clear hb2
      obtain ⟨Ka, Kb, Kc, Kd⟩ := KK2.out.four
      have Kz := KK2.out.lt
      obtain ⟨Pa, Pb, Pc⟩ := KP2.out.three
      have Pz := KP2.out.lt
      go_wp2_with fail
      go_ret
      exact ⟨ret_int HV.out.symm, (HB2.out)⟩
    · have HV : Hid (codeW W H zs x y dx dy = 0) := hid (by simp [codeW, validWB, hv, hh])
      have Hv := hid hv
      have Hh := hid hh
      clear hv hh
      go_enter Try.func84, Try.ntmps84
      go_wp2_with fail
      refine (qb (calls_bool (l02Ok_any _ W H A c zs _ B (Box.alloc (HPP.out) _) (hz.below (Below.mono (bal (Below.refl _ _) _) hB)) hl) Hv.out)).mono ?_
      rintro e w1 ⟨rfl, hb1⟩
      have KK1 : Hid (Box w1 (w.heap.size) 52 #[.int .i64 x, .int .i64 y, .int .i64 dx, .int .i64 dy]) := hid (Box.keep (Box.new' _ _ _ _ (by simp)) hb1)
      have KP1 : Hid (Box w1 (p) 30 #[.int .i64 W, .int .i64 H, .slice A zs.length c]) := hid (Box.keep (Box.alloc (HPP.out) _) hb1)
      have HB1 : Hid (Below w.heap.size w w1) := hid (bstep (bal (Below.refl _ _) _) hb1)
      clear hb1
      obtain ⟨Ka, Kb, Kc, Kd⟩ := KK1.out.four
      have Kz := KK1.out.lt
      obtain ⟨Pa, Pb, Pc⟩ := KP1.out.three
      have Pz := KP1.out.lt
      go_wp2_with fail
      refine (calls_bool (l03Ok_any _ W H x y dx dy _ _ (KP1.out) Hs.out.1 Hs.out.2) Hh.out).mono ?_
      rintro e w2 ⟨rfl, hb2⟩
      clear Ka Kb Kc Kd Kz Pa Pb Pc Pz
      have KK2 : Hid (Box w2 (w.heap.size) 52 #[.int .i64 x, .int .i64 y, .int .i64 dx, .int .i64 dy]) := hid (Box.keep (KK1.out) hb2)
      have KP2 : Hid (Box w2 (p) 30 #[.int .i64 W, .int .i64 H, .slice A zs.length c]) := hid (Box.keep (KP1.out) hb2)
      have HB2 : Hid (Below w.heap.size w w2) := hid (bstep (HB1.out) hb2)
      clear hb2
      obtain ⟨Ka, Kb, Kc, Kd⟩ := KK2.out.four
      have Kz := KK2.out.lt
      obtain ⟨Pa, Pb, Pc⟩ := KP2.out.three
      have Pz := KP2.out.lt
      go_wp2_with fail
      go_ret
      exact ⟨ret_int HV.out.symm, (HB2.out)⟩
end Go.Proofs.Ytbgigompkmnapaa
