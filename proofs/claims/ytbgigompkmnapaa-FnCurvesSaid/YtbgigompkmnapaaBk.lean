/- Walkers that go back. -/
import Derived.Test.YtbgigompkmnapaaWa
import Derived.Test.YtbgigompkmnapaaQm
import Derived.Deep.RegionHeld3
namespace Go.Proofs.Ytbgigompkmnapaa
set_option linter.unusedSimpArgs false
set_option linter.unusedVariables false
open Go.ChangeShapes Go.WideShapes Go.ChangeAt Go.RowKit
set_option maxHeartbeats 800000 in
theorem back_any (x y dx dy : Int) (w : World) (x1 : -1 ≤ x) (x2 : x ≤ 100) (y1 : -1 ≤ y) (y2 : y ≤ 100) (a1 : -1 ≤ dx) (a2 : dx ≤ 1) (b1 : -1 ≤ dy) (b2 : dy ≤ 1) :
    Calls Try.prog 80 #[.agg #[.int .i64 x, .int .i64 y, .int .i64 dx, .int .i64 dy]] w fun e w' => e = .returned (.agg #[.int .i64 (x + dx), .int .i64 (y + dy), .int .i64 (-dx), .int .i64 (-dy)]) ∧ Below w.heap.size w w' := by
  have t1 : IntKind.i64.wrap (-dx) = -dx := IntWalk.i64_in _ (by omega)
  have t2 : IntKind.i64.wrap (-dy) = -dy := IntWalk.i64_in _ (by omega)
  go_enter Try.func80, Try.ntmps80
  go_wp2_with fail
  obtain ⟨w1, hw1⟩ : ∃ zz : World, zz = ((w.alloc (.cells #[.int .i64 x, .int .i64 y, .int .i64 dx, .int .i64 dy] 52)).alloc (.cells #[.int .i64 0, .int .i64 0, .int .i64 0, .int .i64 0] 52)) := ⟨_, rfl⟩
  have hb1 : Below (((w.alloc (.cells #[.int .i64 x, .int .i64 y, .int .i64 dx, .int .i64 dy] 52)).alloc (.cells #[.int .i64 0, .int .i64 0, .int .i64 0, .int .i64 0] 52))).heap.size (((w.alloc (.cells #[.int .i64 x, .int .i64 y, .int .i64 dx, .int .i64 dy] 52)).alloc (.cells #[.int .i64 0, .int .i64 0, .int .i64 0, .int .i64 0] 52))) w1 := hw1 ▸ Below.refl _ _
  rw [← hw1]
  have KK1 : Hid (Box w1 (w.heap.size) 52 #[.int .i64 x, .int .i64 y, .int .i64 dx, .int .i64 dy]) := hid (Box.keep (Box.alloc (Box.new' _ _ _ _ (by simp)) _) hb1)
  have KR1 : Hid (Box w1 (w.heap.size + 1) 52 #[.int .i64 0, .int .i64 0, .int .i64 0, .int .i64 0]) := hid (Box.keep (Box.new' _ _ _ _ (by simp)) hb1)
  have HB1 : Hid (Below w.heap.size w w1) := hid (bstep (bal (bal (Below.refl _ _) _) _) hb1)
  clear hb1 hw1
  obtain ⟨Ka, Kb, Kc, Kd⟩ := KK1.out.four
  have Kz := KK1.out.lt
  obtain ⟨Ra, Rb, Rc, Rd⟩ := KR1.out.four
  have Rz := KR1.out.lt
  have Rf := KR1.out.free
  go_region_held3 (fun zz => zz.cell? ⟨w.heap.size, 0, none⟩ = some (.int .i64 x) ∧ zz.cell? ⟨w.heap.size, 1, none⟩ = some (.int .i64 y) ∧ zz.cell? ⟨w.heap.size, 2, none⟩ = some (.int .i64 dx) ∧ zz.cell? ⟨w.heap.size, 3, none⟩ = some (.int .i64 dy))
    (first | (with_reducible exact ⟨(Box.four KK2.out).1, (Box.four KK2.out).2.1, (Box.four KK2.out).2.2.1, (Box.four KK2.out).2.2.2⟩) | go_keep | exact ⟨(Box.four ((KK1.out))).1, (Box.four ((KK1.out))).2.1, (Box.four ((KK1.out))).2.2.1, (Box.four ((KK1.out))).2.2.2⟩)
    (first | (go_at_call 92; refine (next_any x y dx dy _ x1 x2 y1 y2 a1 a2 b1 b2).mono ?_; rintro e w2 ⟨rfl, hb2⟩; have hc2 := Below.trans (below_refl_drew _ _) hb2; have KK2 : Hid (Box w2 (w.heap.size) 52 #[.int .i64 x, .int .i64 y, .int .i64 dx, .int .i64 dy]) := hid (Box.keep (KK1.out) hc2); have KR2 : Hid (Box w2 (w.heap.size + 1) 52 #[.int .i64 0, .int .i64 0, .int .i64 0, .int .i64 0]) := hid (Box.keep (KR1.out) hc2); have HB2 : Hid (Below w.heap.size w w2) := hid (bstep (HB1.out) hc2); clear hb2 hc2; obtain ⟨Ra, Rb, Rc, Rd⟩ := KR2.out.four; have Rf := KR2.out.free))
  go_wp2_with fail
  have hbE := HB2.out
  refine bodyPost_ret (v := .agg #[.int .i64 (x + dx), .int .i64 (y + dy), .int .i64 (-dx), .int .i64 (-dy)]) (by simp [results, Try.results80, go_sem, *]) rfl ⟨rfl, (by (repeat (with_reducible first | exact Below.refl _ _ | assumption | refine below_drewN ?_ _ | refine Below.drew ?_ | refine Below.alloc ?_ ?_ _ | refine Below.setCell ?_ ?_ _)); all_goals (first | omega | (simp only [size_drewN, World.size_alloc, World.size_setCell, World.size_drew] at *; omega) | (simp; done) | (simp; omega)))⟩
set_option maxHeartbeats 800000 in
theorem l03Back_any (x y dx dy : Int) (w : World) (x1 : -1 ≤ x) (x2 : x ≤ 100) (y1 : -1 ≤ y) (y2 : y ≤ 100) (a1 : -1 ≤ dx) (a2 : dx ≤ 1) (b1 : -1 ≤ dy) (b2 : dy ≤ 1) :
    Calls Try.prog 85 #[.agg #[.int .i64 x, .int .i64 y, .int .i64 dx, .int .i64 dy]] w fun e w' => e = .returned (.agg #[.int .i64 (x + dx), .int .i64 (y + dy), .int .i64 (-dx), .int .i64 (-dy)]) ∧ Below w.heap.size w w' := by
  have t1 : IntKind.i64.wrap (-dx) = -dx := IntWalk.i64_in _ (by omega)
  have t2 : IntKind.i64.wrap (-dy) = -dy := IntWalk.i64_in _ (by omega)
  go_enter Try.func85, Try.ntmps85
  go_wp2_with fail
  obtain ⟨w1, hw1⟩ : ∃ zz : World, zz = ((w.alloc (.cells #[.int .i64 x, .int .i64 y, .int .i64 dx, .int .i64 dy] 52)).alloc (.cells #[.int .i64 0, .int .i64 0, .int .i64 0, .int .i64 0] 52)) := ⟨_, rfl⟩
  have hb1 : Below (((w.alloc (.cells #[.int .i64 x, .int .i64 y, .int .i64 dx, .int .i64 dy] 52)).alloc (.cells #[.int .i64 0, .int .i64 0, .int .i64 0, .int .i64 0] 52))).heap.size (((w.alloc (.cells #[.int .i64 x, .int .i64 y, .int .i64 dx, .int .i64 dy] 52)).alloc (.cells #[.int .i64 0, .int .i64 0, .int .i64 0, .int .i64 0] 52))) w1 := hw1 ▸ Below.refl _ _
  rw [← hw1]
  have KK1 : Hid (Box w1 (w.heap.size) 52 #[.int .i64 x, .int .i64 y, .int .i64 dx, .int .i64 dy]) := hid (Box.keep (Box.alloc (Box.new' _ _ _ _ (by simp)) _) hb1)
  have KR1 : Hid (Box w1 (w.heap.size + 1) 52 #[.int .i64 0, .int .i64 0, .int .i64 0, .int .i64 0]) := hid (Box.keep (Box.new' _ _ _ _ (by simp)) hb1)
  have HB1 : Hid (Below w.heap.size w w1) := hid (bstep (bal (bal (Below.refl _ _) _) _) hb1)
  clear hb1 hw1
  obtain ⟨Ka, Kb, Kc, Kd⟩ := KK1.out.four
  have Kz := KK1.out.lt
  obtain ⟨Ra, Rb, Rc, Rd⟩ := KR1.out.four
  have Rz := KR1.out.lt
  have Rf := KR1.out.free
  go_region_held3 (fun zz => zz.cell? ⟨w.heap.size, 0, none⟩ = some (.int .i64 x) ∧ zz.cell? ⟨w.heap.size, 1, none⟩ = some (.int .i64 y) ∧ zz.cell? ⟨w.heap.size, 2, none⟩ = some (.int .i64 dx) ∧ zz.cell? ⟨w.heap.size, 3, none⟩ = some (.int .i64 dy))
    (first | (with_reducible exact ⟨(Box.four KK2.out).1, (Box.four KK2.out).2.1, (Box.four KK2.out).2.2.1, (Box.four KK2.out).2.2.2⟩) | go_keep | exact ⟨(Box.four ((KK1.out))).1, (Box.four ((KK1.out))).2.1, (Box.four ((KK1.out))).2.2.1, (Box.four ((KK1.out))).2.2.2⟩)
    (first | (go_at_call 118; refine (l03Next_any x y dx dy _ x1 x2 y1 y2 a1 a2 b1 b2).mono ?_; rintro e w2 ⟨rfl, hb2⟩; have hc2 := Below.trans (below_refl_drew _ _) hb2; have KK2 : Hid (Box w2 (w.heap.size) 52 #[.int .i64 x, .int .i64 y, .int .i64 dx, .int .i64 dy]) := hid (Box.keep (KK1.out) hc2); have KR2 : Hid (Box w2 (w.heap.size + 1) 52 #[.int .i64 0, .int .i64 0, .int .i64 0, .int .i64 0]) := hid (Box.keep (KR1.out) hc2); have HB2 : Hid (Below w.heap.size w w2) := hid (bstep (HB1.out) hc2); clear hb2 hc2; obtain ⟨Ra, Rb, Rc, Rd⟩ := KR2.out.four; have Rf := KR2.out.free))
  go_wp2_with fail
  have hbE := HB2.out
  refine bodyPost_ret (v := .agg #[.int .i64 (x + dx), .int .i64 (y + dy), .int .i64 (-dx), .int .i64 (-dy)]) (by simp [results, Try.results85, go_sem, *]) rfl ⟨rfl, (by (repeat (with_reducible first | exact Below.refl _ _ | assumption | refine below_drewN ?_ _ | refine Below.drew ?_ | refine Below.alloc ?_ ?_ _ | refine Below.setCell ?_ ?_ _)); all_goals (first | omega | (simp only [size_drewN, World.size_alloc, World.size_setCell, World.size_drew] at *; omega) | (simp; done) | (simp; omega)))⟩
end Go.Proofs.Ytbgigompkmnapaa
