/- The laws' copies and comparisons of points and walkers. -/
import Derived.Test.YtffiigfkmdgaaaaPan
namespace Go.Proofs.Ytffiigfkmdgaaaa
set_option linter.unusedSimpArgs false
set_option linter.unusedVariables false
open Go.ChangeShapes Go.WideShapes Go.ChangeAt Go.RowKit
theorem toPoint_any (x y : Int) (w : World) : Calls Try.prog 18 #[.agg #[.int .i64 x, .int .i64 y]] w fun e w' => e = .returned (.agg #[.int .i64 x, .int .i64 y]) ∧ Below w.heap.size w w' := by
  go_enter Try.func18, Try.ntmps18
  go_wp2
  refine bodyPost_ret (v := .agg #[.int .i64 x, .int .i64 y]) (by simp [results, Try.results18, go_sem]) rfl ⟨rfl, (by (repeat (with_reducible first | exact Below.refl _ _ | assumption | refine below_drewN ?_ _ | refine Below.drew ?_ | refine Below.alloc ?_ ?_ _ | refine Below.setCell ?_ ?_ _)); all_goals (first | omega | (simp only [size_drewN, World.size_alloc, World.size_setCell, World.size_drew] at *; omega) | (simp; done) | (simp; omega)))⟩
theorem eqPoint_any (x y : Int) (w : World) : Calls Try.prog 82 #[.agg #[.int .i64 x, .int .i64 y], .agg #[.int .i64 x, .int .i64 y]] w fun e w' => e = .returned (.bool true) ∧ Below w.heap.size w w' := by
  go_enter Try.func82, Try.ntmps82
  go_wp2
  go_ret
  exact ⟨rfl, (by (repeat (with_reducible first | exact Below.refl _ _ | assumption | refine below_drewN ?_ _ | refine Below.drew ?_ | refine Below.alloc ?_ ?_ _ | refine Below.setCell ?_ ?_ _)); all_goals (first | omega | (simp only [size_drewN, World.size_alloc, World.size_setCell, World.size_drew] at *; omega) | (simp; done) | (simp; omega)))⟩
theorem infoW : (Try.prog.info? 44).map (·.size) = some 4 := by kernel_rfl
theorem Box.self {w : World} {b : Nat} {T : TypeId} {cs : Array Value} (h : Box w b T cs) (i : Nat) (v : Value) : Box (w.setCell ⟨b, i, none⟩ v) b T (cs.setIfInBounds i v) := by
  unfold Box at *
  simp [World.setCell, Array.getElem?_modify, h]
set_option maxHeartbeats 800000 in
theorem toWalker_any (x y dx dy : Int) (w : World) : Calls Try.prog 31 #[.agg #[.int .i64 x, .int .i64 y, .int .i64 dx, .int .i64 dy]] w fun e w' => e = .returned (.agg #[.int .i64 x, .int .i64 y, .int .i64 dx, .int .i64 dy]) ∧ Below w.heap.size w w' := by
  go_enter Try.func31, Try.ntmps31
  go_wp2_with fail
  refine (toPoint_any x y _).mono ?_
  rintro e w1 ⟨rfl, hb1⟩
  have P := Box.keep (Box.alloc (Box.alloc (Box.new w _ _) _) _) hb1
  have R := Box.keep (Box.alloc (Box.new' _ _ _ (w.heap.size + 1) (by simp)) _) hb1
  have Q := Box.keep (Box.new' _ _ _ (w.heap.size + 1 + 1) (by simp)) hb1
  obtain ⟨p0, p1, p2, p3⟩ := P.four
  obtain ⟨r0, r1, r2, r3⟩ := R.four
  obtain ⟨q0, q1, q2, q3⟩ := Q.four
  have qf := Q.free
  have rf := R.free
  have hz := Q.lt
  have HB := hid (bstep (bal (bal (bal (Below.refl _ _) _) _) _) hb1)
  have RR := hid R
  clear hb1 P Q R
  go_wp2_with fail
  have hb := HB.out
  refine bodyPost_ret (results_cell_row rfl _ _ (w.heap.size + 1) 44 #[.int .i64 x, .int .i64 y, .int .i64 dx, .int .i64 dy] (0, 0) _ rfl ?_ Try.underlying44 rfl infoW) rfl ⟨rfl, (by (repeat (with_reducible first | exact Below.refl _ _ | assumption | refine below_drewN ?_ _ | refine Below.drew ?_ | refine Below.alloc ?_ ?_ _ | refine Below.setCell ?_ ?_ _)); all_goals (first | omega | (simp only [size_drewN, World.size_alloc, World.size_setCell, World.size_drew] at *; omega) | (simp; done) | (simp; omega)))⟩
  have R1 := ((((RR.out.set (a := ⟨w.heap.size + 1 + 1, 0, none⟩) (by simp) (.int .i64 x)).set (a := ⟨w.heap.size + 1 + 1, 1, none⟩) (by simp) (.int .i64 y)).set (a := ⟨w.heap.size + 1 + 1, 2, none⟩) (by simp) (.int .i64 dx)).set (a := ⟨w.heap.size + 1 + 1, 3, none⟩) (by simp) (.int .i64 dy))
  exact (((R1.self 0 (.int .i64 x)).self 1 (.int .i64 y)).self 2 (.int .i64 dx)).self 3 (.int .i64 dy)
set_option maxHeartbeats 400000 in
theorem eqWalker_any (x y dx dy : Int) (w : World) : Calls Try.prog 33 #[.agg #[.int .i64 x, .int .i64 y, .int .i64 dx, .int .i64 dy], .agg #[.int .i64 x, .int .i64 y, .int .i64 dx, .int .i64 dy]] w fun e w' => e = .returned (.bool true) ∧ Below w.heap.size w w' := by
  go_enter Try.func33, Try.ntmps33
  go_wp2_with fail
  refine (eqPoint_any x y _).mono ?_
  rintro e w1 ⟨rfl, hb1⟩
  obtain ⟨p0, p1, p2, p3⟩ := (Box.keep (Box.alloc (Box.new w _ _) _) hb1).four
  obtain ⟨q0, q1, q2, q3⟩ := (Box.keep (Box.new' _ _ _ (w.heap.size + 1) (by simp)) hb1).four
  have HB := hid (bstep (bal (bal (Below.refl _ _) _) _) hb1)
  clear hb1
  go_wp2_with fail
  go_ret
  exact ⟨rfl, HB.out⟩
end Go.Proofs.Ytffiigfkmdgaaaa
