/- Numbers and codes of points. -/
import Derived.Test.YtgcgaoblbhojnaaPx
namespace Go.Proofs.Ytgcgaoblbhojnaa
set_option linter.unusedSimpArgs false
set_option linter.unusedVariables false
open Go.ChangeShapes Go.WideShapes Go.ChangeAt Go.RowKit
theorem num_parts {W x y : Int} (hW : side W = true) (x1 : 1 ≤ x) (x2 : x ≤ 2 * W - 1) (y1 : 1 ≤ y) (y2 : y ≤ 15) :
    0 ≤ y / 2 * (W - 1) ∧ y / 2 * (W - 1) ≤ 60 ∧ 0 ≤ (y - 1) / 2 * W ∧ (y - 1) / 2 * W ≤ 60 := by
  rcases side_cases hW with rfl | rfl | rfl | rfl | rfl | rfl | rfl | rfl <;> omega

set_option maxHeartbeats 800000 in
theorem number_any (W H x y : Int) (A : Option Addr) (n c : Nat) (w : World) (hW : side W = true) (hH : side H = true) (x1 : 1 ≤ x) (x2 : x ≤ 2 * W - 1) (y1 : 1 ≤ y) (y2 : y ≤ 2 * H - 1) (hp : (x + y) % 2 = 1) :
    Calls Try.prog 109 #[.agg #[.int .i64 W, .int .i64 H, .slice A n c], .agg #[.int .i64 x, .int .i64 y]] w fun e w' => e = .returned (.int .i64 (numF W x y)) ∧ Below w.heap.size w w' := by
  obtain ⟨w1, w2⟩ := side_bd hW
  obtain ⟨w3, w4⟩ := side_bd hH
  obtain ⟨n1, n2, n3, n4⟩ := num_parts hW x1 x2 y1 (by omega)
  clear hW hH
  by_cases ho : y % 2 = 1
  · have hb : (y % 2 == 1) = true := by simp [ho]
    have EN : Hid (y / 2 * (W - 1) + (y - 1) / 2 * W + x / 2 - 1 = numF W x y) := hid (by unfold numF rowF; omega)
    clear ho hp
    go_enter Try.func109, Try.ntmps109
    go_wp2_with fail
    go_ret
    exact ⟨ret_int EN.out, (by (repeat (with_reducible first | exact Below.refl _ _ | assumption | refine below_drewN ?_ _ | refine Below.drew ?_ | refine Below.alloc ?_ ?_ _ | refine Below.setCell ?_ ?_ _)); all_goals (first | omega | (simp only [size_drewN, World.size_alloc, World.size_setCell, World.size_drew] at *; omega) | (simp; done) | (simp; omega)))⟩
  · have hb : (y % 2 == 1) = false := by simp [ho]
    have EN : Hid (y / 2 * (W - 1) + (y - 1) / 2 * W + x / 2 = numF W x y) := hid (by unfold numF rowF; omega)
    clear ho hp
    go_enter Try.func109, Try.ntmps109
    go_wp2_with fail
    go_ret
    exact ⟨ret_int EN.out, (by (repeat (with_reducible first | exact Below.refl _ _ | assumption | refine below_drewN ?_ _ | refine Below.drew ?_ | refine Below.alloc ?_ ?_ _ | refine Below.setCell ?_ ?_ _)); all_goals (first | omega | (simp only [size_drewN, World.size_alloc, World.size_setCell, World.size_drew] at *; omega) | (simp; done) | (simp; omega)))⟩
set_option maxHeartbeats 800000 in
theorem l02Number_any (p : Nat) (W H x y : Int) (s : Value) (w : World) (hpp : PanP w p W H s) (hW : side W = true) (hH : side H = true) (x1 : 1 ≤ x) (x2 : x ≤ 2 * W - 1) (y1 : 1 ≤ y) (y2 : y ≤ 2 * H - 1) (hp : (x + y) % 2 = 1) :
    Calls Try.prog 108 #[.pointer (some ⟨p, 0, none⟩), .agg #[.int .i64 x, .int .i64 y]] w fun e w' => e = .returned (.int .i64 (numF W x y)) ∧ Below w.heap.size w w' := by
  obtain ⟨w1, w2⟩ := side_bd hW
  obtain ⟨w3, w4⟩ := side_bd hH
  obtain ⟨n1, n2⟩ := rowF_bd hW y1 (by omega : y ≤ 16)
  have pz := PanP.lt hpp
  have HP := hid hpp
  have HW := hid hW
  clear hW hH hpp hp
  have s1 : IntKind.i64.wrap (x - 1) = x - 1 := IntWalk.i64_in _ (by omega)
  have s2 : 0 ≤ x - 1 := by omega
  have s3 : IntKind.i64.wrap (rowF W y + (x - 1) / 2) = rowF W y + (x - 1) / 2 := IntWalk.i64_in _ (by omega)
  go_enter Try.func108, Try.ntmps108
  go_wp2_with fail
  go_quiet ((go_at_call 111; exact quiet_left (l02Row_any _ W H y _ _ ((HP.out.alloc _).drewN _) HW.out y1 (by omega))))
  clear s1 s2 s3
  go_wp2_with fail
  go_ret
  exact ⟨rfl, (by (repeat (with_reducible first | exact Below.refl _ _ | assumption | refine below_drewN ?_ _ | refine Below.drew ?_ | refine Below.alloc ?_ ?_ _ | refine Below.setCell ?_ ?_ _)); all_goals (first | omega | (simp only [size_drewN, World.size_alloc, World.size_setCell, World.size_drew] at *; omega) | (simp; done) | (simp; omega)))⟩
/-- What a panel and a point are: 1, 2, 6 or 0. -/
def codeP (W H : Int) (zs : List Int) (x y : Int) : Int := if validB W H zs then (if hasP W H x y then (if edgeP W H x y then 6 else 0) else 2) else 1

end Go.Proofs.Ytgcgaoblbhojnaa
