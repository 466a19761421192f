/- The walk of FnExactInnerPoints. -/
import Derived.Test.YthcoimlbjhdjcaaVp
namespace Go.Proofs.Ythcoimlbjhdjcaa
open Go.ChangeShapes Go.WideShapes Go.ChangeAt Go.RowKit
theorem implInnerPoints_no (x y : Int) (w : World) (h : (side x && side y) = false) : Calls Try.prog 16 #[.int .i64 x, .int .i64 y] w fun e w' => e = .returned (.tuple #[.int .i64 0, .int .i64 2]) ∧ w = w' := by
  have H := hid h
  clear h
  go_enter Try.func16, Try.ntmps16
  go_wp2_with (go_at_call 56; refine (calls_bool (validSize_any _ _ _) H.out).mono ?_; rintro e w' ⟨rfl, rfl⟩)
  go_ret2
  exact ⟨rfl, rfl⟩
theorem implInnerPoints_yes (x y : Int) (w : World) (hx : side x = true) (hy : side y = true) : Calls Try.prog 16 #[.int .i64 x, .int .i64 y] w fun e w' => e = .returned (.tuple #[.int .i64 (inner x y), .int .i64 0]) ∧ w = w' := by
  have H : Hid ((side x && side y) = true) := hid (by simp [hx, hy])
  have HX := hid hx
  have HY := hid hy
  clear hx hy
  go_enter Try.func16, Try.ntmps16
  go_wp2_with (first | (go_at_call 56; refine (calls_bool (validSize_any _ _ _) H.out).mono ?_; rintro e w' ⟨rfl, rfl⟩) | (go_at_call 57; refine (innerPoints_any _ _ _ HX.out HY.out).mono ?_; rintro e w' ⟨rfl, rfl⟩))
  go_ret2
  exact ⟨rfl, rfl⟩
theorem specInnerPoints_no (x y : Int) (w : World) (h : (side x && side y) = false) : Calls Try.prog 15 #[.int .i64 x, .int .i64 y] w fun e w' => e = .returned (.tuple #[.int .i64 0, .int .i64 2]) ∧ w = w' := by
  cases hx : side x
  · have HX := hid hx
    clear h hx
    go_enter Try.func15, Try.ntmps15
    go_wp2_with (go_at_call 54; refine (calls_bool (l02Side_any _ _) HX.out).mono ?_; rintro e w' ⟨rfl, rfl⟩)
    go_ret2
    exact ⟨rfl, rfl⟩
  · have HX := hid hx
    have HY : Hid (side y = false) := hid (by simpa [hx] using h)
    clear h hx
    go_enter Try.func15, Try.ntmps15
    go_wp2_with fail
    refine (calls_bool (l02Side_any _ _) HX.out).mono ?_
    rintro e w' ⟨rfl, rfl⟩
    go_wp2_with fail
    refine (calls_bool (l02Side_any _ _) HY.out).mono ?_
    rintro e w' ⟨rfl, rfl⟩
    go_wp2_with fail
    go_ret2
    exact ⟨rfl, rfl⟩
theorem specInnerPoints_yes (x y : Int) (w : World) (hx : side x = true) (hy : side y = true) : Calls Try.prog 15 #[.int .i64 x, .int .i64 y] w fun e w' => e = .returned (.tuple #[.int .i64 (inner x y), .int .i64 0]) ∧ w = w' := by
  have HX := hid hx
  have HY := hid hy
  clear hx hy
  go_enter Try.func15, Try.ntmps15
  go_wp2_with (first | (go_at_call_of 54 x; refine (calls_bool (l02Side_any _ _) HX.out).mono ?_; rintro e w' ⟨rfl, rfl⟩) | (go_at_call_of 54 y; refine (calls_bool (l02Side_any _ _) HY.out).mono ?_; rintro e w' ⟨rfl, rfl⟩) | (go_at_call 55; refine (l02Inner_any _ _ _ HX.out HY.out).mono ?_; rintro e w' ⟨rfl, rfl⟩))
  go_ret2
  exact ⟨rfl, rfl⟩
theorem fnExactInnerPoints_walk (w : World) (x : Int) (_ : (Lit.int .i64 x).wf = true) (y : Int) (_ : (Lit.int .i64 y).wf = true) : Calls Try.prog 4 #[.int .i64 x, .int .i64 y] w fun e w' => e = .returned (.bool true) ∧ Below w.heap.size w w' := by
  cases h : (side x && side y)
  · have H := hid h
    clear h
    go_enter Try.func4, Try.ntmps4
    go_wp2_with (first | (go_at_call 15; refine (specInnerPoints_no _ _ _ H.out).mono ?_; rintro e w' ⟨rfl, rfl⟩) | (go_at_call 16; refine (implInnerPoints_no _ _ _ H.out).mono ?_; rintro e w' ⟨rfl, rfl⟩))
    go_ret
    exact ⟨rfl, Below.refl _ _⟩
  · obtain ⟨hx, hy⟩ : side x = true ∧ side y = true := by simpa using h
    have HX := hid hx
    have HY := hid hy
    clear h hx hy
    go_enter Try.func4, Try.ntmps4
    go_wp2_with (first | (go_at_call 15; refine (specInnerPoints_yes _ _ _ HX.out HY.out).mono ?_; rintro e w' ⟨rfl, rfl⟩) | (go_at_call 16; refine (implInnerPoints_yes _ _ _ HX.out HY.out).mono ?_; rintro e w' ⟨rfl, rfl⟩))
    go_ret
    exact ⟨rfl, Below.refl _ _⟩
end Go.Proofs.Ythcoimlbjhdjcaa
