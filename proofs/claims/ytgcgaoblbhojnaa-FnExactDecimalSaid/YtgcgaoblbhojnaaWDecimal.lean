/- The walk of FnExactDecimal. -/
import Derived.Test.YtgcgaoblbhojnaaDe
namespace Go.Proofs.Ytgcgaoblbhojnaa
set_option linter.unusedSimpArgs false
set_option linter.unusedVariables false
open Go.ChangeShapes Go.WideShapes Go.ChangeAt Go.RowKit
theorem specDecimal_any (n : Int) (w : World) (hn : (Lit.int .i64 n).wf = true) : Calls Try.prog 14 #[.int .i64 n] w fun e w' => e = .returned (.string (decS n)) ∧ Below w.heap.size w w' := by
  go_enter Try.func14, Try.ntmps14
  go_wp2_with fail
  refine (l01Dec_any n _ hn).mono ?_
  rintro e w1 ⟨rfl, hb1⟩
  have HB := hid hb1
  clear hb1
  go_wp2_with fail
  go_ret
  exact ⟨rfl, HB.out⟩
theorem fnExactDecimal_walk (w : World) (a0 : Int) (wa0 : (Lit.int .i64 a0).wf = true) :
    Calls Try.prog 3 #[.int .i64 a0] w fun e w' => e = .returned (.bool true) ∧ Below w.heap.size w w' := by
  have hb : (decS a0 != decS a0) = false := bne_str _
  go_enter Try.func3, Try.ntmps3
  go_wp2_with fail
  refine (specDecimal_any a0 _ wa0).mono ?_
  rintro e w1 ⟨rfl, hb1⟩
  have HB1 := hid hb1
  clear hb1
  go_wp2_with fail
  refine (implDecimal_any a0 _ wa0).mono ?_
  rintro e w2 ⟨rfl, hb2⟩
  have HB2 := hid (bstep HB1.out hb2)
  clear hb2
  go_wp2_with fail
  go_ret
  exact ⟨rfl, HB2.out⟩
end Go.Proofs.Ytgcgaoblbhojnaa
