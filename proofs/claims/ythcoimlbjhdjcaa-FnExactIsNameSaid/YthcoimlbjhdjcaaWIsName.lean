/- The walk of FnExactIsName. -/
import Derived.Test.YthcoimlbjhdjcaaNm
namespace Go.Proofs.Ythcoimlbjhdjcaa
set_option linter.unusedSimpArgs false
set_option linter.unusedVariables false
open Go.ChangeShapes Go.WideShapes Go.ChangeAt Go.RowKit
set_option maxHeartbeats 1000000 in
theorem fnExactIsName_walk (w : World) (s : ByteArray) (hs : s.size ≤ 9223372036854775807) :
    Calls Try.prog 6 #[.string s] w fun e w' => e = .returned (.bool true) ∧ Below w.heap.size w w' := by
  by_cases hb : (1048576 : Int) < s.size
  · go_enter Try.func6, Try.ntmps6
    go_wp2_with fail
    go_ret
    exact ⟨rfl, Below.refl _ _⟩
  · obtain ⟨bv, hbv⟩ : ∃ bv, nmB s = bv := ⟨_, rfl⟩
    have HBV := hid hbv
    clear hbv
    go_enter Try.func6, Try.ntmps6
    go_wp2_with fail
    refine (calls_bool (specIsName_any s _ hs) HBV.out).mono ?_
    rintro e w' ⟨rfl, rfl⟩
    go_wp2_with fail
    refine (calls_bool (implIsName_any s _ hs) HBV.out).mono ?_
    rintro e w' ⟨rfl, rfl⟩
    go_wp2_with fail
    go_ret
    exact ⟨rfl, Below.refl _ _⟩
end Go.Proofs.Ythcoimlbjhdjcaa
