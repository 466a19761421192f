/- The walk of FnExactReadDecimal. -/
import Derived.Test.YtgcgaoblbhojnaaRd
namespace Go.Proofs.Ytgcgaoblbhojnaa
set_option linter.unusedSimpArgs false
set_option linter.unusedVariables false
open Go.ChangeShapes Go.WideShapes Go.ChangeAt Go.RowKit
theorem specReadDecimal_any (s : ByteArray) (w : World) (hs : s.size ≤ 1048576) : Calls Try.prog 16 #[.string s] w fun e w' => e = .returned (.tuple #[.int .i64 (rdR s), .bool (rdB s)]) ∧ Below w.heap.size w w' := by
  go_enter Try.func16, Try.ntmps16
  go_wp2_with fail
  refine (l01Number_any s _ hs).mono ?_
  rintro e w1 ⟨rfl, hb1⟩
  have HB := hid hb1
  clear hb1
  go_wp2_with fail
  go_ret2
  exact ⟨rfl, HB.out⟩
theorem fnExactReadDecimal_walk (w : World) (s0 : ByteArray) (hs0 : s0.size ≤ maxLen) :
    Calls Try.prog 4 #[.string s0] w fun e w' => e = .returned (.bool true) ∧ Below w.heap.size w w' := by
  unfold maxLen at hs0
  obtain ⟨n, hn⟩ : ∃ n, s0.size = n := ⟨_, rfl⟩
  by_cases hs : n ≤ 1048576
  · have hgr : ¬ ((1048576 : Int) < n) := by omega
    have hb : (rdR s0 != rdR s0) = false := by simp
    have hb' : (rdB s0 != rdB s0) = false := by simp
    have hsz : s0.size ≤ 1048576 := by omega
    go_enter Try.func4, Try.ntmps4
    go_wp2_with fail
    refine (specReadDecimal_any s0 _ hsz).mono ?_
    rintro e w1 ⟨rfl, hb1⟩
    have HB1 := hid hb1
    clear hb1
    go_wp2_with fail
    refine (implReadDecimal_any s0 _ hsz).mono ?_
    rintro e w2 ⟨rfl, hb2⟩
    have HB2 := hid (bstep HB1.out hb2)
    clear hb2
    go_wp2_with fail
    go_ret
    exact ⟨rfl, HB2.out⟩
  · have hgr : (1048576 : Int) < n := by omega
    go_enter Try.func4, Try.ntmps4
    go_wp2_with fail
    go_ret
    exact ⟨rfl, Below.refl _ _⟩
end Go.Proofs.Ytgcgaoblbhojnaa
