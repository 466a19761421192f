/- The walk of FnExactInverseSym. -/
import Derived.Test.YthcoimlbjhdjcaaVp
namespace Go.Proofs.Ythcoimlbjhdjcaa
open Go.ChangeShapes Go.WideShapes Go.ChangeAt Go.RowKit
set_option maxHeartbeats 1000000 in
theorem fnExactInverseSym_walk (w : World) (a : Int) (_ : (Lit.int .i64 a).wf = true) : Calls Try.prog 8 #[.int .i64 a] w fun e w' => e = .returned (.bool true) ∧ Below w.heap.size w w' := by
  by_cases h : 0 ≤ a ∧ a ≤ 7
  · have h' : a = 0 ∨ a = 1 ∨ a = 2 ∨ a = 3 ∨ a = 4 ∨ a = 5 ∨ a = 6 ∨ a = 7 := by omega
    rcases h' with rfl | rfl | rfl | rfl | rfl | rfl | rfl | rfl
    all_goals
      go_enter Try.func8, Try.ntmps8
      go_wp2
      go_ret
      exact ⟨rfl, by repeat (first | exact Below.refl _ _ | exact (Below.refl _ _).alloc (Nat.le_refl _) _)⟩
  · have h' : a < 0 ∨ 7 < a := by omega
    have t0 : (a == 0) = false := by simp; omega
    have t1 : (a == 1) = false := by simp; omega
    have t2 : (a == 2) = false := by simp; omega
    have t3 : (a == 3) = false := by simp; omega
    have t4 : (a == 4) = false := by simp; omega
    have t5 : (a == 5) = false := by simp; omega
    have t6 : (a == 6) = false := by simp; omega
    have t7 : (a == 7) = false := by simp; omega
    clear h
    rcases h' with h | h
    · go_enter Try.func8, Try.ntmps8
      go_wp2
      go_ret
      exact ⟨rfl, by repeat (first | exact Below.refl _ _ | exact (Below.refl _ _).alloc (Nat.le_refl _) _)⟩
    · have hd : decide (a ≤ 7) = false := by simp; omega
      have h0 : 0 ≤ a := by omega
      go_enter Try.func8, Try.ntmps8
      go_wp2
      go_ret
      exact ⟨rfl, by repeat (first | exact Below.refl _ _ | exact (Below.refl _ _).alloc (Nat.le_refl _) _)⟩
end Go.Proofs.Ythcoimlbjhdjcaa
