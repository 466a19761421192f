/- The walk of FnExactCodeName. -/
import Derived.Test.YthcoimlbjhdjcaaVp
namespace Go.Proofs.Ythcoimlbjhdjcaa
open Go.ChangeShapes Go.WideShapes Go.ChangeAt Go.RowKit
set_option maxHeartbeats 1000000 in
theorem fnExactCodeName_walk (w : World) (a : Int) (_ : (Lit.int .i64 a).wf = true) : Calls Try.prog 10 #[.int .i64 a] w fun e w' => e = .returned (.bool true) ∧ Below w.heap.size w w' := by
  by_cases h : 0 ≤ a ∧ a ≤ 10
  · have h' : a = 0 ∨ a = 1 ∨ a = 2 ∨ a = 3 ∨ a = 4 ∨ a = 5 ∨ a = 6 ∨ a = 7 ∨ a = 8 ∨ a = 9 ∨ a = 10 := by omega
    rcases h' with rfl | rfl | rfl | rfl | rfl | rfl | rfl | rfl | rfl | rfl | rfl
    all_goals
      go_enter Try.func10, Try.ntmps10
      go_wp2
      go_ret
      exact ⟨rfl, by repeat (first | exact Below.refl _ _ | exact (Below.refl _ _).alloc (Nat.le_refl _) _)⟩
  · have h' : a < 0 ∨ 10 < a := by omega
    have t0 : (a == 0) = false := by simp; omega
    have t1 : (a == 1) = false := by simp; omega
    have t2 : (a == 2) = false := by simp; omega
    have t3 : (a == 3) = false := by simp; omega
    have t4 : (a == 4) = false := by simp; omega
    have t5 : (a == 5) = false := by simp; omega
    have t6 : (a == 6) = false := by simp; omega
    have t7 : (a == 7) = false := by simp; omega
    have t8 : (a == 8) = false := by simp; omega
    have t9 : (a == 9) = false := by simp; omega
    have t10 : (a == 10) = false := by simp; omega
    clear h
    rcases h' with h | h
    · go_enter Try.func10, Try.ntmps10
      go_wp2
      go_ret
      exact ⟨rfl, by repeat (first | exact Below.refl _ _ | exact (Below.refl _ _).alloc (Nat.le_refl _) _)⟩
    · have hd : decide (a ≤ 10) = false := by simp; omega
      have h0 : 0 ≤ a := by omega
      go_enter Try.func10, Try.ntmps10
      go_wp2
      go_ret
      exact ⟨rfl, by repeat (first | exact Below.refl _ _ | exact (Below.refl _ _).alloc (Nat.le_refl _) _)⟩
end Go.Proofs.Ythcoimlbjhdjcaa
