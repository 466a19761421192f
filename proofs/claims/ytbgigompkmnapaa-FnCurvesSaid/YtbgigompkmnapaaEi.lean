/- Rows of int64: compared, marked, held, over ranges. -/
import Derived.Test.YtbgigompkmnapaaNs
namespace Go.Proofs.Ytbgigompkmnapaa
set_option linter.unusedSimpArgs false
set_option linter.unusedVariables false
open Go.ChangeShapes Go.WideShapes Go.ChangeAt Go.RowKit
theorem own_len {w : World} {B n : Nat} {v : Value} {zs : List Int} (h : w.ownsRow B 2 1 v n (vals zs)) : n = zs.length := by have := h.1; simp [vals] at this; omega
theorem own_I {w : World} {B n : Nat} {v : Value} {zs : List Int} (h : w.ownsRow B 2 1 v n (vals zs)) : OwnI w B v zs := by obtain rfl := own_len h; exact h
theorem eqInt64R_any (v1 v2 : Value) (zs : List Int) (n B1 B2 : Nat) (w : World) (h1 : w.ownsRow B1 2 1 v1 n (vals zs)) (h2 : w.ownsRow B2 2 1 v2 n (vals zs)) (hn : n ≤ maxLen) :
    Calls Try.prog 16 #[v1, v2] w fun e w' => e = .returned (.bool true) ∧ Below w.heap.size w w' := by
  obtain rfl := own_len h1
  obtain ⟨A1, c1, rfl, i1⟩ := (own_I h1).form
  obtain ⟨A2, c2, rfl, i2⟩ := (own_I h2).form
  refine (eqInt64S_any A1 A2 c1 c2 zs zs w w.heap.size i1 i2 hn hn).mono ?_
  rintro e w' ⟨rfl, m, rfl⟩
  exact ⟨by simp, below_drewN (Below.refl _ _) m⟩
theorem markInt64R_any (v : Value) (zs : List Int) (n k lo hi : Nat) (w : World) (h : Rgn w lo hi 2 1 v n (vals zs)) (hk : k + n ≤ 4611686018427387904) :
    Calls Try.prog 19 #[v, .int .i64 k] w fun e w' => e = .returned (.int .i64 ((k + n : Nat) : Int)) ∧ Rgn w' lo hi 2 1 v n (vals (marks k n)) ∧ Chg w w' lo hi := by
  obtain rfl := own_len h.1
  refine (markInt64S_any v zs k lo w h.1 hk).mono ?_
  rintro e w' ⟨rfl, ho, hg⟩
  refine ⟨rfl, ⟨?_, h.2⟩, Chg.of_grown hg h.row⟩
  have := ho
  unfold OwnI at this
  rwa [marks_length] at this
theorem heldInt64R_any (v : Value) (n k lo hi : Nat) (w : World) (h : Rgn w lo hi 2 1 v n (vals (marks k n))) (hk : k + n ≤ 4611686018427387904) :
    Calls Try.prog 20 #[v, .int .i64 k] w fun e w' => e = .returned (.int .i64 ((k + n : Nat) : Int)) ∧ Below w.heap.size w w' := by
  obtain ⟨A, c, he⟩ := own_form h.1
  subst he
  refine heldInt64S_any A c k n w ?_ hk
  have h2 : OwnI w lo (.slice A (marks k n).length c) (marks k n) := by rw [marks_length]; exact own_I h.1
  exact OwnI.ints (n := (marks k n).length) h2
end Go.Proofs.Ytbgigompkmnapaa
