/- WalkSteps. -/
import Derived.Test.YtgcgaoblbhojnaaSw
namespace Go.Proofs.Ytgcgaoblbhojnaa
set_option linter.unusedSimpArgs false
set_option linter.unusedVariables false
open Go.ChangeShapes Go.WideShapes Go.ChangeAt Go.RowKit
/-- A step, and many. -/
def stepW (W H : Int) (zs : List Int) (s : Int × Int × Int × Int) : Int × Int × Int × Int :=
  (s.1 + s.2.2.1, s.2.1 + s.2.2.2, stU W H zs s.1 s.2.1 s.2.2.1 s.2.2.2, stV W H zs s.1 s.2.1 s.2.2.1 s.2.2.2)
def itW (W H : Int) (zs : List Int) : Nat → Int × Int × Int × Int → Int × Int × Int × Int
  | 0, s => s
  | n + 1, s => stepW W H zs (itW W H zs n s)
/-- A valid walker is valid behind a step. -/
theorem walkB_step {W H : Int} {zs : List Int} {x y dx dy : Int} (hv : validB W H zs = true) (h : walkB W H x y dx dy = true) : walkB W H (x + dx) (y + dy) (stU W H zs x y dx dy) (stV W H zs x y dx dy) = true := by
  obtain ⟨h1, h2, h3, h4⟩ := walk_parts h
  obtain ⟨hW, hH⟩ := valid_sides hv
  have b1 := side_bd hW
  have b2 := side_bd hH
  have p1 : (x + y) % 2 = 1 := by simp only [hasP, Bool.and_eq_true, beq_iff_eq] at h3; exact h3.2.2
  have k1 := hasP_bd h3
  have k2 := hasP_bd h4
  have goal : ∀ u v : Int, (u = 1 ∨ u = -1) → (v = 1 ∨ v = -1) → 0 ≤ x + dx + u → x + dx + u ≤ 2 * W → 0 ≤ y + dy + v → y + dy + v ≤ 2 * H → walkB W H (x + dx) (y + dy) u v = true := by
    intro u v hu hv' a1 a2 a3 a4
    have hp : hasP W H (x + dx + u) (y + dy + v) = true := by
      simp only [hasP, inR, Bool.and_eq_true, decide_eq_true_eq, beq_iff_eq]
      omega
    simp only [walkB, Bool.and_eq_true]
    refine ⟨?_, ?_, h4, hp⟩
    · rcases hu with rfl | rfl <;> rfl
    · rcases hv' with rfl | rfl <;> rfl
  rcases step_cases hv h with ⟨c1, c2, c3⟩ | ⟨c1, c2, c3, c4⟩ | ⟨c1, c2, c3⟩ | ⟨c1, c2, c3, c4⟩ | ⟨⟨i1, i2, i3, i4, i5⟩, k, hk, hkl, hkz, c0 | c0 | c0⟩
  all_goals
    have e1 : ((x + dx == 0 || x + dx == 2 * W || stK W H zs (x + dx) (y + dy) == 1) = true ∧ stU W H zs x y dx dy = -dx) ∨ ((x + dx == 0 || x + dx == 2 * W || stK W H zs (x + dx) (y + dy) == 1) = false ∧ stU W H zs x y dx dy = dx) := by
      unfold stU
      cases (x + dx == 0 || x + dx == 2 * W || stK W H zs (x + dx) (y + dy) == 1) <;> simp
    have e2 : ((y + dy == 0 || y + dy == 2 * H || stK W H zs (x + dx) (y + dy) == 2) = true ∧ stV W H zs x y dx dy = -dy) ∨ ((y + dy == 0 || y + dy == 2 * H || stK W H zs (x + dx) (y + dy) == 2) = false ∧ stV W H zs x y dx dy = dy) := by
      unfold stV
      cases (y + dy == 0 || y + dy == 2 * H || stK W H zs (x + dx) (y + dy) == 2) <;> simp
    simp only [Bool.or_eq_true, Bool.or_eq_false_iff, beq_iff_eq, beq_eq_false_iff_ne] at e1 e2
    apply goal <;> omega
theorem walkB_it {W H : Int} {zs : List Int} (hv : validB W H zs = true) {x y dx dy : Int} (h : walkB W H x y dx dy = true) (n : Nat) : walkB W H (itW W H zs n (x, y, dx, dy)).1 (itW W H zs n (x, y, dx, dy)).2.1 (itW W H zs n (x, y, dx, dy)).2.2.1 (itW W H zs n (x, y, dx, dy)).2.2.2 = true := by
  induction n with
  | zero => exact h
  | succ n ih => exact walkB_step hv ih
/-- What WalkSteps answers. -/
def wsS (W H : Int) (zs : List Int) (x y dx dy n : Int) : Int × Int × Int × Int := if validWB W H zs x y dx dy && inR n 0 10000 then itW W H zs n.toNat (x, y, dx, dy) else (0, 0, 0, 0)
def wsC (W H : Int) (zs : List Int) (x y dx dy n : Int) : Int := if validWB W H zs x y dx dy then (if inR n 0 10000 then 0 else 2) else 1

end Go.Proofs.Ytgcgaoblbhojnaa
