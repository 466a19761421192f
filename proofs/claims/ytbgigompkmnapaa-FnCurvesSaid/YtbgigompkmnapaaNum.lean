/- Plain: the numbers of inner points. No program here but for the sides' bounds. -/
import Derived.Test.YtbgigompkmnapaaWa
namespace Go.Proofs.Ytbgigompkmnapaa
set_option linter.unusedSimpArgs false
set_option linter.unusedVariables false

theorem side_cases {W : Int} (h : side W = true) : W = 1 ∨ W = 2 ∨ W = 3 ∨ W = 4 ∨ W = 5 ∨ W = 6 ∨ W = 7 ∨ W = 8 := by
  have := side_bd h
  omega
/-- The number of the first inner point of height y. -/
def rowF (W y : Int) : Int := y / 2 * (W - 1) + (y - 1) / 2 * W
theorem rowF_one (W : Int) : rowF W 1 = 0 := by simp [rowF]
theorem rowF_succ {W y : Int} (hW : side W = true) (hy : 1 ≤ y) : rowF W (y + 1) = rowF W y + W - y % 2 := by
  unfold rowF
  rcases side_cases hW with rfl | rfl | rfl | rfl | rfl | rfl | rfl | rfl <;> omega
theorem rowF_bd {W y : Int} (hW : side W = true) (hy : 1 ≤ y) (hy2 : y ≤ 16) : 0 ≤ rowF W y ∧ rowF W y ≤ 120 := by
  unfold rowF
  rcases side_cases hW with rfl | rfl | rfl | rfl | rfl | rfl | rfl | rfl <;> omega
theorem rowF_mono {W y : Int} (hW : side W = true) (hy : 1 ≤ y) : rowF W y ≤ rowF W (y + 1) := by
  rw [rowF_succ hW hy]
  have := side_bd hW
  omega
theorem rowF_end {W H : Int} (hW : side W = true) (hH : side H = true) : rowF W (2 * H) = inner W H := by
  unfold rowF inner
  rcases side_cases hW with rfl | rfl | rfl | rfl | rfl | rfl | rfl | rfl <;> omega
/-- The number of an inner point. -/
def numF (W x y : Int) : Int := rowF W y + (x - 1) / 2
/-- An inner point: a point that is no border point. -/
theorem inner_of {W H x y : Int} (h : hasP W H x y = true) (he : edgeP W H x y = false) : 1 ≤ x ∧ x ≤ 2 * W - 1 ∧ 1 ≤ y ∧ y ≤ 2 * H - 1 ∧ (x + y) % 2 = 1 := by
  have h1 := hasP_bd h
  simp only [hasP, Bool.and_eq_true, beq_iff_eq] at h
  simp only [edgeP, Bool.or_eq_false_iff, beq_eq_false_iff_ne] at he
  omega
theorem numF_bd {W H x y : Int} (hW : side W = true) (hH : side H = true) (x1 : 1 ≤ x) (x2 : x ≤ 2 * W - 1) (y1 : 1 ≤ y) (y2 : y ≤ 2 * H - 1) (hp : (x + y) % 2 = 1) : 0 ≤ numF W x y ∧ numF W x y < inner W H := by
  rw [← rowF_end hW hH]
  have hb := side_bd hH
  unfold numF rowF
  rcases side_cases hW with rfl | rfl | rfl | rfl | rfl | rfl | rfl | rfl <;> omega

/-- The height of the inner point number k, looked for from y on. -/
def rowOf (W H k : Int) : Nat → Int → Int
  | 0, y => y
  | n + 1, y => if y + 1 < 2 * H ∧ rowF W (y + 1) ≤ k then rowOf W H k n (y + 1) else y
def ptY (W H k : Int) : Int := rowOf W H k 16 1
def ptX (W H k : Int) : Int := 2 * (k - rowF W (ptY W H k)) + 1 + ptY W H k % 2
theorem rowOf_spec {W H k : Int} (hW : side W = true) (hH : side H = true) (hk : k < inner W H) : ∀ (n : Nat) (y : Int), 1 ≤ y → y ≤ 2 * H - 1 → rowF W y ≤ k → 2 * H - 1 - y ≤ n →
    y ≤ rowOf W H k n y ∧ rowOf W H k n y ≤ 2 * H - 1 ∧ rowF W (rowOf W H k n y) ≤ k ∧ k < rowF W (rowOf W H k n y + 1) := by
  intro n
  induction n with
  | zero =>
    intro y h1 h2 h3 h4
    have : y = 2 * H - 1 := by omega
    simp only [rowOf]
    refine ⟨by omega, by omega, h3, ?_⟩
    rw [show y + 1 = 2 * H by omega, rowF_end hW hH]
    exact hk
  | succ n ih =>
    intro y h1 h2 h3 h4
    simp only [rowOf]
    split
    · rename_i h
      have := ih (y + 1) (by omega) (by omega) h.2 (by omega)
      exact ⟨by omega, this.2⟩
    · rename_i h
      refine ⟨by omega, h2, h3, ?_⟩
      by_cases hy : y + 1 < 2 * H
      · have : ¬ rowF W (y + 1) ≤ k := fun hh => h ⟨hy, hh⟩
        omega
      · rw [show y + 1 = 2 * H by omega, rowF_end hW hH]
        exact hk
theorem ptY_spec {W H k : Int} (hW : side W = true) (hH : side H = true) (h0 : 0 ≤ k) (hk : k < inner W H) : 1 ≤ ptY W H k ∧ ptY W H k ≤ 2 * H - 1 ∧ rowF W (ptY W H k) ≤ k ∧ k < rowF W (ptY W H k + 1) := by
  have hb := side_bd hH
  exact rowOf_spec hW hH hk 16 1 (by omega) (by omega) (by rw [rowF_one]; exact h0) (by omega)
/-- The height is the one whose numbers hold k. -/
theorem row_unique {W y z k : Int} (hW : side W = true) (hy : 1 ≤ y) (hz : 1 ≤ z) (h1 : rowF W y ≤ k) (h2 : k < rowF W (y + 1)) (h3 : rowF W z ≤ k) (h4 : k < rowF W (z + 1)) : y = z := by
  unfold rowF at *
  rcases side_cases hW with rfl | rfl | rfl | rfl | rfl | rfl | rfl | rfl <;> omega
theorem pt_bd {W H k : Int} (hW : side W = true) (hH : side H = true) (h0 : 0 ≤ k) (hk : k < inner W H) : 1 ≤ ptX W H k ∧ ptX W H k ≤ 2 * W - 1 ∧ 1 ≤ ptY W H k ∧ ptY W H k ≤ 2 * H - 1 ∧ (ptX W H k + ptY W H k) % 2 = 1 := by
  obtain ⟨h1, h2, h3, h4⟩ := ptY_spec hW hH h0 hk
  rw [rowF_succ hW h1] at h4
  have := side_bd hW
  unfold ptX
  omega
theorem num_pt {W H k : Int} (hW : side W = true) (hH : side H = true) (h0 : 0 ≤ k) (hk : k < inner W H) : numF W (ptX W H k) (ptY W H k) = k := by
  obtain ⟨h1, h2, h3, h4⟩ := ptY_spec hW hH h0 hk
  rw [rowF_succ hW h1] at h4
  unfold numF ptX
  omega
theorem pt_num {W H x y : Int} (hW : side W = true) (hH : side H = true) (x1 : 1 ≤ x) (x2 : x ≤ 2 * W - 1) (y1 : 1 ≤ y) (y2 : y ≤ 2 * H - 1) (hp : (x + y) % 2 = 1) : ptX W H (numF W x y) = x ∧ ptY W H (numF W x y) = y := by
  obtain ⟨h0, hk⟩ := numF_bd hW hH x1 x2 y1 y2 hp
  obtain ⟨h1, h2, h3, h4⟩ := ptY_spec hW hH h0 hk
  have e : ptY W H (numF W x y) = y := by
    refine row_unique hW h1 y1 h3 h4 ?_ ?_
    · unfold numF; omega
    · rw [rowF_succ hW y1]; unfold numF; omega
  refine ⟨?_, e⟩
  unfold ptX
  rw [e]
  unfold numF
  omega
end Go.Proofs.Ytbgigompkmnapaa
