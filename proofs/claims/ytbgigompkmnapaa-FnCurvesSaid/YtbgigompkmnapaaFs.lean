/- Plain: what FnSegments meets at segment k. -/
import Derived.Test.YtbgigompkmnapaaAw
import Derived.Test.YtbgigompkmnapaaBw
import Derived.Test.YtbgigompkmnapaaWt
import Derived.Test.YtbgigompkmnapaaTp
import Derived.Test.YtbgigompkmnapaaDa
namespace Go.Proofs.Ytbgigompkmnapaa
set_option linter.unusedSimpArgs false
set_option linter.unusedVariables false
open Go.ChangeShapes Go.WideShapes Go.ChangeAt Go.RowKit
theorem awF_at (H : Int) (n : Nat) : ∀ (k j : Nat), k < n → j < 8 → (awF H n)[8 * k + j]? = (awZ H k)[j]? := by
  induction n with
  | zero => intro k j h; omega
  | succ n ih =>
    intro k j hk hj
    rw [awF_succ]
    have hl := awF_length H n
    by_cases h : k < n
    · rw [List.getElem?_append_left (by omega)]; exact ih k j h hj
    · obtain rfl : k = n := by omega
      rw [List.getElem?_append_right (by omega), show 8 * k + j - (awF H k).length = j by omega]
theorem awF_cells (H : Int) (n k : Nat) (h : k < n) {B : Nat} {T : TypeId} {w : World} {g c m : Nat} (ho : w.ownsRow B T 4 (.slice (some ⟨g, 0, none⟩) m c) m (vals (awF H n))) (hm : m = 2 * n) :
    (w.cell? ⟨g, 2 * k * 4, none⟩ = some (.int .i64 (wkX H k)) ∧ w.cell? ⟨g, 2 * k * 4 + 1, none⟩ = some (.int .i64 (wkY H k)) ∧ w.cell? ⟨g, 2 * k * 4 + 2, none⟩ = some (.int .i64 1) ∧ w.cell? ⟨g, 2 * k * 4 + 3, none⟩ = some (.int .i64 (wkD H k))) ∧
    (w.cell? ⟨g, (2 * k + 1) * 4, none⟩ = some (.int .i64 (wkX H k + 1)) ∧ w.cell? ⟨g, (2 * k + 1) * 4 + 1, none⟩ = some (.int .i64 (wkY H k + wkD H k)) ∧ w.cell? ⟨g, (2 * k + 1) * 4 + 2, none⟩ = some (.int .i64 (-1)) ∧ w.cell? ⟨g, (2 * k + 1) * 4 + 3, none⟩ = some (.int .i64 (-(wkD H k)))) := by
  have at' : ∀ j, j < 8 → w.cell? ⟨g, 8 * k + j, none⟩ = ((awZ H k)[j]?).map (Value.int .i64) := fun j hj => by
    rw [World.ownsRow.cellAt ho (8 * k + j) (by omega), vals, List.getElem?_map, awF_at H n k j h hj]
  refine ⟨⟨?_, ?_, ?_, ?_⟩, ?_, ?_, ?_, ?_⟩
  · rw [show 2 * k * 4 = 8 * k + 0 by omega, at' 0 (by omega)]; rfl
  · rw [show 2 * k * 4 + 1 = 8 * k + 1 by omega, at' 1 (by omega)]; rfl
  · rw [show 2 * k * 4 + 2 = 8 * k + 2 by omega, at' 2 (by omega)]; rfl
  · rw [show 2 * k * 4 + 3 = 8 * k + 3 by omega, at' 3 (by omega)]; rfl
  · rw [show (2 * k + 1) * 4 = 8 * k + 4 by omega, at' 4 (by omega)]; rfl
  · rw [show (2 * k + 1) * 4 + 1 = 8 * k + 5 by omega, at' 5 (by omega)]; rfl
  · rw [show (2 * k + 1) * 4 + 2 = 8 * k + 6 by omega, at' 6 (by omega)]; rfl
  · rw [show (2 * k + 1) * 4 + 3 = 8 * k + 7 by omega, at' 7 (by omega)]; rfl
theorem wf64 {z : Int} (h1 : -9223372036854775808 ≤ z) (h2 : z ≤ 9223372036854775807) : (Lit.int .i64 z).wf = true := by
  simp [Lit.wf, IntKind.min, IntKind.max, IntKind.bits, IntKind.signed]
  omega
/-- All that is asked at segment k. -/
theorem seg_facts {W H : Int} {zs : List Int} (hv : validB W H zs = true) {k : Nat} (hk : (k : Int) < 4 * W * H) : ∃ X Y D X2 Y2 D2 : Int,
    (0 ≤ X ∧ X ≤ 16 ∧ 0 ≤ Y ∧ Y ≤ 16 ∧ -1 ≤ D ∧ D ≤ 1 ∧ 0 ≤ X2 ∧ X2 ≤ 17 ∧ 0 ≤ Y2 ∧ Y2 ≤ 17 ∧ -1 ≤ D2 ∧ D2 ≤ 1) ∧
    (wkX H k = X ∧ wkY H k = Y ∧ wkD H k = D ∧ wkX H k + 1 = X2 ∧ wkY H k + wkD H k = Y2 ∧ -(wkD H k) = D2) ∧
    (wtX W H zs k = X ∧ wtY W H zs k = Y ∧ wtU W H zs k = 1 ∧ wtD W H zs k = D ∧ wtC W H zs k = 0) ∧
    validWB W H zs X Y 1 D = true ∧
    (bwX W H zs X Y 1 D = X2 ∧ bwY W H zs X Y 1 D = Y2 ∧ bwU W H zs X Y 1 D = -1 ∧ bwV W H zs X Y 1 D = D2 ∧ codeW W H zs X Y 1 D = 0) ∧
    sgR W H zs X Y 1 D = k ∧ codeW W H zs X2 Y2 (-1) D2 = 0 ∧ sgR W H zs X2 Y2 (-1) D2 = k := by
  have hs := valid_sides hv
  have ok := wkS_ok hs.1 hs.2 hk
  have hb := wk_bd hs.1 hs.2 (Int.natCast_nonneg k) hk
  have ok2 := okS_back ok
  have sg := wkS_seg hs.1 hs.2 hk
  have sg2 := (seg_back (W := W) (H := H) ok).trans sg
  have hr : inR k 0 (4 * W * H - 1) = true := by simp [inR]; omega
  have vw : validWB W H zs (wkX H k) (wkY H k) 1 (wkD H k) = true := by unfold validWB; rw [hv]; exact ok
  have vw2 : validWB W H zs (wkX H k + 1) (wkY H k + wkD H k) (-1) (-(wkD H k)) = true := by unfold validWB; rw [hv]; exact ok2
  have b2 := wb_bd vw2
  refine ⟨_, _, _, _, _, _, by omega, ⟨rfl, rfl, rfl, rfl, rfl, rfl⟩, ?_, vw, ?_, ?_, ?_, ?_⟩
  · simp [wtX, wtY, wtU, wtD, wtC, hv, hr]
  · simp [bwX, bwY, bwU, bwV, codeW, vw]
  · rw [show sgR W H zs (wkX H k) (wkY H k) 1 (wkD H k) = sgF H (wkX H k) (wkY H k) 1 (wkD H k) by simp [sgR, vw]]; exact sg
  · simp [codeW, vw2]
  · rw [show sgR W H zs (wkX H k + 1) (wkY H k + wkD H k) (-1) (-(wkD H k)) = sgF H (wkX H k + 1) (wkY H k + wkD H k) (-1) (-(wkD H k)) by simp [sgR, vw2]]; exact sg2
end Go.Proofs.Ytbgigompkmnapaa
