/- Plain: the curves at an inner point. -/
import Derived.Test.YtbgigompkmnapaaTp
import Derived.Test.YtbgigompkmnapaaSt
import Derived.Lib.SlicesCompact
namespace Go.Proofs.Ytbgigompkmnapaa
set_option linter.unusedSimpArgs false
set_option linter.unusedVariables false
/-- Of an inner point, all four directions are walkers'. -/
theorem okS_inner {W H : Int} {zs : List Int} {x y dx dy : Int} (h : (codeP W H zs x y == 0) = true) (hx : dx = 1 ∨ dx = -1) (hy : dy = 1 ∨ dy = -1) : okS W H (x, y, dx, dy) ∧ okS W H (x - dx, y - dy, dx, dy) := by
  obtain ⟨hW, hH, _, x1, x2, y1, y2, hp⟩ := codeP_parts h
  have b1 := side_bd hW
  have b2 := side_bd hH
  have hs : signB dx = true := by rcases hx with rfl | rfl <;> rfl
  have ht : signB dy = true := by rcases hy with rfl | rfl <;> rfl
  unfold okS walkB
  rw [hs, ht]
  simp only [hasP, inR, Bool.true_and, Bool.and_eq_true, decide_eq_true_eq, beq_iff_eq]
  refine ⟨⟨?_, ?_⟩, ?_, ?_⟩ <;> omega
/-- The curve of the segment at a point in a direction. -/
def ow (H : Int) (o : List Int) (x y dx dy : Int) : Int := o.getD (segN H (x, y, dx, dy)) 0
theorem segN_backW {W H : Int} {s : Wkr} (h : okS W H s) : segN H (backS s) = segN H s := by unfold segN; rw [seg_back h]
theorem meet_step {W H : Int} {zs : List Int} {o : List Int} {x y dx dy : Int} (h : (codeP W H zs x y == 0) = true) (hx : dx = 1 ∨ dx = -1) (hy : dy = 1 ∨ dy = -1)
    (hi : ∀ s, okS W H s → o[segN H s]? = o[segN H (stepW W H zs s)]?) : o[segN H (x, y, -dx, -dy)]? = o[segN H (x, y, if brkA W zs x y = 1 then -dx else dx, if brkA W zs x y = 2 then -dy else dy)]? := by
  obtain ⟨hW, hH, _, x1, x2, y1, y2, hp⟩ := codeP_parts h
  have ok := (okS_inner h hx hy).2
  have e := hi _ ok
  have e1 : segN H (x - dx, y - dy, dx, dy) = segN H (x, y, -dx, -dy) := by
    have := segN_backW ok
    rw [← this]
    simp only [backS, Int.sub_add_cancel]
  have hed : edgeP W H x y = false := by
    simp only [edgeP, Bool.or_eq_false_iff, beq_eq_false_iff_ne]
    omega
  have e2 : stepW W H zs (x - dx, y - dy, dx, dy) = (x, y, if brkA W zs x y = 1 then -dx else dx, if brkA W zs x y = 2 then -dy else dy) := by
    simp only [stepW, stU, stV, stK, Int.sub_add_cancel, hed, Bool.false_eq_true, if_false]
    have c1 : (x == 0) = false := by simp; omega
    have c2 : (x == 2 * W) = false := by simp; omega
    have c3 : (y == 0) = false := by simp; omega
    have c4 : (y == 2 * H) = false := by simp; omega
    rw [c1, c2, c3, c4]
    simp
  rw [e1, e2] at e
  exact e
theorem ow_some {W H : Int} {zs : List Int} {o : List Int} {x y dx dy : Int} (hv : validB W H zs = true) (hl : o.length = (4 * W * H).toNat) (h : okS W H (x, y, dx, dy)) : o[segN H (x, y, dx, dy)]? = some (ow H o x y dx dy) := by
  have hlt := segN_lt hv h
  rw [← hl] at hlt
  simp [ow, List.getD_eq_getElem?_getD, List.getElem?_eq_getElem hlt]
/-- The four curves at an inner point: two, twice each. -/
theorem meet4 {W H : Int} {zs : List Int} {o : List Int} {x y : Int} (hv : validB W H zs = true) (h : (codeP W H zs x y == 0) = true) (hl : o.length = (4 * W * H).toNat)
    (hi : ∀ s, okS W H s → o[segN H s]? = o[segN H (stepW W H zs s)]?) :
    ∃ p q : Int, ow H o x y (-1) (-1) = p ∧ ((brkA W zs x y = 0 ∧ ow H o x y (-1) 1 = q ∧ ow H o x y 1 (-1) = q ∧ ow H o x y 1 1 = p) ∨ (brkA W zs x y = 1 ∧ ow H o x y (-1) 1 = p ∧ ow H o x y 1 (-1) = q ∧ ow H o x y 1 1 = q) ∨ (brkA W zs x y = 2 ∧ ow H o x y (-1) 1 = q ∧ ow H o x y 1 (-1) = p ∧ ow H o x y 1 1 = q)) := by
  obtain ⟨hW, hH, hle, x1, x2, y1, y2, hp⟩ := codeP_parts h
  have nb := numF_bd hW hH x1 x2 y1 y2 hp
  obtain ⟨k, hk, hkl, hkz⟩ := brk_at hle nb.1 nb.2
  have hkind := valid_kinds hv hkz
  have a := ow_some hv hl (okS_inner h (.inr rfl) (.inr rfl)).1
  have b := ow_some hv hl (okS_inner h (.inr rfl) (.inl rfl)).1
  have c := ow_some hv hl (okS_inner h (.inl rfl) (.inr rfl)).1
  have d := ow_some hv hl (okS_inner h (.inl rfl) (.inl rfl)).1
  have s1 := meet_step h (dx := 1) (dy := 1) (.inl rfl) (.inl rfl) hi
  have s2 := meet_step h (dx := 1) (dy := -1) (.inl rfl) (.inr rfl) hi
  refine ⟨_, ow H o x y 1 (if brkA W zs x y = 2 then 1 else -1), rfl, ?_⟩
  rcases hkind with hb | hb | hb
  · left
    rw [hb] at s1 s2 ⊢
    simp at s1 s2 ⊢
    rw [a, d] at s1
    rw [b, c] at s2
    injection s1 with s1
    injection s2 with s2
    exact ⟨s2, s1.symm⟩
  · right; left
    rw [hb] at s1 s2 ⊢
    simp at s1 s2 ⊢
    have s3 := meet_step h (dx := -1) (dy := 1) (.inr rfl) (.inl rfl) hi
    rw [hb] at s3
    simp at s3
    rw [a, b] at s1
    rw [c, d] at s3
    injection s1 with s1
    injection s3 with s3
    exact ⟨s1.symm, s3.symm⟩
  · right; right
    rw [hb] at s1 s2 ⊢
    simp at s1 s2 ⊢
    rw [a, c] at s1
    rw [b, d] at s2
    injection s1 with s1
    injection s2 with s2
    exact ⟨s2, s1.symm⟩
/-- The curves at a point, ascending. -/
def ctL (p q : Int) : List Int := if p = q then [p] else [min p q, max p q]
/-- Sorted and compacted. -/
def socL (l : List Int) : List Int := Go.Lib.compactUpTo (l.mergeSort fun x y => decide (x ≤ y)).toArray (l.mergeSort fun x y => decide (x ≤ y)).length
theorem sort4 {l : List Int} {p q : Int} (h : ∀ a, l.count a = [min p q, min p q, max p q, max p q].count a) : (l.mergeSort fun x y => decide (x ≤ y)) = [min p q, min p q, max p q, max p q] := by
  have hp : l.Perm [min p q, min p q, max p q, max p q] := List.perm_iff_count.2 h
  have h1 : (l.mergeSort fun x y => decide (x ≤ y)).Pairwise (fun x y => decide (x ≤ y) = true) := List.pairwise_mergeSort (fun a b c h1 h2 => by simp at *; omega) (fun a b => by simp; omega) l
  have h2 : [min p q, min p q, max p q, max p q].Pairwise (fun x y => decide (x ≤ y) = true) := by
    simp; omega
  refine List.Perm.eq_of_pairwise (le := fun x y => decide (x ≤ y) = true) ?_ h1 h2 ((List.mergeSort_perm _ _).trans hp)
  intro a b _ _ h3 h4
  simp at h3 h4
  omega
theorem count4 (p q : Int) : (∀ a, [p, q, q, p].count a = [min p q, min p q, max p q, max p q].count a) ∧ (∀ a, [p, p, q, q].count a = [min p q, min p q, max p q, max p q].count a) ∧ (∀ a, [p, q, p, q].count a = [min p q, min p q, max p q, max p q].count a) := by
  rcases Int.le_total p q with h | h
  · rw [Int.min_eq_left h, Int.max_eq_right h]
    refine ⟨fun a => ?_, fun a => ?_, fun a => ?_⟩ <;> simp only [List.count_cons, List.count_nil] <;> omega
  · rw [Int.min_eq_right h, Int.max_eq_left h]
    refine ⟨fun a => ?_, fun a => ?_, fun a => ?_⟩ <;> simp only [List.count_cons, List.count_nil] <;> omega
theorem soc_of {l : List Int} {p q : Int} (h : (l.mergeSort fun x y => decide (x ≤ y)) = [min p q, min p q, max p q, max p q]) : socL l = ctL p q := by
  unfold socL ctL
  rw [h]
  by_cases e : p = q
  · subst e
    simp [Go.Lib.compactUpTo, Go.Lib.keeps, List.range_succ]
  · have e2 : ¬ max p q = min p q := by omega
    rw [if_neg e]
    simp [Go.Lib.compactUpTo, Go.Lib.keeps, List.range_succ, e2]
theorem soc4 {l : List Int} {p q z1 z2 z3 : Int} {k : Int} (hl : l = [p, z1, z2, z3]) (h : (k = 0 ∧ z1 = q ∧ z2 = q ∧ z3 = p) ∨ (k = 1 ∧ z1 = p ∧ z2 = q ∧ z3 = q) ∨ (k = 2 ∧ z1 = q ∧ z2 = p ∧ z3 = q)) : socL l = ctL p q := by
  subst hl
  rcases h with ⟨_, rfl, rfl, rfl⟩ | ⟨_, rfl, rfl, rfl⟩ | ⟨_, rfl, rfl, rfl⟩
  · exact soc_of (sort4 (count4 _ _).1)
  · exact soc_of (sort4 (count4 _ _).2.1)
  · exact soc_of (sort4 (count4 _ _).2.2)
/-- The curves at a point of a panel. -/
def ctF (H : Int) (o : List Int) (x y : Int) : List Int := socL [ow H o x y (-1) (-1), ow H o x y (-1) 1, ow H o x y 1 (-1), ow H o x y 1 1]
end Go.Proofs.Ytbgigompkmnapaa
