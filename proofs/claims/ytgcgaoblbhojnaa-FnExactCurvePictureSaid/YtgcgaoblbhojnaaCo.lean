/- CurvesOf. -/
import Derived.Test.YtgcgaoblbhojnaaCu
import Derived.Test.YtgcgaoblbhojnaaEn
import Derived.OwnWalk
import Derived.Lib.SmallJoins
namespace Go.Proofs.Ytgcgaoblbhojnaa
set_option linter.unusedSimpArgs false
set_option linter.unusedVariables false
open Go.ChangeShapes Go.WideShapes Go.ChangeAt Go.RowKit
/-- What CurvesOf answers. -/
def coL (W H : Int) (zs : List Int) : List (List Int) := if validB W H zs then (trS W H zs (4 * W * H).toNat).1.map flatP else []
def coM (W H : Int) (zs : List Int) : List Nat := if validB W H zs then (trS W H zs (4 * W * H).toNat).1.map List.length else []
theorem curP_map (cs : List (List Wkr)) : curP cs = (cs.map flatP).map vals := by simp [curP, Function.comp_def]
theorem coL_length (W H : Int) (zs : List Int) : (coL W H zs).length = clN W H zs := by
  unfold coL clN
  split <;> simp
theorem coM_length (W H : Int) (zs : List Int) : (coM W H zs).length = clN W H zs := by
  unfold coM clN
  split <;> simp
theorem coL_len (W H : Int) (zs : List Int) : ∀ (i : Nat) cs m, (coL W H zs)[i]? = some cs → (coM W H zs)[i]? = some m → cs.length = 2 * m := by
  intro i cs m h1 h2
  unfold coL at h1
  unfold coM at h2
  split at h1
  · rename_i hv
    rw [if_pos hv] at h2
    simp only [List.getElem?_map, Option.map_eq_some_iff] at h1 h2
    obtain ⟨c, hc, rfl⟩ := h1
    obtain ⟨c', hc', rfl⟩ := h2
    rw [hc] at hc'
    injection hc' with hc'
    subst hc'
    rw [flatP_length]; omega
  · simp at h1
theorem sum_take_le (ns : List Nat) (j : Nat) : (ns.take j).sum ≤ ns.sum := by
  induction ns generalizing j with
  | nil => simp
  | cons n ns ih =>
    cases j with
    | zero => simp
    | succ j => simp only [List.take_succ_cons, List.sum_cons]; have := ih j; omega
theorem sum_bd (ns : List Nat) (b : Nat) (h : ∀ x ∈ ns, x ≤ b) : ns.sum ≤ b * ns.length := by
  induction ns with
  | nil => simp
  | cons n ns ih =>
    have h1 := h n List.mem_cons_self
    have h2 := ih (fun x hx => h x (List.mem_cons_of_mem _ hx))
    simp only [List.sum_cons, List.length_cons, Nat.mul_succ]
    omega
theorem coM_mono (W H : Int) (zs : List Int) : ∀ j, sumN (coM W H zs) j ≤ sumN (coM W H zs) (clN W H zs) := by
  intro j
  unfold sumN
  rw [← coM_length, List.take_length]
  have := sum_take_le (coM W H zs) j
  omega
theorem coM_bd (W H : Int) (zs : List Int) : sumN (coM W H zs) (clN W H zs) ≤ 131072 := by
  unfold sumN
  rw [← coM_length, List.take_length]
  have h1 : ∀ x ∈ coM W H zs, x ≤ 256 := by
    intro x hx
    unfold coM at hx
    split at hx
    · rename_i hv
      simp only [List.mem_map] at hx
      obtain ⟨c, hc, rfl⟩ := hx
      obtain ⟨i, hi⟩ := List.mem_iff_getElem?.1 hc
      obtain ⟨s, hs, rfl, _⟩ := (trS_inv hv _ (Nat.le_refl _)).cur i c hi
      unfold curS
      rw [List.length_map, List.length_range]
      exact (per_spec hv hs).2.1
    · simp at hx
  have h2 := sum_bd _ 256 h1
  have h3 := clN_le W H zs
  rw [coM_length] at h2
  have : 256 * clN W H zs ≤ 65536 := by omega
  omega
theorem flatW_at {cs : List Wkr} {i : Nat} {s : Wkr} (h : cs[i]? = some s) : (flatW cs)[i * 4]? = some s.1 ∧ (flatW cs)[i * 4 + 1]? = some s.2.1 ∧ (flatW cs)[i * 4 + 2]? = some s.2.2.1 ∧ (flatW cs)[i * 4 + 3]? = some s.2.2.2 := by
  induction cs generalizing i with
  | nil => simp at h
  | cons a l ih =>
    cases i with
    | zero => simp at h; subst h; simp [flatW, wnum]
    | succ i =>
      simp only [List.getElem?_cons_succ] at h
      have := ih h
      have e : flatW (a :: l) = [a.1, a.2.1, a.2.2.1, a.2.2.2] ++ flatW l := rfl
      rw [e, show (i + 1) * 4 = i * 4 + 4 by omega]
      refine ⟨?_, ?_, ?_, ?_⟩
      · rw [List.getElem?_append_right (by simp)]; simpa using this.1
      · rw [List.getElem?_append_right (by simp)]; simpa using this.2.1
      · rw [List.getElem?_append_right (by simp)]; simpa using this.2.2.1
      · rw [List.getElem?_append_right (by simp)]; simpa using this.2.2.2
theorem tr_cl {W H : Int} {zs : List Int} (hv : validB W H zs = true) : ∀ (j : Nat) c, (trS W H zs (4 * W * H).toNat).1[j]? = some c → c.length ≤ 256 := by
  intro j c hc
  obtain ⟨s, hs, rfl, _⟩ := (trS_inv hv _ (Nat.le_refl _)).cur j c hc
  unfold curS
  rw [List.length_map, List.length_range]
  exact (per_spec hv hs).2.1
theorem flatP_take {cs : List Wkr} {i : Nat} {s : Wkr} (h : cs[i]? = some s) : flatP (cs.take (i + 1)) = flatP (cs.take i) ++ [s.1, s.2.1] := by
  rw [List.take_add_one, h]
  simp [flatP, pnum]
theorem curP_take {cs : List (List Wkr)} {j : Nat} {c : List Wkr} (h : cs[j]? = some c) : curP (cs.take (j + 1)) = curP (cs.take j) ++ [vals (flatP c)] := by
  rw [List.take_add_one, h]
  simp [curP]

end Go.Proofs.Ytgcgaoblbhojnaa
