/- Opening the arguments of the laws: slices of strings. -/
import Derived.Test.YtgcgaoblbhojnaaSz
import Derived.Lib.SmallJoins
import Derived.ChangeOld
namespace Go.Proofs.Ytgcgaoblbhojnaa
set_option linter.unusedSimpArgs false
set_option linter.unusedVariables false
open Go.ChangeShapes Go.WideShapes Go.ChangeAt Go.RowKit Go.Joins
theorem cellsStr : Try.prog.cellsOf 9 = 1 := by kernel_rfl
section
variable {H : Type} {enc : TypeId × Value → H} {W : World} {base : Nat} {sp : Nat → Bool} {held : Bool}
set_option maxRecDepth 100000 in
/-- A slice of strings that came in. -/
theorem strs_open {b0 : Nat} {r : Reach} {v : Value} {d : DataW H} {ps : List MemPlace} (hv : Value.okWide Try.prog W r b0 27 v) (h : DataW.Trod enc Try.prog W base sp held 27 v d ps) :
    ∃ A c ss, v = .slice A ss.length c ∧ ss.length ≤ maxLen ∧ StrsR W W.heap.size A ss ∧ ∀ s ∈ ss, s.size ≤ maxLen := by
  obtain ⟨a1, len1, cap1, rfl⟩ := okWide_slice Try.underlying27 hv
  obtain ⟨fuel, hf⟩ := h
  have hc := Go.ChangeShapes.open_strings Try.underlying27 Try.underlying9 cellsStr hf
  rcases hc with ⟨hcs, _⟩ | ⟨a, len, cap, ss, hcs, _, hl, hm, hz, _, hcell, hwz⟩
  · simp [Value.cells] at hcs
    obtain ⟨rfl, rfl, rfl⟩ := hcs
    exact ⟨none, 0, [], rfl, Nat.zero_le _, fun j z h => by simp at h, by simp⟩
  · simp [Value.cells] at hcs
    obtain ⟨rfl, rfl, rfl⟩ := hcs
    have hlen : len1 ≤ ss.length := by rw [hz]; split <;> omega
    have e : (ss.take len1).length = len1 := by rw [List.length_take]; omega
    refine ⟨some a, cap1, ss.take len1, by rw [e], by omega, ?_, fun z hz => hwz z (List.mem_of_mem_take hz)⟩
    intro j z hj
    have hjl : j < len1 := by have := (List.getElem?_eq_some_iff.1 hj).1; omega
    have hzj : ss[j]? = some z := by rwa [List.getElem?_take, if_pos hjl] at hj
    obtain ⟨b, off, spot⟩ := a
    have h0 := hcell 0 (by omega)
    have hspot : spot = none := by simpa [Addr.add] using World.cell?_spot h0
    subst hspot
    have h1 := hcell j (by omega)
    rw [add_plain] at h1
    exact ⟨b, off, rfl, World.block_lt_of_cell? W _ h1, by rw [h1, List.getD_eq_getElem?_getD, hzj]; rfl⟩
end
end Go.Proofs.Ytgcgaoblbhojnaa
