/- Opening the arguments of the laws: panels. -/
import Derived.Test.YtbgigompkmnapaaVp
import Derived.Lib.SmallJoins
import Derived.ChangeOld
namespace Go.Proofs.Ytbgigompkmnapaa
set_option linter.unusedSimpArgs false
set_option linter.unusedVariables false
open Go.ChangeShapes Go.WideShapes Go.ChangeAt Go.RowKit Go.Joins

theorem ownK : ownKnob Try.prog.godebug = none := by kernel_rfl
theorem laidOutK : laidOutB Try.prog = true := by kernel_rfl
theorem cellsI : Try.prog.cellsOf 2 = 1 := by kernel_rfl

theorem cellsP : Try.prog.cellsOf 24 = 3 := by kernel_rfl

theorem honeP : Go.Deep.oneCellFields Try.prog #[{ name := "W", type := 2, offset := 0, embedded := false, tag := "", pkgPath := "", byteOffset := 0 }, { name := "H", type := 2, offset := 1, embedded := false, tag := "", pkgPath := "", byteOffset := 8 }, { name := "Breaks", type := 22, offset := 2, embedded := false, tag := "", pkgPath := "", byteOffset := 16 }] = true := by kernel_rfl

section
variable {H : Type} {enc : TypeId × Value → H} {W : World} {base : Nat} {sp : Nat → Bool} {held : Bool}

/-- A slice of int64 that came in. -/
theorem ints_open {fuel : Nat} {v : Value} {x : DataW H × List MemPlace} (h : DataW.trod enc Try.prog W base sp held fuel 22 [v] = some x) :
    ∃ A c zs, v = .slice A zs.length c ∧ zs.length ≤ maxLen ∧ Ints W W.heap.size A zs ∧ ∀ z ∈ zs, (Lit.int .i64 z).wf = true := by
  rcases open_ints Try.underlying22 Try.underlying2 cellsI h with ⟨hcs, _⟩ | ⟨a, len, cap, zs, hcs, _, hl, hm, hz, _, hcell, hwz⟩
  · simp at hcs
    subst hcs
    exact ⟨none, 0, [], rfl, Nat.zero_le _, fun j z h => by simp at h, by simp⟩
  · simp at hcs
    subst hcs
    have hlen : len ≤ zs.length := by rw [hz]; split <;> omega
    have e : (zs.take len).length = len := by rw [List.length_take]; omega
    refine ⟨some a, cap, zs.take len, by rw [e], by omega, ?_, fun z hz => hwz z (List.mem_of_mem_take hz)⟩
    intro j z hj
    have hjl : j < len := by have := (List.getElem?_eq_some_iff.1 hj).1; omega
    have hzj : zs[j]? = some z := by rwa [List.getElem?_take, if_pos hjl] at hj
    obtain ⟨b, off, rfl, hc⟩ := ints_at hcell (by omega)
    have h1 := hc j (by omega)
    exact ⟨b, off, rfl, World.block_lt_of_cell? W _ h1, by rw [h1, List.getD_eq_getElem?_getD, hzj]; rfl⟩


set_option maxRecDepth 100000 in
theorem panel_open {b0 : Nat} {r : Reach} {v : Value} {d : DataW H} {ps : List MemPlace} (hv : Value.okWide Try.prog W r b0 24 v) (h : DataW.Trod enc Try.prog W base sp held 24 v d ps) :
    ∃ Wd Hd A c zs, v = .agg #[.int .i64 Wd, .int .i64 Hd, .slice A zs.length c] ∧ (Lit.int .i64 Wd).wf = true ∧ (Lit.int .i64 Hd).wf = true ∧ zs.length ≤ maxLen ∧ Ints W W.heap.size A zs ∧ ∀ z ∈ zs, (Lit.int .i64 z).wf = true := by
  obtain ⟨c0, c1, c2, y0, y1, y2, m, rfl, rfl, rfl, hy0, hy1, hy2⟩ := open_agg3 Try.underlying24 honeP cellsP hv h
  obtain ⟨a, e0, _, wa⟩ := DataW.trod_int Try.underlying2 hy0
  obtain ⟨b, e1, _, wb⟩ := DataW.trod_int Try.underlying2 hy1
  obtain ⟨A, c, zs, e2, hl, hz, hw⟩ := ints_open hy2
  simp at e0 e1
  subst e0 e1 e2
  exact ⟨a, b, A, c, zs, rfl, wa, wb, hl, hz, hw⟩
end
end Go.Proofs.Ytbgigompkmnapaa
